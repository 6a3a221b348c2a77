import Derived.Test.YtenhhokhkkfgbaaGreatC1
/- Part of the proof. -/
set_option linter.unusedVariables false
set_option linter.unusedSimpArgs false
/-
 Each operation over values without addresses is the model's: the rest.
-/
namespace Go.Vw
open Go.RowKit
section
variable {P:Program} {N:Nat} {S:Store} {m:Imm} {β:Objs} {w:World} {σ:Fr} {a:Act}
theorem Jr {t e:TypeId} {i:TypeInfo} (h:Program.slc P t=some (e,i)):P.underlying t=some (.slice e)/\P.info? e=some i:=by
 unfold Program.slc at h;split at h
 ·rename_i e' hu;split at h
  ·rename_i i' hi; cases h; exact ⟨hu,hi⟩
  ·cases h
 ·cases h
theorem does_index {o:Oper} {t e:TypeId} {j:TypeInfo} {y i:Operand} {z iz:Arg} {x:V} (ho:o.op = .indexAddr t y i) (hs:Program.slc P t=some (e,j)) (hz:jr y=some z) (hi:jr i=some iz)
  (hS:Holds S m β w) (hF:FrameRep N m β σ a) (he:jB j.size S (ev σ z) (ev σ iz)=some x):Does P ((execOp a.eval o).run P w) x S m β w:=by
 obtain ⟨hu,hj⟩:=Jr hs;have hr:=jA hF hz;have hri:=jA hF hi;generalize ev σ z=p at he hr;generalize ev σ iz=q at he hri;have run : ∀ (b off len cap:Nat) (k:IntKind) (n:Int),a.eval y = .slice (some ⟨b,off,none⟩) len cap->a.eval i = .int k n->0<=n->n<len ->
   (execOp a.eval o).run P w = .ok (.value (.pointer (some ⟨b,off+n.toNat*j.size,none⟩))) w:=by
  intro b off len cap k n h1 h2 h3 h4;simp [execOp,ho,h1,h2,Instr.indexAt,asIntOf,run_underlying hu,h3,h4,sizeOf,typeInfo,hj,Jv]
 cases q with
 | int k n =>
  have e2:=hri.inv_int
  cases p with
  | list xs =>
   simp only [jB] at he;split at he
   ·rename_i h0
    cases hx:xs[n.toNat]? with
    | none=>simp [hx] at he
    | some y' =>
     simp only [hx] at he;split at he
     ·rename_i hsz
      cases he
      have hl:=hr.inv_list
      cases hq:a.eval y with
      | slice ad len cap =>
       rw [hq] at hl;have hlt:n.toNat<xs.length:=(ae.1 hx).1
       cases hl with
       | list0=>simp at hlt
       | list _ vs b off _ s arr T fz hm hl hc hcm hs' hr' hcells =>
        have hv:n.toNat<vs.length:=by omega
        have hrv:=hr' n.toNat y' vs[n.toNat] hx (ac hv);have hsz':s=j.size:=by rw [<-hs' _ (ah hv),hrv.cells_size,hsz]
        subst hsz';refine Does.same hS (run b off _ _ k n hq e2 h0 (by omega)) (.imm (.ref y' vs[n.toNat] b _ arr T fz hm hrv fun jj c hc' => ?_));exact hcells n.toNat _ jj c (ac hv) hc'
      | _=>rw [hq] at hl; cases hl
     ·cases he
   ·cases he
  | slice o' off len =>
   simp only [jB] at he;split at he
   ·rename_i h0
    cases he
    obtain ⟨c,hc⟩:=Option.isSome_iff_exists.1 h0.1;obtain ⟨ad,cap,e1,hlc,hcm,hcase⟩:=hr.inv_slice (hS.alive hc);rcases hcase with ⟨_,h1,_⟩ | ⟨b,base,s,nn,hob,hcase⟩
    ·omega
    ·rcases hcase with hcase | ⟨had,hroom⟩
     ·omega
     ·subst had;refine Does.same hS (run b (base+off) len cap k n e1 e2 h0.2.1 h0.2.2) ?_;have:=Rep.ptr (m:=m) o' (off+n.toNat*j.size) b base s nn hob
      rwa [<-Nat.add_assoc] at this
   ·cases he
  | _=>simp [jB] at he
 | _=>cases p<;>simp [jB] at he
theorem fld_spec {t:TypeId} {f off:Nat} {sz:Option Nat} (h:Program.fld P t f=some (off,sz)) :
  ∃ fs fd i,P.underlying t=some (.struct fs)/\fs[f]? = some fd/\fd.offset=off/\Program.szOf P fd.type=some sz/\P.info? fd.type=some i/\i.size≠0:=by
 unfold Program.fld at h;split at h
 ·rename_i fs hu;split at h
  ·rename_i fd hf;split at h
   ·rename_i sz' j h1 h2;split at h
    ·cases h
    ·rename_i h3; cases h; exact ⟨fs,fd,j,hu,hf,rfl,h1,h2,h3⟩
   ·cases h
  ·cases h
 ·cases h
theorem partI {xs:List V} {vs:List Value} (hl:xs.length=vs.length) (hr : ∀ (i:Nat) x v,xs[i]? = some x->vs[i]? = some v->RepI m x v) (h1 : ∀ v∈vs,v.oneCell'=true) {off:Nat} {sz:Option Nat} {y:V}
  (he:WK xs off sz=some y) : ∃ u,RepI m y u/\(∀ (j:Nat) c,u.cells[j]? = some c->vs[off+j]? = some c):=by
 cases sz with
 | none =>
  simp only [WK] at he;have hlt:off<xs.length:=(ae.1 he).1;have hv:off<vs.length:=by omega
  refine ⟨vs[off],hr off y _ he (ac hv),fun j c hc => ?_⟩;have ho:=h1 _ (ah hv);have ec:(vs[off]).cells = #[vs[off]]:=by cases hq:vs[off]<;>first | rfl | (rw [hq] at ho; simp [Value.oneCell'] at ho)
  rw [ec] at hc
  cases j with
  | zero=>simp at hc; subst hc; simp [hv]
  | succ j=>simp at hc
 | some n =>
  simp only [WK] at he;split at he
  ·rename_i hle
   cases he
   refine ⟨.agg ((vs.drop off).take n).toArray, .agg _ _ (by simp; omega) (fun i x v hx hv => ?_) (fun v hv=>h1 v (List.mem_of_mem_drop (List.mem_of_mem_take hv))),fun j c hc => ?_⟩
   ·rw [List.getElem?_take] at hx hv;split at hx
    ·rename_i hi; rw [if_pos hi] at hv; rw [List.getElem?_drop] at hx hv; exact hr _ x v hx hv
    ·cases hx
   ·simp only [Value.cells,List.getElem?_toArray,List.getElem?_take] at hc;split at hc
    ·rw [List.getElem?_drop] at hc; exact hc
    ·cases hc
  ·cases he
theorem jbn {o:Oper} {t:TypeId} {f off:Nat} {sz:Option Nat} {y:Operand} {z:Arg} {x:V} (ho:o.op = .fieldAddr t y f) (hf:Program.fld P t f=some (off,sz)) (hz:jr y=some z)
  (hS:Holds S m β w) (hF:FrameRep N m β σ a) (he:jD off sz S (ev σ z)=some x):Does P ((execOp a.eval o).run P w) x S m β w:=by
 obtain ⟨fs,fd,i,hu,hfd,rfl,hsz,hi,h0⟩:=fld_spec hf;have hr:=jA hF hz;generalize ev σ z=p at he hr;have run : ∀ (b q:Nat),a.eval y = .pointer (some ⟨b,q,none⟩)->(execOp a.eval o).run P w = .ok (.value (.pointer (some ⟨b,q+fd.offset,none⟩))) w:=by
  intro b q h1;simp [execOp,ho,h1,Instr.fieldAt,run_underlying hu,hfd,Instr.sureAddr,fieldPlace,sizeOf,typeInfo,hi,h0,Jv]
 cases p with
 | ptr o' q =>
  simp only [jD] at he;split at he
  ·rename_i hs
   cases he
   obtain ⟨c,hc⟩:=Option.isSome_iff_exists.1 hs;obtain ⟨b,base,s,n,hob,e⟩:=hr.inv_ptr (hS.alive hc);refine Does.same hS (run b _ e) ?_;have:=Rep.ptr (m:=m) o' (q+fd.offset) b base s n hob
   rwa [<-Nat.add_assoc] at this
  ·cases he
 | ref x' =>
  cases x' with
  | agg cs =>
   simp only [jD,av] at he;obtain ⟨y',hy,rfl⟩:=he;obtain ⟨u,b,q,arr,T,fz,e,hm,hu',hc⟩:=hr.inv_ref
   cases hu' with
   | agg xs vs hl hr' h1 =>
    obtain ⟨v,hv,hcs⟩:=partI hl hr' h1 hy;refine Does.same hS (run b _ e) (.imm (.ref y' v b _ arr T fz hm hv fun j c hj => ?_));have:=hc (fd.offset+j) c (by simpa [Value.cells] using hcs j c hj)
    rwa [<-Nat.add_assoc] at this
  | _=>simp [jD] at he
 | _=>simp [jD] at he
theorem partR {xs:List V} {vs:List Value} (hl:xs.length=vs.length) (hr : ∀ (i:Nat) x v,xs[i]? = some x->vs[i]? = some v->Rep m β x v) (h1 : ∀ v∈vs,v.oneCell'=true) {off:Nat} {sz:Option Nat} {y:V}
  (he:WK xs off sz=some y):(sz=none -> ∃ u,vs[off]? = some u/\Rep m β y u)/\(∀ n,sz=some n->off+n<=vs.length/\Rep m β y (.agg ((vs.drop off).take n).toArray)):=by
 cases sz with
 | none =>
  simp only [WK] at he;have hlt:off<xs.length:=(ae.1 he).1;have hv:off<vs.length:=by omega
  exact ⟨fun _=>⟨vs[off],ac hv,hr off y _ he (ac hv)⟩,(by intro n hn; cases hn)⟩
 | some n =>
  simp only [WK] at he;split at he
  ·rename_i hle
   cases he
   refine ⟨(by intro hn; cases hn),fun k hk => ?_⟩
   cases hk
   refine ⟨by omega, .agg _ _ (by simp; omega) (fun i x v hx hv => ?_) (fun v hv=>h1 v (List.mem_of_mem_drop (List.mem_of_mem_take hv)))⟩;rw [List.getElem?_take] at hx hv;split at hx
   ·rename_i hi; rw [if_pos hi] at hv; rw [List.getElem?_drop] at hx hv; exact hr _ x v hx hv
   ·cases hx
  ·cases he
theorem does_field {o:Oper} {t:TypeId} {f off:Nat} {sz:Option Nat} {y:Operand} {z:Arg} {x:V} (ho:o.op = .field t y f) (hf:Program.fld P t f=some (off,sz)) (hz:jr y=some z)
  (hS:Holds S m β w) (hF:FrameRep N m β σ a) (he:Yx off sz (ev σ z)=some x):Does P ((execOp a.eval o).run P w) x S m β w:=by
 obtain ⟨fs,fd,i,hu,hfd,rfl,hsz,hi,h0⟩:=fld_spec hf;have hr:=jA hF hz;generalize ev σ z=p at he hr
 cases p with
 | agg cs =>
  simp only [Yx] at he;obtain ⟨vs,e,hl,hr',h1⟩:=hr.inv_agg;obtain ⟨hn,hs⟩:=partR hl hr' h1 he;obtain ⟨i',hi',hagg,hsome,hnone⟩:=ZY hsz w;rw [hi] at hi'; cases hi'
  cases sz with
  | none =>
   obtain ⟨u,hu',hru⟩:=hn rfl;simp at hagg;refine Does.same hS ?_ hru;simp [execOp,ho,e,Instr.field,run_underlying hu,hfd,asAgg,part,hagg,hu']
  | some n =>
   obtain ⟨hle,hru⟩:=hs n rfl;simp at hagg;refine Does.same hS ?_ hru;simp [execOp,ho,e,Instr.field,run_underlying hu,hfd,asAgg,part,hagg,sizeOf,typeInfo,hi,hsome n rfl]
 | _=>simp [Yx] at he
theorem Jo {α γ:Type} (f:α->List γ) (s:Nat) (hs:0<s) : ∀ (l:List α),(∀ x∈l,(f x).length=s) -> ∀ q:Nat,(l.flatMap f)[q]? = (l[q / s]?).bind fun x=>(f x)[q % s]?
 | [],_,q=>by simp
 | x::l,h,q=>by
  have ih:=Jo f s hs l (fun y hy=>h y (List.mem_cons_of_mem _ hy));have hx:=h x List.mem_cons_self;simp only [List.flatMap_cons,List.getElem?_append,hx]
  by_cases hq:q<s
  ·rw [if_pos hq,Nat.div_eq_of_lt hq,Nat.mod_eq_of_lt hq]; rfl
  ·rw [if_neg hq,ih];have e1:q / s=(q-s) / s+1:=by
    have:=Nat.add_div_right (q-s) hs;rw [Nat.sub_add_cancel (by omega)] at this;exact this
   have e2:q % s=(q-s) % s:=by
    have:=Nat.add_mod_right (q-s) s;rw [Nat.sub_add_cancel (by omega)] at this;exact this
   rw [e1,e2]; rfl
theorem zP {α γ:Type} (f:α->List γ) (s:Nat) : ∀ (l:List α),(∀ x∈l,(f x).length=s)->(l.flatMap f).length=l.length*s
 | [],_=>by simp
 | x::l,h=>by
  have ih:=zP f s l (fun y hy=>h y (List.mem_cons_of_mem _ hy));simp [h x List.mem_cons_self,ih,Nat.succ_mul,Nat.add_comm]
def Src (m:Imm) (β:Objs) (w:World) (s:Nat) (v:Value) (new:List V) (k:Nat):Prop :=
 ∃ ad cap,v = .slice ad k cap/\k<=cap/\cap<=maxLen /\ ∃ vs:List Value,vs.length=k*s/\RepL m β new vs/\(∀ v∈vs,v.oneCell'=true) /\
  (vs=[] \/ ∃ b off,ad=some ⟨b,off,none⟩ /\ ∀ (j:Nat) u,vs[j]? = some u->w.cell? ⟨b,off+j,none⟩=some u)
theorem RepI.ones {x:V} {v:Value} (h:RepI m x v):(∀ c∈v.cells,c.oneCell'=true)/\x.cells.length=v.cells.size /\ ∀ (i:Nat) c u,x.cells[i]? = some c->v.cells[i]? = some u->RepI m c u:=by
 have single:x.cells=[x]->v.cells = #[v]->v.oneCell'=true->(∀ c∈v.cells,c.oneCell'=true)/\x.cells.length=v.cells.size /\ ∀ (i:Nat) c u,x.cells[i]? = some c->v.cells[i]? = some u->RepI m c u:=by
  intro e1 e2 e3;rw [e1,e2];refine ⟨fun c hc=>by simp at hc; subst hc; exact e3,rfl,fun i c u hc hu => ?_⟩
  cases i with
  | zero=>simp at hc hu; subst hc; subst hu; exact h
  | succ i=>simp at hc
 cases h with
 | agg xs vs hl hr h1=>exact ⟨fun c hc=>h1 c (by simpa [Value.cells] using hc),by simpa [V.cells,Value.cells] using hl,fun i c u hc hu=>hr i c u hc (by simpa [Value.cells] using hu)⟩
 | _=>exact single rfl rfl rfl
theorem jcf {s:Nat} {p:V} {v:Value} {new:List V} {k:Nat} (hS:Holds S m β w) (hr:Rep m β p v) (he:jO s S p=some (new,k)):Src m β w s v new k:=by
 cases p with
 | nils =>
  simp only [jO] at he; cases he;obtain ⟨ad,e⟩:=hr.inv_nils;exact ⟨ad,0,e,bf _,Nat.zero_le _,[],by simp,RepL.nil _ _,by simp, .inl rfl⟩
 | list xs =>
  simp only [jO] at he;split at he
  ·rename_i hall
   cases he
   have hall' : ∀ x∈xs,x.ncells=s:=by simpa using hall
   have hl:=hr.inv_list
   cases hv:v with
   | slice ad len cap =>
    rw [hv] at hl
    cases hl with
    | list0 _ _ hc=>exact ⟨ad,cap,rfl,Nat.zero_le _,hc,[],by simp,RepL.nil _ _,by simp, .inl rfl⟩
    | list _ vs b off _ s' arr T fz hm hl hc hcm hs' hr' hcells =>
     by_cases h0:xs=[]
     ·subst h0;exact ⟨_,cap,rfl,hc,hcm,[],by simp,RepL.nil _ _,by simp, .inl rfl⟩
     ·have hss:s'=s:=by
       have hp:0<xs.length:=List.length_pos_iff.2 h0;have hpv:0<vs.length:=by omega
       have h1:=hr' 0 xs[0] vs[0] (ac hp) (ac hpv);rw [<-hs' vs[0] (ah hpv),h1.cells_size,hall' _ (ah hp)]
      subst hss;have lx : ∀ x∈xs,(V.cells x).length=s':=fun x hx=>by
       rw [<-hall' x hx]; cases x<;>rfl
      have lv : ∀ u∈vs,u.cells.toList.length=s':=fun u hu=>by simpa using hs' u hu
      refine ⟨_,cap,rfl,hc,hcm,vs.flatMap fun u=>u.cells.toList,by rw [zP _ s' vs lv,hl],⟨by rw [zP _ s' xs lx,zP _ s' vs lv,hl], ?_⟩, ?_, ?_⟩
      ·intro i x u hx hu
       by_cases hs0:s'=0
       ·have:=zP _ s' xs lx;rw [hs0,Nat.mul_zero] at this;rw [aO this] at hx
        cases hx
       ·rw [Jo _ s' (by omega) xs lx] at hx;rw [Jo _ s' (by omega) vs lv] at hu;obtain ⟨x',hx1,hx2⟩:=aN.1 hx;obtain ⟨u',hu1,hu2⟩:=aN.1 hu;exact .imm ((hr' _ x' u' hx1 hu1).ones.2.2 _ x u hx2 (by simpa using hu2))
      ·intro u hu;obtain ⟨u',hu1,hu2⟩:=bj.1 hu;obtain ⟨i,hi,rfl⟩:=a9 hu1;exact (hr' i xs[i] vs[i] (ac (by omega)) (ac hi)).ones.1 u (by simpa using hu2)
      ·refine .inr ⟨b,off,rfl,fun j u hj => ?_⟩
       by_cases hs0:s'=0
       ·have:=zP _ s' vs lv;rw [hs0,Nat.mul_zero] at this;rw [aO this] at hj
        cases hj
       ·rw [Jo _ s' (by omega) vs lv] at hj;obtain ⟨u',hu1,hu2⟩:=aN.1 hj;rw [YM (hS.imm _ _ hm)];have:=hcells (j / s') u' (j % s') u hu1 (by simpa using hu2);rw [Nat.add_assoc,Nat.mul_comm,Nat.div_add_mod] at this;exact this
   | _=>rw [hv] at hl; cases hl
  ·cases he
 | slice o off len =>
  simp only [jO] at he
  cases hc:S.get o with
  | none=>simp [hc] at he
  | some c =>
   simp only [hc] at he;split at he
   ·rename_i hle
    cases he
    obtain ⟨ad,cap,e,hlc,hcm,hcase⟩:=hr.inv_slice (hS.alive hc);rcases hcase with ⟨hv,h1,h2⟩ | ⟨b,base,s',n,hob,hcase⟩
    ·subst h1;exact ⟨ad,cap,e,hlc,hcm,[],by simp,by simpa using RepL.nil m β,by simp, .inl rfl⟩
    ·obtain ⟨_,arr,T,h1,h2,h3,h4⟩:=hS.cells_at hc hob;rcases hcase with hcap | ⟨had,hroom⟩
     ·have h0:k=0:=by omega
      subst h0;exact ⟨ad,cap,e,hlc,hcm,[],by simp,by simpa using RepL.nil m β,by simp, .inl rfl⟩
     ·obtain ⟨vs,hl,hcs,hrl,hone⟩:=Jh h4 off (k*s) hle;exact ⟨ad,cap,e,hlc,hcm,vs,hl,hrl,hone, .inr ⟨b,base+off,had,fun j u hj=>by rw [YM h1]; exact hcs j u hj⟩⟩
   ·cases he
 | _=>simp [jO] at he
theorem zA {s k n:Nat} {v:Value} {ad:Option Addr} {cap:Nat} {vs:List Value} (hv:v = .slice ad k cap) (hn:n<=k) (hl:vs.length=k*s)
  (h:vs=[] \/ ∃ b off,ad=some ⟨b,off,none⟩ /\ ∀ (j:Nat) u,vs[j]? = some u->w.cell? ⟨b,off+j,none⟩=some u):(Builtin.firstCells s n v).run P w = .ok (vs.take (n*s)).toArray w:=by
 subst hv;have hle:n*s<=k*s:=Nat.mul_le_mul_right _ hn;rcases h with h | ⟨b,off,rfl,hc⟩
 ·subst h;have h0:n*s=0:=by rw [<-hl] at hle; simpa using hle
  cases ad with
  | none=>simp [Builtin.firstCells]
  | some a'=>simp [Builtin.firstCells,h0,loadCells,loadCellsFrom]
 ·have hlen:(vs.take (n*s)).length=n*s:=by simp; omega
  refine run_firstCells_some w s n ⟨b,off,none⟩ k cap _ hlen fun j u hj => ?_
  rw [Jv];rw [List.getElem?_take] at hj;split at hj
  ·exact hc j u hj
  ·cases hj
theorem Ke {t ty e:TypeId} {i:TypeInfo} (ht:P.underlying t=some (.slice e)) (hi:P.info? e=some i) (ad ad2:Option Addr) (sLen sCap k c2:Nat) (news:Array Value) (w':World)
  (hf:(Builtin.firstCells i.size k (.slice ad2 k c2)).run P w = .ok news w) (hroom:sLen+k<=sCap)
  (hst : ∀ a',ad=some a'->(storeCells (a'.add (sLen*i.size)) news.toList).run P w = .ok () w') (hst0:ad=none->w'=w) :
  (Builtin.append_ #[t,t] ty #[.slice ad sLen sCap, .slice ad2 k c2]).run P w = .ok (.slice ad (sLen+k) sCap) w':=by
 cases ad with
 | none=>rw [hst0 rfl]; simp [Builtin.append_,run_underlying ht,sizeOf,typeInfo,hi,Builtin.lenOf,hroom,hf]
 | some a'=>simp [Builtin.append_,run_underlying ht,sizeOf,typeInfo,hi,Builtin.lenOf,hroom,hf,hst a' rfl]
theorem Zo {t ty e:TypeId} {i:TypeInfo} {z:Value} (ht:P.underlying t=some (.slice e)) (hi:P.info? e=some i) (hz:i.zero=some z) (ad ad2:Option Addr) (sLen sCap k c2:Nat) (olds news:Array Value)
  (hf:(Builtin.firstCells i.size k (.slice ad2 k c2)).run P w.drew = .ok news w.drew) (hfo:(Builtin.firstCells i.size sLen (.slice ad sLen sCap)).run P w.drew = .ok olds w.drew)
  (hg:sCap<sLen+k) (h63:sLen+k<=140737488355328) (hb:(sLen+k)*i.bytes<=140737488355328) :
  (Builtin.append_ #[t,t] ty #[.slice ad sLen sCap, .slice ad2 k c2]).run P w =
   .ok (.slice (some ⟨w.heap.size,0,none⟩) (sLen+k) (grownCap w (sLen+k) sCap e)) (w.drew.alloc (.cells (olds++news++Builtin.zeroCells z.cells (grownCap w (sLen+k) sCap e-(sLen+k))) e)):=by
 have hn : ¬ (sLen+k<=sCap):=by omega
 have h63' : ¬ (9223372036854775807<((sLen:Int)+(k:Int))):=by omega
 have h48:=growslice_fits hg hb;have h48' : ¬ (281474976710656<Builtin.nextslicecap (sLen+k) sCap*i.bytes):=by omega
 simp [Builtin.append_,run_underlying ht,sizeOf,typeInfo,zeroValue,hi,hz,Builtin.lenOf,hn,h63',h48',Question.forced,hf,hfo,newRow,grownCap]
theorem wrap_i64k {k:Nat} (h2:k<=140737488355328):IntKind.i64.wrap (k:Int)=(k:Int):=by
 rw [IntKind.wrap_i64]; omega
theorem Kd {t u ty e:TypeId} {i:TypeInfo} {z:Value} {kk:IntKind} (ht:P.underlying t=some (.slice e)) (hu:P.underlying u=some (.int kk)) (hi:P.info? e=some i) (hz:i.zero=some z) (hzs:z.cells.size=i.size) (ad:Option Addr) (sLen sCap k:Nat) (w':World)
  (hk:k<=140737488355328) (hb:k*i.bytes<=140737488355328) (hroom:sLen+k<=sCap)
  (hst : ∀ a',ad=some a'->(storeCells (a'.add (sLen*i.size)) (Builtin.zeroCells z.cells k).toList).run P w = .ok () w') (hst0:ad=none->w'=w) :
  (Builtin.append_ #[t,u] ty #[.slice ad sLen sCap, .int .i64 (k:Int)]).run P w = .ok (.slice ad (sLen+k) sCap) w':=by
 have hw:IntKind.i64.wrap (k:Int)=(k:Int):=wrap_i64k (by omega);have h0 : ¬ (k:Int)<0:=by omega
 have hb' : ¬ (281474976710656<(k:Int)*(i.bytes:Int)):=by
  have:(k:Int)*(i.bytes:Int)=((k*i.bytes:Nat):Int):=by simp
  rw [this]; omega
 have h48 : ¬ ((2:Int)^48<(k:Int)*(i.bytes:Int)):=by simpa using hb'
 by_cases hks:k*i.size=0
 ·have e0:(Builtin.zeroCells z.cells k).toList=[]:=aO (by rw [Array.length_toList,size_zeroCells,hzs,hks]);rw [e0] at hst
  cases ad with
  | none=>rw [hst0 rfl]; simp [Builtin.append_,run_underlying ht,run_underlying hu,sizeOf,typeInfo,hi,asInt,asIntOf,hw,h0,hb',hroom,hks]
  | some a'=>simp [Builtin.append_,run_underlying ht,run_underlying hu,sizeOf,typeInfo,hi,asInt,asIntOf,hw,h0,hb',hroom,hks,hst a' rfl]
 ·cases ad with
  | none=>rw [hst0 rfl]; simp [Builtin.append_,run_underlying ht,run_underlying hu,sizeOf,typeInfo,zeroValue,hi,hz,asInt,asIntOf,hw,h0,hb',hroom,hks]
  | some a'=>simp [Builtin.append_,run_underlying ht,run_underlying hu,sizeOf,typeInfo,zeroValue,hi,hz,asInt,asIntOf,hw,h0,hb',hroom,hks,hst a' rfl]
theorem Zn {t u ty e:TypeId} {i:TypeInfo} {z:Value} {kk:IntKind} (ht:P.underlying t=some (.slice e)) (hu:P.underlying u=some (.int kk)) (hi:P.info? e=some i) (hz:i.zero=some z) (hzs:z.cells.size=i.size) (ad:Option Addr) (sLen sCap k:Nat) (olds:Array Value)
  (hfo:(Builtin.firstCells i.size sLen (.slice ad sLen sCap)).run P w.drew = .ok olds w.drew)
  (hg:sCap<sLen+k) (h63:sLen+k<=140737488355328) (hb:(sLen+k)*i.bytes<=140737488355328) :
  (Builtin.append_ #[t,u] ty #[.slice ad sLen sCap, .int .i64 (k:Int)]).run P w =
   .ok (.slice (some ⟨w.heap.size,0,none⟩) (sLen+k) (grownCap w (sLen+k) sCap e)) (w.drew.alloc (.cells (olds++Builtin.zeroCells z.cells k++Builtin.zeroCells z.cells (grownCap w (sLen+k) sCap e-(sLen+k))) e)):=by
 have hn : ¬ (sLen+k<=sCap):=by omega
 have h63' : ¬ (9223372036854775807<((sLen:Int)+(k:Int))):=by omega
 have h48:=growslice_fits hg hb;have h48' : ¬ (281474976710656<Builtin.nextslicecap (sLen+k) sCap*i.bytes):=by omega
 have hw:IntKind.i64.wrap (k:Int)=(k:Int):=wrap_i64k (by omega);have h0 : ¬ (k:Int)<0:=by omega
 have hkb:k*i.bytes<=(sLen+k)*i.bytes:=Nat.mul_le_mul_right _ (by omega);have hb' : ¬ (281474976710656<(k:Int)*(i.bytes:Int)):=by
  have:(k:Int)*(i.bytes:Int)=((k*i.bytes:Nat):Int):=by simp
  rw [this]; omega
 by_cases hks:k*i.size=0
 ·have e0:Builtin.zeroCells z.cells k = #[]:=Array.eq_empty_of_size_eq_zero (by rw [size_zeroCells,hzs,hks]);simp [Builtin.append_,run_underlying ht,run_underlying hu,sizeOf,typeInfo,zeroValue,hi,hz,asInt,asIntOf,hw,h0,hb',hn,h63',h48',Question.forced,hfo,newRow,grownCap,hks,e0]
 ·simp [Builtin.append_,run_underlying ht,run_underlying hu,sizeOf,typeInfo,zeroValue,hi,hz,asInt,asIntOf,hw,h0,hb',hn,h63',h48',Question.forced,hfo,newRow,grownCap,hks]
end
end Go.Vw
/-
 Each operation over values without addresses is the model's: what makes memory.
-/
namespace Go.Vw
open Go.RowKit
section
variable {P:Program} {N:Nat} {S:Store} {m:Imm} {β:Objs} {w:World} {σ:Fr} {a:Act}
theorem zK {t:TypeId} {z:List V} (h:Program.zeroV P t=some z) : ∃ i zv,P.info? t=some i/\i.zero=some zv/\zv.cells.size=i.size/\z.length=i.size /\
  ∀ (j:Nat) x,z[j]? = some x -> ∃ u,zv.cells[j]? = some u/\RepI m x u/\u.oneCell'=true/\x.one=true:=by
 unfold Program.zeroV at h;split at h
 ·rename_i i hi;split at h
  ·rename_i zv hz;split at h
   ·rename_i hs;obtain ⟨h1,h2⟩:=ZC h;refine ⟨i,zv,hi,hz,hs,by rw [<-h1]; simpa using hs,fun j x hx => ?_⟩;have hlt:j<zv.cells.toList.length:=by rw [h1]; exact (ae.1 hx).1
    have hc:=h2 j _ x (ac hlt) hx;have hlt':j<zv.cells.size:=by simpa using hlt
    exact ⟨_,by rw [<-Array.getElem?_toList]; exact ac hlt,Ws hc,(Wt hc).1,(Wt hc).2⟩
   ·cases h
  ·cases h
 ·cases h
theorem KX {S':Store} {m:Imm} {β:Objs} {w0 w:World} (hS:Holds S' m β w) (hw : ∀ k,k<w0.heap.size->w.heap[k]? = w0.heap[k]?) (hsz:w.heap.size=w0.heap.size)
  {s:Nat} {new:List V} {T:TypeId} (arr:Array Value) (len cap:Nat) (hle:new.length<=arr.size) (hlc:len<=cap) (hcm:cap<=maxLen) (harr:cap*s<=arr.size)
  (hr : ∀ (i:Nat) x,new[i]? = some x -> ∃ v,arr[i]? = some v/\Rep m β x v/\v.oneCell'=true) :
  ∃ β',Rep m β' (.slice S'.nx 0 len) (.slice (some ⟨w.heap.size,0,none⟩) len cap)/\Holds (S'.add (s,new)) m β' (w.alloc (.cells arr T))/\Ext m β w m β' (w.alloc (.cells arr T)):=by
 obtain ⟨h1,h2,h3⟩:=hS.alloc arr T s new hle hr;refine ⟨_, ?_,h1,h2⟩;have:=Rep.slice (m:=m) (β:=β.set S'.nx (.lies w.heap.size 0 s arr.size)) S'.nx 0 len w.heap.size 0 s arr.size cap (some ⟨w.heap.size,0,none⟩) h3 hlc hcm (.inr ⟨rfl,by simpa using harr⟩);exact this
theorem Ext.drewl {m:Imm} {β:Objs} {w:World} {m':Imm} {β':Objs} {w':World} (h:Ext m β w.drew m' β' w'):Ext m β w m' β' w':=(Ext.drew m β w).trans h
theorem Ext.dropNew {m:Imm} {β β':Objs} {w w':World} {o:Nat} (h:Ext m (β.set o .dead) w m β' w') (hm : ∀ b,(β o).block? = some b->m b=none):Ext m β w m β' w':=by
 refine ⟨h.imm,(Step.kill β o).trans h.step,h.size,fun b hb h1 h2 => ?_,h.os,h.tape,h.output⟩;refine h.keep b hb h1 fun o' ho' => ?_
 by_cases e:o'=o
 ·subst e; rw [Objs.set_same] at ho'; cases ho'
 ·rw [Objs.set_other _ _ e] at ho'; exact h2 o' ho'
theorem does_append {o:Oper} {t e:TypeId} {i:TypeInfo} {zs:List V} {y u:Operand} {yz uz:Arg} {x:V} {S':Store} (ho:o.op = .call { callee := .builtin .append,args := #[y,u],argTypes := #[t,t] })
  (hs:Program.slc P t=some (e,i)) (hzv:Program.zeroV P e=some zs) (h0:0<i.size) (hy:jr y=some yz) (hu:jr u=some uz) (hS:Holds S m β w) (hF:FrameRep N m β σ a)
  (he:jR i.size i.bytes S (ev σ yz) (ev σ uz)=some (x,S')):Does P ((execOp a.eval o).run P w) x S' m β w:=by
 obtain ⟨hut,hi⟩:=Jr hs;obtain ⟨i',z,hi',hz,hzs,_⟩:=zK (m:=m) hzv;rw [hi] at hi'; cases hi';have hry:=jA hF hy;have hru:=jA hF hu;generalize ev σ yz=p at he hry;generalize ev σ uz=q at he hru;simp only [jR] at he
 cases hq:jO i.size S q with
 | none=>simp [hq] at he
 | some nk =>
  obtain ⟨new,k⟩:=nk;simp only [hq] at he;obtain ⟨ad2,c2,e2,hk2,hcm2,vs,hvl,hvr,hvo,hvc⟩:=jcf hS hru hq;have hnl:new.length=k*i.size:=by rw [hvr.1,hvl]
  have hvc':vs=[] \/ ∃ b off,ad2=some ⟨b,off,none⟩ /\ ∀ (j:Nat) u,vs[j]? = some u->w.drew.cell? ⟨b,off+j,none⟩=some u:=hvc
  have hf:(Builtin.firstCells i.size k (.slice ad2 k c2)).run P w = .ok vs.toArray w:=by
   have:=zA (P:=P) (n:=k) (v := .slice ad2 k c2) rfl (bf k) hvl hvc
   rwa [List.take_of_length_le (by omega)] at this
  have hfd:(Builtin.firstCells i.size k (.slice ad2 k c2)).run P w.drew = .ok vs.toArray w.drew:=by
   have:=zA (P:=P) (n:=k) (v := .slice ad2 k c2) rfl (bf k) hvl hvc'
   rwa [List.take_of_length_le (by omega)] at this
  have run : ∀ ad (sl sc:Nat) v' w',a.eval y = .slice ad sl sc->(Builtin.append_ #[t,t] o.type #[.slice ad sl sc, .slice ad2 k c2]).run P w = .ok v' w'->(execOp a.eval o).run P w = .ok (.value v') w':=by
   intro ad sl sc v' w' h1 h2;simp [execOp,ho,resolve,invoke,builtin,h1,e2,h2]
  -- a new row
  have grow : ∀ ad (sl sc:Nat) (old:List V) (ovs:List Value) (S1:Store) (β1:Objs),a.eval y = .slice ad sl sc->old.length=sl*i.size->RepL m β old ovs->(∀ v∈ovs,v.oneCell'=true) ->
    (Builtin.firstCells i.size sl (.slice ad sl sc)).run P w.drew = .ok ovs.toArray w.drew->sc<sl+k->(sl+k)*i.bytes<=140737488355328->sl+k<=140737488355328 ->
    Holds S1 m β1 w->Step β β1->(∀ β' w',Ext m β1 w m β' w'->Ext m β w m β' w')->Does P ((execOp a.eval o).run P w) (.slice S1.nx 0 (sl+k)) (S1.add (i.size,old++new)) m β w:=by
   intro ad sl sc old ovs S1 β1 h1 h2 h3 h4 h5 h6 h7 h8 h9 h10 h11;have hr:=Zo (P:=P) (w:=w) (ty:=o.type) hut hi hz ad ad2 sl sc k c2 ovs.toArray vs.toArray hfd h5 h6 h8 h7;have hge:=grownCap_ge w (sl+k) sc e;have hcm:=grownCap_le_maxLen w (sl+k) sc e (by unfold maxLen; omega);generalize grownCap w (sl+k) sc e=gc at hr hge hcm;have h9d:Holds S1 m β1 w.drew:=h9.drew;have hzl:(Builtin.zeroCells z.cells (gc-(sl+k))).size=(gc-(sl+k))*i.size:=by rw [size_zeroCells,hzs]
   have hol:ovs.length=sl*i.size:=by rw [<-h3.1,h2]
   have hsz:(ovs.toArray++vs.toArray++Builtin.zeroCells z.cells (gc-(sl+k))).size=gc*i.size:=by
    simp only [Array.size_append,List.size_toArray,hzl,hol,hvl, <-Nat.add_mul]
    congr 1; omega
   obtain ⟨β',g1,g2,g3⟩:=KX (S':=S1) (w0:=w.drew) h9d (fun _ _=>rfl) rfl (s:=i.size) (new:=old++new) (T:=e) (ovs.toArray++vs.toArray++Builtin.zeroCells z.cells (gc-(sl+k))) (sl+k) gc
    (by rw [hsz,List.length_append,h2,hnl, <-Nat.add_mul]; exact Nat.mul_le_mul_right _ hge) hge hcm (by rw [hsz]; exact bf _) (fun j x hx=>by
     have hxl:=(RepL.append h3 hvr)
     have hj:j<(old++new).length:=(ae.1 hx).1;have hj2:j<(ovs++vs).length:=by rw [<-hxl.1]; exact hj
     refine ⟨(ovs++vs)[j], ?_,(hxl.2 j x _ hx (ac hj2)).mono (fun _ _ h=>h) h10, ?_⟩
     ·rw [Array.getElem?_append,if_pos (by simpa using hj2)];simp [List.getElem?_append,List.getElem_append];split<;>simp_all
     ·have hmem:=ah hj2;rcases aG.1 hmem with h | h
      ·exact h4 _ h
      ·exact hvo _ h)
   exact ⟨_,_,m,β', .inl (run ad sl sc _ _ h1 hr),g1,g2,h11 _ _ (Ext.drewl g3)⟩
  -- an empty one
  have empty : ∀ ad (S1:Store) (β1:Objs),a.eval y = .slice ad 0 0->k=0->Holds S1 m β1 w->(∀ β' w',Ext m β1 w m β' w'->Ext m β w m β' w') ->
    Does P ((execOp a.eval o).run P w) (.slice S1.nx 0 0) (S1.add (i.size,new)) m β w:=by
   intro ad S1 β1 h1 h2 h3 h4;subst h2;have hv0:vs=[]:=aO (by simpa using hvl);have hn0:new=[]:=aO (by simpa using hnl);subst hv0; subst hn0;have hr:=Ke (P:=P) (w:=w) (ty:=o.type) hut hi ad ad2 0 0 0 c2 #[] w hf (bf _) (fun a' _=>by simp [storeCells]) (fun _=>rfl);obtain ⟨g1,g2,g3⟩:=h3.addVoid i.size;exact ⟨_,_,m,_, .inl (run ad 0 0 _ _ h1 hr), .sliceVoid S1.nx 0 ad g3,g1,h4 _ _ g2⟩
  cases p with
  | nils =>
   simp only at he;split at he
   ·rename_i hb
    cases he
    obtain ⟨ad,e1⟩:=hry.inv_nils
    by_cases hk:k=0
    ·have:=empty ad S β e1 hk hS (fun _ _ h=>h);rw [hk]; exact this
    ·have hf0:(Builtin.firstCells i.size 0 (.slice ad 0 0)).run P w.drew = .ok ([]:List Value).toArray w.drew:=by
      have:=zA (P:=P) (w:=w.drew) (s:=i.size) (n:=0) (k:=0) (v := .slice ad 0 0) (vs:=[]) rfl (bf _) (by simp) (.inl rfl);simpa using this
     have:=grow ad 0 0 [] [] S β e1 (by simp) (RepL.nil _ _) (by simp) hf0 (by omega) (by rw [bd]; exact hb.1) (by omega) hS (Step.refl β) (fun _ _ h=>h);simpa using this
   ·cases he
  | slice o' off len =>
   simp only at he
   cases hc:S.get o' with
   | none=>simp [hc] at he
   | some c =>
    simp only [hc] at he;split at he
    ·rename_i hcond;obtain ⟨hc1,hc2,hc3,hc4⟩:=hcond
     cases he
     obtain ⟨ad,cap,e1,hlc,hcm,hcase⟩:=hry.inv_slice (hS.alive hc);have hlt:=hS.lt hc;have hdrop:=hS.drop o' hlt;have hext : ∀ β' w',Ext m (β.set o' .dead) w m β' w'->Ext m β w m β' w':=fun β' w' h=>h.dropNew fun b hb=>hS.apart o' b hb
     have hnone : ∀ ad,a.eval y = .slice ad 0 0->len=0->Does P ((execOp a.eval o).run P w) (.slice S.nx 0 (len+k)) ((S.del o').add (i.size,(c.2.drop off).take (len*i.size)++new)) m β w:=by
      intro ad h1e hl0;subst hl0;have e0:(c.2.drop off).take (0*i.size)=[]:=by simp
      rw [e0]
      by_cases hk:k=0
      ·have:=empty ad (S.del o') (β.set o' .dead) h1e hk hdrop hext;rw [hk]; exact this
      ·have hf0:(Builtin.firstCells i.size 0 (.slice ad 0 0)).run P w.drew = .ok ([]:List Value).toArray w.drew:=by
        have:=zA (P:=P) (w:=w.drew) (s:=i.size) (n:=0) (k:=0) (v := .slice ad 0 0) (vs:=[]) rfl (bf _) (by simp) (.inl rfl);simpa using this
       exact grow ad 0 0 [] [] (S.del o') (β.set o' .dead) h1e (by simp) (RepL.nil _ _) (by simp) hf0 (by omega) hc3 hc4 hdrop (Step.kill β o') hext
     rcases hcase with ⟨hv,h1,h2⟩ | ⟨b,base,s,n,hob,hcase⟩
     ·subst h2; subst h1; exact hnone ad e1 rfl
     ·rcases hcase with hcap | ⟨had,hroom⟩
      ·have hl0:len=0:=by omega
       subst hcap; subst hl0; exact hnone ad e1 rfl
      ·subst had;obtain ⟨hs',arr,T,h1,h2,h3,h4⟩:=hS.cells_at hc hob;have hss:s=i.size:=by rw [<-hs',hc1]
       subst hss;obtain ⟨ovs,hl,hcs,hrl,hone⟩:=Jh h4 off (len*i.size) hc2;have holen:((c.2.drop off).take (len*i.size)).length=len*i.size:=by simp; omega
       by_cases hrm:len+k<=cap
       ·-- in place
        have hbk:(len+k)*i.size<=cap*i.size:=Nat.mul_le_mul_right _ hrm;rw [Nat.add_mul] at hbk;have hst:=run_storeCells_at P b (base+off+len*i.size) T vs 0 arr w h1 (by rw [hvl,h2]; omega) hvo;have hr:=Ke (P:=P) (w:=w) (ty:=o.type) hut hi (some ⟨b,base+off,none⟩) ad2 len cap k c2 vs.toArray _ hf hrm (fun a' ha'=>by cases ha'; rw [Jv]; simpa using hst) (fun h=>by cases h);have hbl:(β o').block? = some b:=by rw [hob]; rfl
        have hβn:β S.nx = .fresh:=hS.nx_fresh;have hnd:(β.set o' .dead) S.nx = .fresh:=by rw [Objs.set_other _ _ (by omega)]; exact hβn
        have hstp:Step β ((β.set o' .dead).set S.nx (.lies b (base+off) i.size n)):=(Step.kill β o').trans (Step.fresh hnd _);have hfreeb : ∀ o2,((β.set o' .dead) o2).block? ≠ some b:=by
         intro o2 h
         by_cases e3:o2=o'
         ·subst e3; rw [Objs.set_same] at h; cases h
         ·rw [Objs.set_other _ _ e3] at h; exact e3 (hS.inj _ _ b h hbl)
        have hmb:=hS.apart o' b hbl;have hcnt:((c.2.drop off).take (len*i.size)++new).length=(len+k)*i.size:=by rw [List.length_append,holen,hnl,Nat.add_mul]
        refine ⟨_,_,m,(β.set o' .dead).set S.nx (.lies b (base+off) i.size n), .inl (run _ len cap _ _ e1 hr), ?_, ?_, ?_⟩
        ·have:=Rep.slice (m:=m) (β:=(β.set o' .dead).set S.nx (.lies b (base+off) i.size n)) S.nx 0 (len+k) b (base+off) i.size n cap (some ⟨b,base+off,none⟩) (Objs.set_same _ _ _) hrm hcm (.inr ⟨rfl,by simpa using hroom⟩);exact this
        ·refine hdrop.new (S:=S.del o') (by intro h; cases h) (fun b' o2 hb'=>setRow_other w b b' _ (fun e3=>by subst e3; rw [hmb] at hb'; cases hb')) (fun o2 b' hb'=>setRow_other w b b' _ (fun e3=>by subst e3; exact hfreeb o2 hb')) ?_ ?_
         ·intro b' hb'
          cases hb'
          exact ⟨hmb,hfreeb⟩
         ·refine ⟨rfl,_,T,setRow_heap w b arr _ T (0,0) h1, ?_, ?_,fun j x hx => ?_⟩
          ·simp; omega
          ·rw [hcnt,Nat.add_mul]; omega
          ·have hxl:=RepL.append hrl hvr;have hj:j<((c.2.drop off).take (len*i.size)++new).length:=(ae.1 hx).1;have hj2:j<(ovs++vs).length:=by rw [<-hxl.1]; exact hj
           refine ⟨(ovs++vs)[j], ?_,(hxl.2 j x _ hx (ac hj2)).mono (fun _ _ h=>h) hstp, ?_⟩
           ·have hjb:j<len*i.size+k*i.size:=by rw [hcnt,Nat.add_mul] at hj; exact hj
            simp only [List.getElem?_toArray];rw [<-List.append_assoc,JS _ _ _ (by rw [hvl,Array.length_toList,h2]; omega)];simp only [List.getElem_append];split
            ·rename_i hlt2;rw [dif_pos (by omega)];have:=hcs j ovs[j] (ac (by omega));simpa [Nat.add_assoc] using this
            ·rename_i hge2;rw [if_pos (by omega),dif_neg (by omega)];rw [ac (by omega)]
             congr 2; omega
           ·rcases aG.1 (ah hj2) with h | h
            ·exact hone _ h
            ·exact hvo _ h
        ·refine ⟨fun _ _ h=>h,hstp,by simp,fun b' hb' hm' hn' => ?_,rfl,rfl,rfl⟩;have hne:b'≠b:=fun e3=>hn' o' (by rw [hbl,e3])
         refine ⟨setRow_other w b b' _ hne,hm',fun o2 ho2 => ?_⟩
         by_cases e4:o2=S.nx
         ·subst e4; rw [Objs.set_same] at ho2; cases ho2; exact hne rfl
         ·rw [Objs.set_other _ _ e4] at ho2
          by_cases e5:o2=o'
          ·subst e5; rw [Objs.set_same] at ho2; cases ho2
          ·rw [Objs.set_other _ _ e5] at ho2; exact hn' o2 ho2
       ·-- a new row
        have hfo:(Builtin.firstCells i.size len (.slice (some ⟨b,base+off,none⟩) len cap)).run P w.drew = .ok ovs.toArray w.drew:=by
         have hl':ovs.length=len*i.size:=hl;have:=zA (P:=P) (w:=w.drew) (s:=i.size) (n:=len) (k:=len) (v := .slice (some ⟨b,base+off,none⟩) len cap) (vs:=ovs) rfl (bf _) hl' (.inr ⟨b,base+off,rfl,fun j u hj=>by
          rw [World.cell?_drew,YM h1]; exact hcs j u hj⟩)
         rwa [List.take_of_length_le (by omega)] at this
        exact grow _ len cap _ ovs (S.del o') (β.set o' .dead) e1 holen hrl hone hfo (by omega) hc3 hc4 hdrop (Step.kill β o') hext
    ·cases he
  | _=>simp at he
end
end Go.Vw
