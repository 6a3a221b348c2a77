import Derived.Test.YtjkfgakbijjegaaGreatC0
/- Part of the proof. -/
set_option linter.unusedVariables false
set_option linter.unusedSimpArgs false
namespace Go.Vw
open Go.RowKit
section
variable {P:Program} {N:Nat} {S:Store} {m:Imm} {β:Objs} {w:World} {σ:Fr} {a:Act}
theorem Wy {t e:TypeId} {i:TypeInfo} (h:Program.slc P t=some (e,i)):P.underlying t=some (.slice e)/\P.info? e=some i:=by
 unfold Program.slc at h;split at h
 .rename_i e' hu;split at h
  .rename_i i' hi; cases h; exact ⟨hu,hi⟩
  .cases h
 .cases h
theorem ai9 {o:Oper} {t e:TypeId} {j:TypeInfo} {y i:Operand} {z iz:Arg} {x:V} (ho:o.op = .indexAddr t y i) (hs:Program.slc P t=some (e,j)) (hz:jC y=some z) (hi:jC i=some iz)
  (hS:Holds S m β w) (hF:FrameRep N m β σ a) (he:jz j.size S (ev σ z) (ev σ iz)=some x):Does P ((execOp a.eval o).run P w) x S m β w:=by
 obtain ⟨hu,hj⟩:=Wy hs;have hr:=jM hF hz;have hri:=jM hF hi;generalize ev σ z=p at he hr;generalize ev σ iz=q at he hri;have run : ∀ (b off len cap:Nat) (k:IntKind) (n:Int),a.eval y = .slice (some ⟨b,off,none⟩) len cap->a.eval i = .int k n->0<=n->n<len ->
   (execOp a.eval o).run P w = .ok (.value (.pointer (some ⟨b,off+n.toNat*j.size,none⟩))) w:=by
  intro b off len cap k n h1 h2 h3 h4;simp [execOp,ho,h1,h2,Instr.indexAt,asIntOf,run_underlying hu,h3,h4,sizeOf,typeInfo,hj,KP]
 cases q with
 | int k n =>
  have e2:=hri.inv_int;cases p with
  | list xs =>
   simp only [jz] at he;split at he
   .rename_i h0;cases hx:xs[n.toNat]? with
    | none=>simp [hx] at he
    | some y' =>
     simp only [hx] at he;split at he
     .rename_i hsz;cases he;have hl:=hr.inv_list;cases hq:a.eval y with
      | slice ad len cap =>
       rw [hq] at hl;have hlt:n.toNat<xs.length:=(ab.1 hx).1;cases hl with
       | list0=>simp at hlt
       | list _ vs b off _ s arr T fz hm hl hc hcm hs' hr' hcells =>
        have hv:n.toNat<vs.length:=by omega
        have hrv:=hr' n.toNat y' vs[n.toNat] hx (aa hv);have hsz':s=j.size:=by rw [<-hs' _ (ah hv),hrv.cells_size,hsz]
        subst hsz';refine Does.same hS (run b off _ _ k n hq e2 h0 (by omega)) (.imm (.ref y' vs[n.toNat] b _ arr T fz hm hrv fun jj c hc' => ?_));exact hcells n.toNat _ jj c (aa hv) hc'
      | _=>rw [hq] at hl; cases hl
     .cases he
   .cases he
  | slice o' off len =>
   simp only [jz] at he;split at he
   .rename_i h0;cases he;obtain ⟨c,hc⟩:=Option.isSome_iff_exists.1 h0.1;obtain ⟨ad,cap,e1,hlc,hcm,hcase⟩:=hr.inv_slice (hS.alive hc);rcases hcase with ⟨_,h1,_⟩ | ⟨b,base,s,nn,hob,hcase⟩
    .omega
    .rcases hcase with hcase | ⟨had,hroom⟩
     .omega
     .subst had;refine Does.same hS (run b (base+off) len cap k n e1 e2 h0.2.1 h0.2.2) ?_;have:=Rep.ptr (m:=m) o' (off+n.toNat*j.size) b base s nn hob
      rwa [<-Nat.add_assoc] at this
   .cases he
  | _=>simp [jz] at he
 | _=>cases p<;>simp [jz] at he
theorem aob {t:TypeId} {f off:Nat} {sz:Option Nat} (h:Program.fld P t f=some (off,sz)) :
  ∃ fs fd i,P.underlying t=some (.struct fs)/\fs[f]? = some fd/\fd.offset=off/\Program.szOf P fd.type=some sz/\P.info? fd.type=some i/\i.size≠0:=by
 unfold Program.fld at h;split at h
 .rename_i fs hu;split at h
  .rename_i fd hf;split at h
   .rename_i sz' j h1 h2;split at h
    .cases h
    .rename_i h3; cases h; exact ⟨fs,fd,j,hu,hf,rfl,h1,h2,h3⟩
   .cases h
  .cases h
 .cases h
theorem aw3 {xs:List V} {vs:List Value} (hl:xs.length=vs.length) (hr : ∀ (i:Nat) x v,xs[i]? = some x->vs[i]? = some v->RepI m x v) (h1 : ∀ v∈vs,v.oneCell'=true) {off:Nat} {sz:Option Nat} {y:V}
  (he:jcm xs off sz=some y) : ∃ u,RepI m y u/\(∀ (j:Nat) c,u.cells[j]? = some c->vs[off+j]? = some c):=by
 cases sz with
 | none =>
  simp only [jcm] at he;have hlt:off<xs.length:=(ab.1 he).1;have hv:off<vs.length:=by omega
  refine ⟨vs[off],hr off y _ he (aa hv),fun j c hc => ?_⟩;have ho:=h1 _ (ah hv);have ec:(vs[off]).cells = #[vs[off]]:=by cases hq:vs[off]<;>first | rfl | (rw [hq] at ho; simp [Value.oneCell'] at ho)
  rw [ec] at hc;cases j with
  | zero=>simp at hc; subst hc; simp [hv]
  | succ j=>simp at hc
 | some n =>
  simp only [jcm] at he;split at he
  .rename_i hle;cases he;refine ⟨.agg ((vs.drop off).take n).toArray, .agg _ _ (by simp; omega) (fun i x v hx hv => ?_) (fun v hv=>h1 v (List.mem_of_mem_drop (List.mem_of_mem_take hv))),fun j c hc => ?_⟩
   .rw [List.getElem?_take] at hx hv;split at hx
    .rename_i hi; rw [if_pos hi] at hv; rw [List.getElem?_drop] at hx hv; exact hr _ x v hx hv
    .cases hx
   .simp only [Value.cells,List.getElem?_toArray,List.getElem?_take] at hc;split at hc
    .rw [List.getElem?_drop] at hc; exact hc
    .cases hc
  .cases he
theorem jej {o:Oper} {t:TypeId} {f off:Nat} {sz:Option Nat} {y:Operand} {z:Arg} {x:V} (ho:o.op = .fieldAddr t y f) (hf:Program.fld P t f=some (off,sz)) (hz:jC y=some z)
  (hS:Holds S m β w) (hF:FrameRep N m β σ a) (he:qO off sz S (ev σ z)=some x):Does P ((execOp a.eval o).run P w) x S m β w:=by
 obtain ⟨fs,fd,i,hu,hfd,rfl,hsz,hi,h0⟩:=aob hf;have hr:=jM hF hz;generalize ev σ z=p at he hr;have run : ∀ (b q:Nat),a.eval y = .pointer (some ⟨b,q,none⟩)->(execOp a.eval o).run P w = .ok (.value (.pointer (some ⟨b,q+fd.offset,none⟩))) w:=by
  intro b q h1;simp [execOp,ho,h1,Instr.fieldAt,run_underlying hu,hfd,Instr.sureAddr,fieldPlace,sizeOf,typeInfo,hi,h0,KP]
 cases p with
 | ptr o' q =>
  simp only [qO] at he;split at he
  .rename_i hs;cases he;obtain ⟨c,hc⟩:=Option.isSome_iff_exists.1 hs;obtain ⟨b,base,s,n,hob,e⟩:=hr.inv_ptr (hS.alive hc);refine Does.same hS (run b _ e) ?_;have:=Rep.ptr (m:=m) o' (q+fd.offset) b base s n hob
   rwa [<-Nat.add_assoc] at this
  .cases he
 | ref x' =>
  cases x' with
  | agg cs =>
   simp only [qO,aq] at he;obtain ⟨y',hy,rfl⟩:=he;obtain ⟨u,b,q,arr,T,fz,e,hm,hu',hc⟩:=hr.inv_ref;cases hu' with
   | agg xs vs hl hr' h1 =>
    obtain ⟨v,hv,hcs⟩:=aw3 hl hr' h1 hy;refine Does.same hS (run b _ e) (.imm (.ref y' v b _ arr T fz hm hv fun j c hj => ?_));have:=hc (fd.offset+j) c (by simpa [Value.cells] using hcs j c hj)
    rwa [<-Nat.add_assoc] at this
  | _=>simp [qO] at he
 | _=>simp [qO] at he
theorem Wo {α γ:Type} (f:α->List γ) (s:Nat) (hs:0<s) : ∀ (l:List α),(∀ x∈l,(f x).length=s) -> ∀ q:Nat,(l.flatMap f)[q]? = (l[q / s]?).bind fun x=>(f x)[q % s]?
 | [],_,q=>by simp
 | x::l,h,q=>by
  have ih:=Wo f s hs l (fun y hy=>h y (List.mem_cons_of_mem _ hy));have hx:=h x List.mem_cons_self;simp only [List.flatMap_cons,List.getElem?_append,hx];by_cases hq:q<s
  .rw [if_pos hq,Nat.div_eq_of_lt hq,Nat.mod_eq_of_lt hq]; rfl
  .rw [if_neg hq,ih];have e1:q / s=(q-s) / s+1:=by
    have:=Nat.add_div_right (q-s) hs;rw [Nat.sub_add_cancel (by omega)] at this;exact this
   have e2:q % s=(q-s) % s:=by
    have:=Nat.add_mod_right (q-s) s;rw [Nat.sub_add_cancel (by omega)] at this;exact this
   rw [e1,e2]; rfl
theorem Ke {α γ:Type} (f:α->List γ) (s:Nat) : ∀ (l:List α),(∀ x∈l,(f x).length=s)->(l.flatMap f).length=l.length*s
 | [],_=>by simp
 | x::l,h=>by
  have ih:=Ke f s l (fun y hy=>h y (List.mem_cons_of_mem _ hy));simp [h x List.mem_cons_self,ih,Nat.succ_mul,Nat.add_comm]
def Src (m:Imm) (β:Objs) (w:World) (s:Nat) (v:Value) (new:List V) (k:Nat):Prop :=
 ∃ ad cap,v = .slice ad k cap/\k<=cap/\cap<=maxLen /\ ∃ vs:List Value,vs.length=k*s/\RepL m β new vs/\(∀ v∈vs,v.oneCell'=true) /\
  (vs=[] \/ ∃ b off,ad=some ⟨b,off,none⟩ /\ ∀ (j:Nat) u,vs[j]? = some u->w.cell? ⟨b,off+j,none⟩=some u)
theorem RepI.ones {x:V} {v:Value} (h:RepI m x v):(∀ c∈v.cells,c.oneCell'=true)/\x.cells.length=v.cells.size /\ ∀ (i:Nat) c u,x.cells[i]? = some c->v.cells[i]? = some u->RepI m c u:=by
 have single:x.cells=[x]->v.cells = #[v]->v.oneCell'=true->(∀ c∈v.cells,c.oneCell'=true)/\x.cells.length=v.cells.size /\ ∀ (i:Nat) c u,x.cells[i]? = some c->v.cells[i]? = some u->RepI m c u:=by
  intro e1 e2 e3;rw [e1,e2];refine ⟨fun c hc=>by simp at hc; subst hc; exact e3,rfl,fun i c u hc hu => ?_⟩;cases i with
  | zero=>simp at hc hu; subst hc; subst hu; exact h
  | succ i=>simp at hc
 cases h with
 | agg xs vs hl hr h1=>exact ⟨fun c hc=>h1 c (by simpa [Value.cells] using hc),by simpa [V.cells,Value.cells] using hl,fun i c u hc hu=>hr i c u hc (by simpa [Value.cells] using hu)⟩
 | _=>exact single rfl rfl rfl
theorem jfs {s:Nat} {p:V} {v:Value} {new:List V} {k:Nat} (hS:Holds S m β w) (hr:Rep m β p v) (he:qb s S p=some (new,k)):Src m β w s v new k:=by
 cases p with
 | nils =>
  simp only [qb] at he; cases he;obtain ⟨ad,e⟩:=hr.inv_nils;exact ⟨ad,0,e,aT _,Nat.zero_le _,[],by simp,RepL.nil _ _,by simp, .inl rfl⟩
 | list xs =>
  simp only [qb] at he;split at he
  .rename_i hall;cases he;have hall' : ∀ x∈xs,x.ncells=s:=by simpa using hall
   have hl:=hr.inv_list;cases hv:v with
   | slice ad len cap =>
    rw [hv] at hl;cases hl with
    | list0 _ _ hc=>exact ⟨ad,cap,rfl,Nat.zero_le _,hc,[],by simp,RepL.nil _ _,by simp, .inl rfl⟩
    | list _ vs b off _ s' arr T fz hm hl hc hcm hs' hr' hcells =>
     by_cases h0:xs=[]
     .subst h0;exact ⟨_,cap,rfl,hc,hcm,[],by simp,RepL.nil _ _,by simp, .inl rfl⟩
     .have hss:s'=s:=by
       have hp:0<xs.length:=List.length_pos_iff.2 h0;have hpv:0<vs.length:=by omega
       have h1:=hr' 0 xs[0] vs[0] (aa hp) (aa hpv);rw [<-hs' vs[0] (ah hpv),h1.cells_size,hall' _ (ah hp)]
      subst hss;have lx : ∀ x∈xs,(V.cells x).length=s':=fun x hx=>by
       rw [<-hall' x hx]; cases x<;>rfl
      have lv : ∀ u∈vs,u.cells.toList.length=s':=fun u hu=>by simpa using hs' u hu
      refine ⟨_,cap,rfl,hc,hcm,vs.flatMap fun u=>u.cells.toList,by rw [Ke _ s' vs lv,hl],⟨by rw [Ke _ s' xs lx,Ke _ s' vs lv,hl], ?_⟩, ?_, ?_⟩
      .intro i x u hx hu;by_cases hs0:s'=0
       .have:=Ke _ s' xs lx;rw [hs0,Nat.mul_zero] at this;rw [aH this] at hx;cases hx
       .rw [Wo _ s' (by omega) xs lx] at hx;rw [Wo _ s' (by omega) vs lv] at hu;obtain ⟨x',hx1,hx2⟩:=aG.1 hx;obtain ⟨u',hu1,hu2⟩:=aG.1 hu;exact .imm ((hr' _ x' u' hx1 hu1).ones.2.2 _ x u hx2 (by simpa using hu2))
      .intro u hu;obtain ⟨u',hu1,hu2⟩:=List.mem_flatMap.1 hu;obtain ⟨i,hi,rfl⟩:=aR hu1;exact (hr' i xs[i] vs[i] (aa (by omega)) (aa hi)).ones.1 u (by simpa using hu2)
      .refine .inr ⟨b,off,rfl,fun j u hj => ?_⟩;by_cases hs0:s'=0
       .have:=Ke _ s' vs lv;rw [hs0,Nat.mul_zero] at this;rw [aH this] at hj;cases hj
       .rw [Wo _ s' (by omega) vs lv] at hj;obtain ⟨u',hu1,hu2⟩:=aG.1 hj;rw [jbQ (hS.imm _ _ hm)];have:=hcells (j / s') u' (j % s') u hu1 (by simpa using hu2);rw [Nat.add_assoc,Nat.mul_comm,Nat.div_add_mod] at this;exact this
   | _=>rw [hv] at hl; cases hl
  .cases he
 | slice o off len =>
  simp only [qb] at he;cases hc:S.get o with
  | none=>simp [hc] at he
  | some c =>
   simp only [hc] at he;split at he
   .rename_i hle;cases he;obtain ⟨ad,cap,e,hlc,hcm,hcase⟩:=hr.inv_slice (hS.alive hc);rcases hcase with ⟨hv,h1,h2⟩ | ⟨b,base,s',n,hob,hcase⟩
    .subst h1;exact ⟨ad,cap,e,hlc,hcm,[],by simp,by simpa using RepL.nil m β,by simp, .inl rfl⟩
    .obtain ⟨_,arr,T,⟨fz,hz,h1⟩,h2,h3,h4⟩:=hS.cells_at hc hob;rcases hcase with hcap | ⟨had,hroom⟩
     .have h0:k=0:=by omega
      subst h0;exact ⟨ad,cap,e,hlc,hcm,[],by simp,by simpa using RepL.nil m β,by simp, .inl rfl⟩
     .obtain ⟨vs,hl,hcs,hrl,hone⟩:=KY h4 off (k*s) hle;exact ⟨ad,cap,e,hlc,hcm,vs,hl,hrl,hone, .inr ⟨b,base+off,had,fun j u hj=>by rw [jbQ h1]; exact hcs j u hj⟩⟩
   .cases he
 | _=>simp [qb] at he
theorem Jo {s k n:Nat} {v:Value} {ad:Option Addr} {cap:Nat} {vs:List Value} (hv:v = .slice ad k cap) (hn:n<=k) (hl:vs.length=k*s)
  (h:vs=[] \/ ∃ b off,ad=some ⟨b,off,none⟩ /\ ∀ (j:Nat) u,vs[j]? = some u->w.cell? ⟨b,off+j,none⟩=some u):(Builtin.firstCells s n v).run P w = .ok (vs.take (n*s)).toArray w:=by
 subst hv;have hle:n*s<=k*s:=Nat.mul_le_mul_right _ hn;rcases h with h | ⟨b,off,rfl,hc⟩
 .subst h;have h0:n*s=0:=by rw [<-hl] at hle; simpa using hle
  cases ad with
  | none=>simp [Builtin.firstCells]
  | some a'=>simp [Builtin.firstCells,h0,loadCells,loadCellsFrom]
 .have hlen:(vs.take (n*s)).length=n*s:=by simp; omega
  refine run_firstCells_some w s n ⟨b,off,none⟩ k cap _ hlen fun j u hj => ?_;rw [KP];rw [List.getElem?_take] at hj;split at hj
  .exact hc j u hj
  .cases hj
theorem YM {t ty e:TypeId} {i:TypeInfo} (ht:P.underlying t=some (.slice e)) (hi:P.info? e=some i) (ad ad2:Option Addr) (sLen sCap k c2:Nat) (news:Array Value) (w':World)
  (hf:(Builtin.firstCells i.size k (.slice ad2 k c2)).run P w = .ok news w) (hroom:sLen+k<=sCap)
  (hst : ∀ a',ad=some a'->(storeCells (a'.add (sLen*i.size)) news.toList).run P w = .ok () w') (hst0:ad=none->w'=w) :
  (Builtin.append_ #[t,t] ty #[.slice ad sLen sCap, .slice ad2 k c2]).run P w = .ok (.slice ad (sLen+k) sCap) w':=by
 cases ad with
 | none=>rw [hst0 rfl]; simp [Builtin.append_,run_underlying ht,sizeOf,typeInfo,hi,Builtin.lenOf,hroom,hf]
 | some a'=>simp [Builtin.append_,run_underlying ht,sizeOf,typeInfo,hi,Builtin.lenOf,hroom,hf,hst a' rfl]
theorem jcl {t ty e:TypeId} {i:TypeInfo} {z:Value} (ht:P.underlying t=some (.slice e)) (hi:P.info? e=some i) (hz:i.zero=some z) (ad ad2:Option Addr) (sLen sCap k c2:Nat) (olds news:Array Value)
  (hf:(Builtin.firstCells i.size k (.slice ad2 k c2)).run P w.drew = .ok news w.drew) (hfo:(Builtin.firstCells i.size sLen (.slice ad sLen sCap)).run P w.drew = .ok olds w.drew)
  (hg:sCap<sLen+k) (h63:sLen+k<=140737488355328) (hb:(sLen+k)*i.bytes<=140737488355328) :
  (Builtin.append_ #[t,t] ty #[.slice ad sLen sCap, .slice ad2 k c2]).run P w =
   .ok (.slice (some ⟨w.heap.size,0,none⟩) (sLen+k) (grownCap w (sLen+k) sCap e)) (w.drew.alloc (.cells (olds++news++Builtin.zeroCells z.cells (grownCap w (sLen+k) sCap e-(sLen+k))) e)):=by
 have hn : ¬ (sLen+k<=sCap):=by omega
 have h63' : ¬ (9223372036854775807<((sLen:Int)+(k:Int))):=by omega
 have h48:=growslice_fits hg hb;have h48' : ¬ (281474976710656<Builtin.nextslicecap (sLen+k) sCap*i.bytes):=by omega
 simp [Builtin.append_,run_underlying ht,sizeOf,typeInfo,zeroValue,hi,hz,Builtin.lenOf,hn,h63',h48',Question.forced,hf,hfo,newRow,grownCap]
end
section
variable {P:Program} {N:Nat} {S:Store} {m:Imm} {β:Objs} {w:World} {σ:Fr} {a:Act}
theorem KQ {t:TypeId} {z:List V} (h:Program.zeroV P t=some z) : ∃ i zv,P.info? t=some i/\i.zero=some zv/\zv.cells.size=i.size/\z.length=i.size /\
  ∀ (j:Nat) x,z[j]? = some x -> ∃ u,zv.cells[j]? = some u/\RepI m x u/\u.oneCell'=true/\x.one=true:=by
 unfold Program.zeroV at h;split at h
 .rename_i i hi;split at h
  .rename_i zv hz;split at h
   .rename_i hs;obtain ⟨h1,h2⟩:=jaK h;refine ⟨i,zv,hi,hz,hs,by rw [<-h1]; simpa using hs,fun j x hx => ?_⟩;have hlt:j<zv.cells.toList.length:=by rw [h1]; exact (ab.1 hx).1
    have hc:=h2 j _ x (aa hlt) hx;have hlt':j<zv.cells.size:=by simpa using hlt
    exact ⟨_,by rw [<-Array.getElem?_toList]; exact aa hlt,jaj hc,(jak hc).1,(jak hc).2⟩
   .cases h
  .cases h
 .cases h
theorem ZJ {S':Store} {m:Imm} {β:Objs} {w0 w:World} (hS:Holds S' m β w) (hw : ∀ k,k<w0.heap.size->w.heap[k]? = w0.heap[k]?) (hsz:w.heap.size=w0.heap.size)
  {s:Nat} {new:List V} {T:TypeId} (arr:Array Value) (len cap:Nat) (hle:new.length<=arr.size) (hlc:len<=cap) (hcm:cap<=maxLen) (harr:cap*s<=arr.size)
  (hr : ∀ (i:Nat) x,new[i]? = some x -> ∃ v,arr[i]? = some v/\Rep m β x v/\v.oneCell'=true) :
  ∃ β',Rep m β' (.slice S'.nx 0 len) (.slice (some ⟨w.heap.size,0,none⟩) len cap)/\Holds (S'.add (s,new)) m β' (w.alloc (.cells arr T))/\Ext m β w m β' (w.alloc (.cells arr T)):=by
 obtain ⟨h1,h2,h3⟩:=hS.alloc arr T s new hle hr;refine ⟨_, ?_,h1,h2⟩;have:=Rep.slice (m:=m) (β:=β.set S'.nx (.lies w.heap.size 0 s arr.size)) S'.nx 0 len w.heap.size 0 s arr.size cap (some ⟨w.heap.size,0,none⟩) h3 hlc hcm (.inr ⟨rfl,by simpa using harr⟩);exact this
theorem Ext.drewl {m:Imm} {β:Objs} {w:World} {m':Imm} {β':Objs} {w':World} (h:Ext m β w.drew m' β' w'):Ext m β w m' β' w':=(Ext.drew m β w).trans h
theorem Ext.dropNew {m:Imm} {β β':Objs} {w w':World} {o:Nat} (h:Ext m (β.set o .dead) w m β' w') (hm : ∀ b,(β o).block? = some b->m b=none):Ext m β w m β' w':=by
 refine ⟨h.imm,(Step.kill β o).trans h.step,h.size,fun b hb h1 h2 => ?_,h.os,h.tape,h.output⟩;refine h.keep b hb h1 fun o' ho' => ?_;by_cases e:o'=o
 .subst e; rw [Objs.set_same] at ho'; cases ho'
 .rw [Objs.set_other _ _ e] at ho'; exact h2 o' ho'
theorem afk {o:Oper} {t e:TypeId} {i:TypeInfo} {zs:List V} {y u:Operand} {yz uz:Arg} {x:V} {S':Store} (ho:o.op = .call { callee := .builtin .append,args := #[y,u],argTypes := #[t,t] })
  (hs:Program.slc P t=some (e,i)) (hzv:Program.zeroV P e=some zs) (h0:0<i.size) (hy:jC y=some yz) (hu:jC u=some uz) (hS:Holds S m β w) (hF:FrameRep N m β σ a)
  (he:jB i.size i.bytes S (ev σ yz) (ev σ uz)=some (x,S')):Does P ((execOp a.eval o).run P w) x S' m β w:=by
 obtain ⟨hut,hi⟩:=Wy hs;obtain ⟨i',z,hi',hz,hzs,_⟩:=KQ (m:=m) hzv;rw [hi] at hi'; cases hi';have hry:=jM hF hy;have hru:=jM hF hu;generalize ev σ yz=p at he hry;generalize ev σ uz=q at he hru;simp only [jB] at he;cases hq:qb i.size S q with
 | none=>simp [hq] at he
 | some nk =>
  obtain ⟨new,k⟩:=nk;simp only [hq] at he;obtain ⟨ad2,c2,e2,hk2,hcm2,vs,hvl,hvr,hvo,hvc⟩:=jfs hS hru hq;have hnl:new.length=k*i.size:=by rw [hvr.1,hvl]
  have hvc':vs=[] \/ ∃ b off,ad2=some ⟨b,off,none⟩ /\ ∀ (j:Nat) u,vs[j]? = some u->w.drew.cell? ⟨b,off+j,none⟩=some u:=hvc;have hf:(Builtin.firstCells i.size k (.slice ad2 k c2)).run P w = .ok vs.toArray w:=by
   have:=Jo (P:=P) (n:=k) (v := .slice ad2 k c2) rfl (aT k) hvl hvc
   rwa [List.take_of_length_le (by omega)] at this
  have hfd:(Builtin.firstCells i.size k (.slice ad2 k c2)).run P w.drew = .ok vs.toArray w.drew:=by
   have:=Jo (P:=P) (n:=k) (v := .slice ad2 k c2) rfl (aT k) hvl hvc'
   rwa [List.take_of_length_le (by omega)] at this
  have run : ∀ ad (sl sc:Nat) v' w',a.eval y = .slice ad sl sc->(Builtin.append_ #[t,t] o.type #[.slice ad sl sc, .slice ad2 k c2]).run P w = .ok v' w'->(execOp a.eval o).run P w = .ok (.value v') w':=by
   intro ad sl sc v' w' h1 h2;simp [execOp,ho,resolve,invoke,builtin,h1,e2,h2]
  -- a new row
  have grow : ∀ ad (sl sc:Nat) (old:List V) (ovs:List Value) (S1:Store) (β1:Objs),a.eval y = .slice ad sl sc->old.length=sl*i.size->RepL m β old ovs->(∀ v∈ovs,v.oneCell'=true) ->
    (Builtin.firstCells i.size sl (.slice ad sl sc)).run P w.drew = .ok ovs.toArray w.drew->sc<sl+k->(sl+k)*i.bytes<=140737488355328->sl+k<=140737488355328 ->
    Holds S1 m β1 w->Step β β1->(∀ β' w',Ext m β1 w m β' w'->Ext m β w m β' w')->Does P ((execOp a.eval o).run P w) (.slice S1.nx 0 (sl+k)) (S1.add (i.size,old++new)) m β w:=by
   intro ad sl sc old ovs S1 β1 h1 h2 h3 h4 h5 h6 h7 h8 h9 h10 h11;have hr:=jcl (P:=P) (w:=w) (ty:=o.type) hut hi hz ad ad2 sl sc k c2 ovs.toArray vs.toArray hfd h5 h6 h8 h7;have hge:=grownCap_ge w (sl+k) sc e;have hcm:=grownCap_le_maxLen w (sl+k) sc e (by unfold maxLen; omega);generalize grownCap w (sl+k) sc e=gc at hr hge hcm;have h9d:Holds S1 m β1 w.drew:=h9.drew;have hzl:(Builtin.zeroCells z.cells (gc-(sl+k))).size=(gc-(sl+k))*i.size:=by rw [size_zeroCells,hzs]
   have hol:ovs.length=sl*i.size:=by rw [<-h3.1,h2]
   have hsz:(ovs.toArray++vs.toArray++Builtin.zeroCells z.cells (gc-(sl+k))).size=gc*i.size:=by
    simp only [Array.size_append,List.size_toArray,hzl,hol,hvl, <-Nat.add_mul]
    congr 1; omega
   obtain ⟨β',g1,g2,g3⟩:=ZJ (S':=S1) (w0:=w.drew) h9d (fun _ _=>rfl) rfl (s:=i.size) (new:=old++new) (T:=e) (ovs.toArray++vs.toArray++Builtin.zeroCells z.cells (gc-(sl+k))) (sl+k) gc
    (by rw [hsz,lA,h2,hnl, <-Nat.add_mul]; exact Nat.mul_le_mul_right _ hge) hge hcm (by rw [hsz]; exact aT _) (fun j x hx=>by
     have hxl:=(RepL.append h3 hvr)
     have hj:j<(old++new).length:=(ab.1 hx).1;have hj2:j<(ovs++vs).length:=by rw [<-hxl.1]; exact hj
     refine ⟨(ovs++vs)[j], ?_,(hxl.2 j x _ hx (aa hj2)).mono (fun _ _ h=>h) h10, ?_⟩
     .rw [Array.getElem?_append,if_pos (by simpa using hj2)];simp [List.getElem?_append,List.getElem_append];split<;>simp_all
     .have hmem:=ah hj2;rcases az.1 hmem with h | h
      .exact h4 _ h
      .exact hvo _ h)
   exact ⟨_,_,m,β', .inl (run ad sl sc _ _ h1 hr),g1,g2,h11 _ _ (Ext.drewl g3)⟩
  -- an empty one
  have empty : ∀ ad (S1:Store) (β1:Objs),a.eval y = .slice ad 0 0->k=0->Holds S1 m β1 w->(∀ β' w',Ext m β1 w m β' w'->Ext m β w m β' w') ->
    Does P ((execOp a.eval o).run P w) (.slice S1.nx 0 0) (S1.add (i.size,new)) m β w:=by
   intro ad S1 β1 h1 h2 h3 h4;subst h2;have hv0:vs=[]:=aH (by simpa using hvl);have hn0:new=[]:=aH (by simpa using hnl);subst hv0; subst hn0;have hr:=YM (P:=P) (w:=w) (ty:=o.type) hut hi ad ad2 0 0 0 c2 #[] w hf (aT _) (fun a' _=>by simp [storeCells]) (fun _=>rfl);obtain ⟨g1,g2,g3⟩:=h3.addVoid i.size;exact ⟨_,_,m,_, .inl (run ad 0 0 _ _ h1 hr), .sliceVoid S1.nx 0 ad g3,g1,h4 _ _ g2⟩
  cases p with
  | nils =>
   simp only at he;split at he
   .rename_i hb;cases he;obtain ⟨ad,e1⟩:=hry.inv_nils;by_cases hk:k=0
    .have:=empty ad S β e1 hk hS (fun _ _ h=>h);rw [hk]; exact this
    .have hf0:(Builtin.firstCells i.size 0 (.slice ad 0 0)).run P w.drew = .ok ([]:List Value).toArray w.drew:=by
      have:=Jo (P:=P) (w:=w.drew) (s:=i.size) (n:=0) (k:=0) (v := .slice ad 0 0) (vs:=[]) rfl (aT _) (by simp) (.inl rfl);simpa using this
     have:=grow ad 0 0 [] [] S β e1 (by simp) (RepL.nil _ _) (by simp) hf0 (by omega) (by rw [aS]; exact hb.1) (by omega) hS (Step.refl β) (fun _ _ h=>h);simpa using this
   .cases he
  | slice o' off len =>
   simp only at he;cases hc:S.get o' with
   | none=>simp [hc] at he
   | some c =>
    simp only [hc] at he;split at he
    .rename_i hcond;obtain ⟨hc1,hc2,hc3,hc4⟩:=hcond;cases he;obtain ⟨ad,cap,e1,hlc,hcm,hcase⟩:=hry.inv_slice (hS.alive hc);have hlt:=hS.lt hc;have hdrop:=hS.drop o' hlt;have hext : ∀ β' w',Ext m (β.set o' .dead) w m β' w'->Ext m β w m β' w':=fun β' w' h=>h.dropNew fun b hb=>hS.apart o' b hb;have hnone : ∀ ad,a.eval y = .slice ad 0 0->len=0->Does P ((execOp a.eval o).run P w) (.slice S.nx 0 (len+k)) ((S.del o').add (i.size,(c.2.drop off).take (len*i.size)++new)) m β w:=by
      intro ad h1e hl0;subst hl0;have e0:(c.2.drop off).take (0*i.size)=[]:=by simp
      rw [e0];by_cases hk:k=0
      .have:=empty ad (S.del o') (β.set o' .dead) h1e hk hdrop hext;rw [hk]; exact this
      .have hf0:(Builtin.firstCells i.size 0 (.slice ad 0 0)).run P w.drew = .ok ([]:List Value).toArray w.drew:=by
        have:=Jo (P:=P) (w:=w.drew) (s:=i.size) (n:=0) (k:=0) (v := .slice ad 0 0) (vs:=[]) rfl (aT _) (by simp) (.inl rfl);simpa using this
       exact grow ad 0 0 [] [] (S.del o') (β.set o' .dead) h1e (by simp) (RepL.nil _ _) (by simp) hf0 (by omega) hc3 hc4 hdrop (Step.kill β o') hext
     rcases hcase with ⟨hv,h1,h2⟩ | ⟨b,base,s,n,hob,hcase⟩
     .subst h2; subst h1; exact hnone ad e1 rfl
     .rcases hcase with hcap | ⟨had,hroom⟩
      .have hl0:len=0:=by omega
       subst hcap; subst hl0; exact hnone ad e1 rfl
      .subst had;obtain ⟨hs',arr,T,⟨fz,hz,h1⟩,h2,h3,h4⟩:=hS.cells_at hc hob;have hss:s=i.size:=by rw [<-hs',hc1]
       subst hss;obtain ⟨ovs,hl,hcs,hrl,hone⟩:=KY h4 off (len*i.size) hc2;have holen:((c.2.drop off).take (len*i.size)).length=len*i.size:=by simp; omega
       by_cases hrm:len+k<=cap
       .-- in place
        have hbk:(len+k)*i.size<=cap*i.size:=Nat.mul_le_mul_right _ hrm;rw [Nat.add_mul] at hbk;have hst:=Jg P b (base+off+len*i.size) T vs 0 arr w hz h1 (by rw [hvl,h2]; omega) hvo;have hr:=YM (P:=P) (w:=w) (ty:=o.type) hut hi (some ⟨b,base+off,none⟩) ad2 len cap k c2 vs.toArray _ hf hrm (fun a' ha'=>by cases ha'; rw [KP]; simpa using hst) (fun h=>by cases h);have hbl:(β o').block? = some b:=by rw [hob]; rfl
        have hβn:β S.nx = .fresh:=hS.nx_fresh;have hnd:(β.set o' .dead) S.nx = .fresh:=by rw [Objs.set_other _ _ (by omega)]; exact hβn
        have hstp:Step β ((β.set o' .dead).set S.nx (.lies b (base+off) i.size n)):=(Step.kill β o').trans (Step.fresh hnd _);have hfreeb : ∀ o2,((β.set o' .dead) o2).block? ≠ some b:=by
         intro o2 h;by_cases e3:o2=o'
         .subst e3; rw [Objs.set_same] at h; cases h
         .rw [Objs.set_other _ _ e3] at h; exact e3 (hS.inj _ _ b h hbl)
        have hmb:=hS.apart o' b hbl;have hcnt:((c.2.drop off).take (len*i.size)++new).length=(len+k)*i.size:=by rw [lA,holen,hnl,Nat.add_mul]
        refine ⟨_,_,m,(β.set o' .dead).set S.nx (.lies b (base+off) i.size n), .inl (run _ len cap _ _ e1 hr), ?_, ?_, ?_⟩
        .have:=Rep.slice (m:=m) (β:=(β.set o' .dead).set S.nx (.lies b (base+off) i.size n)) S.nx 0 (len+k) b (base+off) i.size n cap (some ⟨b,base+off,none⟩) (Objs.set_same _ _ _) hrm hcm (.inr ⟨rfl,by simpa using hroom⟩);exact this
        .refine hdrop.new (S:=S.del o') (by intro h; cases h) (fun b' o2 hb'=>setRow_other w b b' _ (fun e3=>by subst e3; rw [hmb] at hb'; cases hb')) (fun o2 b' hb'=>setRow_other w b b' _ (fun e3=>by subst e3; exact hfreeb o2 hb')) ?_ ?_
         .intro b' hb';cases hb';exact ⟨hmb,hfreeb⟩
         .refine ⟨rfl,_,T,⟨fz,by rw [h2] at hz; refine Eq.mp (congrArg (fun k=>FzOk k fz) ?_) hz; simp; omega,setRow_heap w b arr _ T fz h1⟩, ?_, ?_,fun j x hx => ?_⟩
          .simp; omega
          .rw [hcnt,Nat.add_mul]; omega
          .have hxl:=RepL.append hrl hvr;have hj:j<((c.2.drop off).take (len*i.size)++new).length:=(ab.1 hx).1;have hj2:j<(ovs++vs).length:=by rw [<-hxl.1]; exact hj
           refine ⟨(ovs++vs)[j], ?_,(hxl.2 j x _ hx (aa hj2)).mono (fun _ _ h=>h) hstp, ?_⟩
           .have hjb:j<len*i.size+k*i.size:=by rw [hcnt,Nat.add_mul] at hj; exact hj
            simp only [List.getElem?_toArray];rw [<-List.append_assoc,Yp _ _ _ (by rw [hvl,Array.length_toList,h2]; omega)];simp only [List.getElem_append];split
            .rename_i hlt2;rw [dif_pos (by omega)];have:=hcs j ovs[j] (aa (by omega));simpa [Nat.add_assoc] using this
            .rename_i hge2;rw [if_pos (by omega),dif_neg (by omega)];rw [aa (by omega)]
             congr 2; omega
           .rcases az.1 (ah hj2) with h | h
            .exact hone _ h
            .exact hvo _ h
        .refine ⟨fun _ _ h=>h,hstp,by simp,fun b' hb' hm' hn' => ?_,rfl,rfl,rfl⟩;have hne:b'≠b:=fun e3=>hn' o' (by rw [hbl,e3]);refine ⟨setRow_other w b b' _ hne,hm',fun o2 ho2 => ?_⟩;by_cases e4:o2=S.nx
         .subst e4; rw [Objs.set_same] at ho2; cases ho2; exact hne rfl
         .rw [Objs.set_other _ _ e4] at ho2;by_cases e5:o2=o'
          .subst e5; rw [Objs.set_same] at ho2; cases ho2
          .rw [Objs.set_other _ _ e5] at ho2; exact hn' o2 ho2
       .-- a new row
        have hfo:(Builtin.firstCells i.size len (.slice (some ⟨b,base+off,none⟩) len cap)).run P w.drew = .ok ovs.toArray w.drew:=by
         have hl':ovs.length=len*i.size:=hl;have:=Jo (P:=P) (w:=w.drew) (s:=i.size) (n:=len) (k:=len) (v := .slice (some ⟨b,base+off,none⟩) len cap) (vs:=ovs) rfl (aT _) hl' (.inr ⟨b,base+off,rfl,fun j u hj=>by
          rw [World.cell?_drew,jbQ h1]; exact hcs j u hj⟩)
         rwa [List.take_of_length_le (by omega)] at this
        exact grow _ len cap _ ovs (S.del o') (β.set o' .dead) e1 holen hrl hone hfo (by omega) hc3 hc4 hdrop (Step.kill β o') hext
    .cases he
  | _=>simp at he
end
section
variable {P:Program} {N:Nat} {S:Store} {m:Imm} {β:Objs} {w:World} {σ:Fr} {a:Act}
theorem RepL.take {xs:List V} {vs:List Value} (h:RepL m β xs vs) (n:Nat):RepL m β (xs.take n) (vs.take n):=by
 refine ⟨by simp [h.1],fun i x v hx hv => ?_⟩;rw [List.getElem?_take] at hx hv;split at hx
 .rename_i hi; rw [if_pos hi] at hv; exact h.2 i x v hx hv
 .cases hx
theorem alf {o:Oper} {t e:TypeId} {i:TypeInfo} {y u:Operand} {yz uz:Arg} {x:V} {S':Store} (ho:o.op = .call { callee := .builtin .copy,args := #[y,u],argTypes := #[t,t] })
  (hs:Program.slc P t=some (e,i)) (hy:jC y=some yz) (hu:jC u=some uz) (hS:Holds S m β w) (hF:FrameRep N m β σ a)
  (he:jcc i.size S (ev σ yz) (ev σ uz)=some (x,S')):Does P ((execOp a.eval o).run P w) x S' m β w:=by
 obtain ⟨hut,hi⟩:=Wy hs;have hry:=jM hF hy;have hru:=jM hF hu;generalize ev σ yz=p at he hry;generalize ev σ uz=q at he hru;simp only [jcc] at he;cases hq:qb i.size S q with
 | none=>simp [hq] at he
 | some nk =>
  obtain ⟨new,k⟩:=nk;simp only [hq] at he;obtain ⟨ad2,c2,e2,hk2,hcm2,vs,hvl,hvr,hvo,hvc⟩:=jfs hS hru hq;have hf : ∀ n,n<=k->(Builtin.firstCells i.size n (.slice ad2 k c2)).run P w = .ok (vs.take (n*i.size)).toArray w:=fun n hn=>Jo rfl hn hvl hvc;have run : ∀ ad (dl dc:Nat) w',a.eval y = .slice ad dl dc->(∀ a',ad=some a'->(storeCells a' (vs.take (Nat.min k dl*i.size)) 0).run P w = .ok () w')->(ad=none->w'=w) ->
    (execOp a.eval o).run P w = .ok (.value (.int .i64 (min k dl:Nat))) w':=by
   intro ad dl dc w' h1 h2 h3;have hf':=hf (Nat.min k dl) (Nat.min_le_left _ _);cases ad with
   | none=>rw [h3 rfl]; simp [execOp,ho,resolve,invoke,builtin,Builtin.copy_,h1,e2,run_underlying hut,Builtin.lenOf,sizeOf,typeInfo,hi,hf',goInt]
   | some a'=>simp [execOp,ho,resolve,invoke,builtin,Builtin.copy_,h1,e2,run_underlying hut,Builtin.lenOf,sizeOf,typeInfo,hi,hf',goInt,h2 a' rfl]
  have zero : ∀ ad dc,a.eval y = .slice ad 0 dc->Does P ((execOp a.eval o).run P w) (.int .i64 (min k 0:Nat)) S m β w:=by
   intro ad dc h1;exact Does.same hS (run ad 0 dc w h1 (fun a' _=>by simp [storeCells]) (fun _=>rfl)) (.imm (.int _ _))
  cases p with
  | nils =>
   simp only at he;cases he;obtain ⟨ad,e1⟩:=hry.inv_nils;have:=zero ad 0 e1;simpa using this
  | slice o' off len =>
   simp only at he;cases hc:S.get o' with
   | none=>simp [hc] at he
   | some c =>
    simp only [hc] at he;split at he
    .rename_i hle;cases he;obtain ⟨ad,cap,e1,hlc,hcm,hcase⟩:=hry.inv_slice (hS.alive hc);have triv:len=0->Does P ((execOp a.eval o).run P w) (.int .i64 (min k len:Nat)) (S.upd o' (c.1,Jn c.2 off (new.take (min k len*i.size)))) m β w:=by
      intro h0;subst h0;have e3:S.upd o' (c.1,Jn c.2 off (new.take (min k 0*i.size)))=S:=by
       refine Store.ext' (funext fun o2 => ?_) rfl;simp only [Store.upd,Jn,Nat.min_zero,Nat.zero_mul,List.take_zero,List.append_nil,aF,Nat.add_zero,List.take_append_drop];split
       .rename_i e4; subst e4; rw [hc]
       .rfl
      rw [e3];exact zero ad cap e1
     rcases hcase with ⟨hv,h1,h2⟩ | ⟨b,base,s,n,hob,hcase⟩
     .exact triv h1
     .rcases hcase with hcap | ⟨had,hroom⟩
      .exact triv (by omega)
      .subst had;have hmin:min k len*i.size<=len*i.size:=Nat.mul_le_mul_right _ (Nat.min_le_right _ _);have hmin2:min k len*i.size<=k*i.size:=Nat.mul_le_mul_right _ (Nat.min_le_left _ _);have hnl:new.length=k*i.size:=by rw [hvr.1,hvl]
       obtain ⟨w',g1,g2,g3⟩:=hS.store (P:=P) hc hob off (new.take (min k len*i.size)) (vs.take (min k len*i.size)) (hvr.take _) (fun v hv=>hvo v (List.mem_of_mem_take hv)) (by simp; omega);exact ⟨_,w',m,β, .inl (run _ len cap w' e1 (fun a' ha'=>by cases ha'; exact g1) (fun h=>by cases h)), .imm (.int _ _),g2,g3⟩
    .cases he
  | _=>simp at he
theorem jdU {d:Nat} {x:Option V} {v:Option Value} {n:Nat} (hx:zd d x=some n) (h:(x=none/\v=none) \/ ∃ y u,x=some y/\v=some u/\Rep m β y u) :
  (v=none/\n=d) \/ ∃ k i,v=some (.int k i)/\0<=i/\i.toNat=n:=by
 rcases h with ⟨rfl,rfl⟩ | ⟨y,u,rfl,rfl,hr⟩
 .simp only [zd] at hx; cases hx; exact .inl ⟨rfl,rfl⟩
 .cases y with
  | int k i =>
   simp only [zd] at hx;split at hx
   .rename_i h0;cases hx;rw [hr.inv_int];exact .inr ⟨k,i,rfl,h0,rfl⟩
   .cases hx
  | _=>simp [zd] at hx
theorem jez {isS:Bool} {len cap l h q:Nat} {lo hi mx:Option Value} (hl:(lo=none/\l=0) \/ ∃ k i,lo=some (.int k i)/\0<=i/\i.toNat=l) (hh:(hi=none/\h=len) \/ ∃ k i,hi=some (.int k i)/\0<=i/\i.toNat=h)
  (hm:(mx=none/\q=cap) \/ ∃ k i,mx=some (.int k i)/\0<=i/\i.toNat=q) (h1:l<=h) (h2:h<=q) (h3:q<=cap) (h4:mx.isSome=true->hi.isSome=true) :
  (Instr.sliceBounds isS len cap lo hi mx).run P w = .ok (l,h,q) w:=by
 have b : ∀ (k:IntKind) (i:Int) (y:Nat) (code:BoundsCode),0<=i->i.toNat<=y->(Instr.sliceBound (.int k i) y code).run P w = .ok i.toNat w:=fun k i y code e1 e2=>run_sliceBound w k i y code e1 (by omega);rcases hl with ⟨rfl,rfl⟩ | ⟨k1,i1,rfl,e1,rfl⟩<;>rcases hh with ⟨rfl,rfl⟩ | ⟨k2,i2,rfl,e2,rfl⟩<;>rcases hm with ⟨rfl,rfl⟩ | ⟨k3,i3,rfl,e3,rfl⟩ <;>
  first
  | (simp at h4; done)
  | simp [Instr.sliceBounds, *]
theorem aa2 (hF:FrameRep N m β σ a) {x:Option Operand} {y:Option Arg} (h:x.mapM jC=some y):(y.map (ev σ)=none/\x.map a.eval=none) \/ ∃ z u,y.map (ev σ)=some z/\x.map a.eval=some u/\Rep m β z u:=by
 cases x with
 | none=>simp at h; subst h; exact .inl ⟨rfl,rfl⟩
 | some x =>
  simp at h;obtain ⟨z,hz,rfl⟩:=h;exact .inr ⟨_,_,rfl,rfl,jM hF hz⟩
theorem ae6 {x:Option V} {v:Option Value} (h:(x=none/\v=none) \/ ∃ z u,x=some z/\v=some u/\Rep m β z u):x.isSome=v.isSome:=by
 rcases h with ⟨rfl,rfl⟩ | ⟨z,u,rfl,rfl,_⟩<;>rfl
theorem ah8 {o:Oper} {t e:TypeId} {i:TypeInfo} {y:Operand} {lo hi mx:Option Operand} {yz:Arg} {loz hiz mxz:Option Arg} {x:V} (ho:o.op = .slice t y lo hi mx)
  (hs:Program.slc P t=some (e,i)) (hy:jC y=some yz) (hlo:lo.mapM jC=some loz) (hhi:hi.mapM jC=some hiz) (hmx:mx.mapM jC=some mxz) (hS:Holds S m β w) (hF:FrameRep N m β σ a)
  (he:qN i.size S (ev σ yz) (loz.map (ev σ)) (hiz.map (ev σ)) (mxz.map (ev σ))=some x):Does P ((execOp a.eval o).run P w) x S m β w:=by
 obtain ⟨hut,hi'⟩:=Wy hs;have hry:=jM hF hy;have r1:=aa2 hF hlo;have r2:=aa2 hF hhi;have r3:=aa2 hF hmx;have s2:=ae6 r2;have s3:=ae6 r3;generalize ev σ yz=p at he hry;generalize loz.map (ev σ)=lv at he r1;generalize hiz.map (ev σ)=hv at he r2 s2;generalize mxz.map (ev σ)=mv at he r3 s3;generalize hlo':lo.map a.eval=lo' at r1;generalize hhi':hi.map a.eval=hi'' at r2 s2;generalize hmx':mx.map a.eval=mx' at r3 s3;have run : ∀ ad (len cap l h q:Nat),a.eval y = .slice ad len cap->(Instr.sliceBounds true len cap lo' hi'' mx').run P w = .ok (l,h,q) w ->
   (execOp a.eval o).run P w = .ok (.value (.slice (if q=l then ad else ad.map (·.add (l*i.size))) (h-l) (q-l))) w:=by
  intro ad len cap l h q h1 h2;simp [execOp,ho,hlo',hhi',hmx',h1,Instr.sliceAt,Instr.slice,run_underlying hut,h2,sizeOf,typeInfo,hi']
 -- the bounds, with the capacity that is there
 have bounds : ∀ (len cap l h q:Nat),len<=cap->zd 0 lv=some l->zd len hv=some h->zd len mv=some q->l<=h->h<=q->q<=len->(mv.isSome=true->hv.isSome=true) ->
   ∃ q',q<=q'/\q'<=cap/\(mv.isSome=true->q'=q)/\(Instr.sliceBounds true len cap lo' hi'' mx').run P w = .ok (l,h,q') w:=by
  intro len cap l h q hlc e1 e2 e3 h1 h2 h3 h4;have b1:=jdU e1 r1;have b2:=jdU e2 r2;have b3:=jdU e3 r3;rw [s2,s3] at h4;rcases b3 with ⟨b31,b32⟩ | b3
  .exact ⟨cap,by omega,aT _,(fun hm=>by rw [s3,b31] at hm; cases hm),jez b1 b2 (.inl ⟨b31,rfl⟩) h1 (by omega) (aT _) h4⟩
  .exact ⟨q,aT _,by omega,fun _=>rfl,jez b1 b2 (.inr b3) h1 h2 (by omega) h4⟩
 cases p with
 | list xs =>
  simp only [qN] at he;split at he
  .rename_i l h q e1 e2 e3;split at he
   .rename_i hc;obtain ⟨c1,c2,c3,c4,c5⟩:=hc;cases hq:a.eval y with
    | slice ad len cap =>
     have hl:=hry.inv_list;rw [hq] at hl;have hlen:len=xs.length/\xs.length<=cap/\cap<=maxLen:=by
      cases hl with
      | list0 _ _ hc=>exact ⟨rfl,Nat.zero_le _,hc⟩
      | list _ _ _ _ _ _ _ _ _ _ _ hc hcm=>exact ⟨rfl,hc,hcm⟩
     obtain ⟨hlen,hle,hcm⟩:=hlen;subst hlen;obtain ⟨q',f1,f2,f3,f4⟩:=bounds xs.length cap l h q hle e1 e2 e3 c1 c2 c3 c4;have hr:=run ad xs.length cap l h q' hq f4;split at he
     .rename_i h0;cases he;have:=f3 h0.2;have hq0:q'=0:=by omega
      subst hq0;have hl0:l=0:=by omega
      subst hl0;have hh0:h=0:=by omega
      subst hh0;exact Does.same hS hr (.imm (.nils _))
     .cases he
      refine Does.same hS hr ?_;have hlen2:((xs.take h).drop l).length=h-l:=by simp; omega
      by_cases hemp:h-l=0
      .have e0:(xs.take h).drop l=[]:=aH (by omega);rw [e0,hemp];exact .imm (.list0 _ _ (by omega))
      .cases hl with
       | list0=>simp at c3 c2 c1 hemp; omega
       | list _ vs b off _ s' arr T fz hm hl' hc' hcm' hs' hr' hcells =>
        have hpos:0<xs.length:=by omega
        have hv0:0<vs.length:=by omega
        have hss:l*s'=l*i.size:=by
         rcases c5 with c5 | c5
         .rw [c5,Nat.zero_mul,Nat.zero_mul]
         .have hall : ∀ x∈xs,x.ncells=i.size:=by simpa using c5
          have h1:=hr' 0 xs[0] vs[0] (aa hpos) (aa hv0);rw [<-hs' vs[0] (ah hv0),h1.cells_size,hall _ (ah hpos)]
        have hvlen:((vs.take h).drop l).length=h-l:=by simp; omega
        have hq'l:q'≠l:=by omega
        rw [if_neg hq'l];simp only [aW,KP, <-hss];have:=RepI.list (m:=m) ((xs.take h).drop l) ((vs.take h).drop l) b (off+l*s') (q'-l) s' arr T fz hm (by omega) (by omega) (by omega)
         (fun v hv=>hs' v (List.mem_of_mem_take (List.mem_of_mem_drop hv)))
         (fun j x v hx hv=>by
          rw [List.getElem?_drop,List.getElem?_take] at hx hv;split at hx
          .rename_i hj; rw [if_pos hj] at hv; exact hr' _ x v hx hv
          .cases hx)
         (fun j v jj c hv hc=>by
          rw [List.getElem?_drop,List.getElem?_take] at hv;split at hv
          .have:=hcells _ v jj c hv hc;rw [Nat.add_mul] at this;rw [<-this]
           congr 1; omega
          .cases hv)
        rw [hlen2] at this;exact .imm this
    | _=>have hl:=hry.inv_list; rw [hq] at hl; cases hl
   .cases he
  .cases he
 | slice o' off len =>
  simp only [qN] at he;split at he
  .rename_i l h q e1 e2 e3;split at he
   .rename_i hc;obtain ⟨c0,c1,c2,c3,c4⟩:=hc;cases he;obtain ⟨c,hc,hcs⟩:=aq.1 c0;obtain ⟨ad,cap,ev',hlc,hcm,hcase⟩:=hry.inv_slice (hS.alive hc);obtain ⟨q',f1,f2,f3,f4⟩:=bounds len cap l h q hlc e1 e2 e3 c1 c2 c3 c4;have hr:=run ad len cap l h q' ev' f4;refine Does.same hS hr ?_;rcases hcase with ⟨hv',h1,h2⟩ | ⟨b,base,s,n,hob,hcase⟩
    .subst h1; subst h2;have hq0:q'=0:=by omega
     subst hq0;have hl0:l=0:=by omega
     subst hl0;have hh0:h=0:=by omega
     subst hh0;exact .sliceVoid _ _ _ hv'
    .obtain ⟨hs',_⟩:=hS.cells_at hc hob;have hss:s=i.size:=by rw [<-hs',hcs]
     subst hss;by_cases hql:q'=l
     .rw [if_pos hql];exact .slice o' _ (h-l) b base i.size n (q'-l) ad hob (by omega) (by omega) (.inl (by omega))
     .rw [if_neg hql];rcases hcase with hcap | ⟨had,hroom⟩
      .omega
      .subst had;simp only [aW,KP];have e5:l*i.size+(q'-l)*i.size=q'*i.size:=by rw [<-Nat.add_mul]; congr 1; omega
       have e6:q'*i.size<=cap*i.size:=Nat.mul_le_mul_right _ f2;have:=Rep.slice (m:=m) (β:=β) o' (off+l*i.size) (h-l) b base i.size n (q'-l) (some ⟨b,base+(off+l*i.size),none⟩) hob (by omega) (by omega) (.inr ⟨rfl,by omega⟩)
       rwa [<-Nat.add_assoc] at this
   .cases he
  .cases he
 | nils =>
  simp only [qN] at he;split at he
  .rename_i e1 e2 e3;split at he
   .rename_i c4;cases he;obtain ⟨ad,ev'⟩:=hry.inv_nils;obtain ⟨q',f1,f2,f3,f4⟩:=bounds 0 0 0 0 0 (aT _) e1 e2 e3 (aT _) (aT _) (aT _) c4;have hq0:q'=0:=by omega
    subst hq0;exact Does.same hS (run ad 0 0 0 0 0 ev' f4) (.imm (.nils _))
   .cases he
  .cases he
 | _=>simp [qN] at he
end
section
variable {P:Program} {N:Nat} {S:Store} {m:Imm} {β:Objs} {w:World} {σ:Fr} {a:Act}
theorem act (z:List V) (n:Nat) (hz:0<z.length) (q:Nat):(rep0 z n)[q]? = if q<n*z.length then z[q % z.length]? else none:=by
 have gen : ∀ (z:List V),0<z.length->((List.replicate n z).flatten)[q]? = if q<n*z.length then z[q % z.length]? else none:=by
  intro z hz;have h:=Wo (fun _:Unit=>z) z.length hz (List.replicate n ()) (fun _ _=>rfl) q;have e:(List.replicate n ()).flatMap (fun _=>z)=(List.replicate n z).flatten:=by
   rw [List.flatMap_def,List.map_replicate]
  rw [e] at h;rw [h,List.getElem?_replicate];by_cases hq:q / z.length<n
  .rw [if_pos hq,if_pos ((Nat.div_lt_iff_lt_mul hz).1 hq)]; rfl
  .rw [if_neg hq,if_neg (fun h=>hq ((Nat.div_lt_iff_lt_mul hz).2 h))]; rfl
 match z,hz with
 | [x],_ =>
  simp only [rep0,List.getElem?_replicate,List.length_singleton,Nat.mul_one,Nat.mod_one]
  rfl
 | x::y::zs,_=>exact gen (x::y::zs) (by simp)
theorem Wd (z:List V) (n:Nat):(rep0 z n).length=n*z.length:=by
 match z with
 | []=>simp [rep0]
 | [x]=>simp [rep0]
 | x::y::zs=>simp [rep0]
theorem amr {o:Oper} {t e:TypeId} {i:TypeInfo} {zs:List V} {l c:Operand} {lz cz:Arg} {x:V} {S':Store} (ho:o.op = .makeSlice t l c) (hs:Program.slc P t=some (e,i)) (hz:Program.zeroV P e=some zs)
  (hl:jC l=some lz) (hc:jC c=some cz) (hS:Holds S m β w) (hF:FrameRep N m β σ a) (he:YN i.size i.bytes zs S (ev σ lz) (ev σ cz)=some (x,S')):Does P ((execOp a.eval o).run P w) x S' m β w:=by
 obtain ⟨hut,hi⟩:=Wy hs;obtain ⟨i',z,hi',hz',hzs,hzl,hzr⟩:=KQ (m:=m) hz;rw [hi] at hi'; cases hi';have r1:=jM hF hl;have r2:=jM hF hc;generalize ev σ lz=p at he r1;generalize ev σ cz=q at he r2;cases p with
 | int k1 ln =>
  cases q with
  | int k2 cn =>
   cases k1<;>cases k2<;>simp only [YN] at he<;>try (cases he)
   split at he
   .rename_i hcond;obtain ⟨c1,c2,c3,c4⟩:=hcond;cases he;have e1:=r1.inv_int;have e2:=r2.inv_int;have hr:=run_make (P:=P) w t e i z hut hi hz' .i64 .i64 ln cn c1 c2 (by rw [Int.mul_comm]; omega) (by omega);have hsz:=size_madeCells z.cells (cn.toNat*i.size);have hcell : ∀ q,q<cn.toNat*i.size->(madeCells z.cells (cn.toNat*i.size))[q]? = some (z.cells[q % z.cells.size]!):=by
     intro q hq;simp [madeCells,hq]
    obtain ⟨β',g1,g2,g3⟩:=ZJ (S':=S) (w0:=w) hS (fun _ _=>rfl) rfl (s:=i.size) (new:=rep0 zs cn.toNat) (T:=e) (madeCells z.cells (cn.toNat*i.size)) ln.toNat cn.toNat
     (by rw [Wd,hsz,hzl]; exact aT _) (by omega) (by unfold maxLen; omega) (by rw [hsz]; exact aT _) (fun q x hx=>by
      by_cases h0:0<zs.length
      .rw [act _ _ h0] at hx;split at hx
       .rename_i hq;rw [hzl] at hq;rw [hcell q hq];obtain ⟨u,hu,hr',ho',_⟩:=hzr _ x hx;rw [hzl, <-hzs] at hu;refine ⟨u, ?_, .imm hr',ho'⟩;rw [Array.getElem!_eq_getD,aO,hu]; rfl
       .cases hx
      .have e0:(rep0 zs cn.toNat)=[]:=aH (by have h9:zs.length=0:=(by omega); rw [Wd,h9,Nat.mul_zero]);rw [e0] at hx; cases hx)
    exact ⟨_,_,m,β', .inl (by simp [execOp,ho,e1,e2,hr]),g1,g2,g3⟩
   .cases he
  | _=>cases k1<;>simp [YN] at he
 | _=>simp [YN] at he
theorem aef {r:Result Next} {T:TypeId} {arr:Array Value} {cells:List V} (s:Nat) (hr:r = .ok (.value (.pointer (some ⟨w.heap.size,0,none⟩))) (w.alloc (.cells arr T))) (hS:Holds S m β w) (hle:cells.length<=arr.size)
  (hc : ∀ (i:Nat) x,cells[i]? = some x -> ∃ v,arr[i]? = some v/\Rep m β x v/\v.oneCell'=true):Does P r (.ptr S.nx 0) (S.add (s,cells)) m β w:=by
 obtain ⟨h1,h2,h3⟩:=hS.alloc arr T s cells hle hc;refine ⟨_,_,m,_, .inl hr, ?_,h1,h2⟩;exact Rep.ptr (m:=m) S.nx 0 w.heap.size 0 s arr.size h3
theorem ai7 {o:Oper} {t:TypeId} {zs:List V} (ho:o.op = .alloc t) (hz:Program.zeroV P t=some zs) (hS:Holds S m β w):Does P ((execOp a.eval o).run P w) (.ptr S.nx 0) (S.add (zs.length,zs)) m β w:=by
 obtain ⟨i,z,hi,hz',hzs,hzl,hzr⟩:=KQ (m:=m) hz;refine aef zs.length (T:=t) (arr:=z.cells) ?_ hS (by rw [hzl,hzs]; exact aT _) fun j x hx => ?_
 .simp [execOp,ho,Instr.alloc,zeroValue,typeInfo,hi,hz',newVar,newRow]
 .obtain ⟨u,h1,h2,h3,_⟩:=hzr j x hx;exact ⟨u,h1, .imm h2,h3⟩
theorem arb {o:Oper} {t:TypeId} {y:Operand} {yz:Arg} (ho:o.op = .box t y) (hy:jC y=some yz) (h1:(ev σ yz).cells.all V.one=true) (hS:Holds S m β w) (hF:FrameRep N m β σ a) :
  Does P ((execOp a.eval o).run P w) (.ptr S.nx 0) (S.add ((ev σ yz).ncells,(ev σ yz).cells)) m β w:=by
 obtain ⟨hl,hc⟩:=(jM hF hy).cellwise h1;refine aef _ (T:=t) (arr:=(a.eval y).cells) ?_ hS (by omega) hc;simp [execOp,ho,Instr.box,newVar,newRow]
theorem jem (cs:Array Value) (off:Nat) : ∀ (l:List Value) (k:Nat) (acc:Array Value),off+k+l.length<=acc.size ->
  ((l.zipIdx k).foldl (fun cs (p:Value × Nat)=>cs.setIfInBounds (off+p.2) p.1) acc).toList=acc.toList.take (off+k)++l++acc.toList.drop (off+k+l.length)
 | [],k,acc,h=>by simp
 | v::r,k,acc,h=>by
  simp only [List.zipIdx_cons,List.foldl_cons];rw [jem cs off r (k+1) _ (by simp at h ⊢; omega)];have:=list_seg_step acc.toList (off+k) v r (by simp at h ⊢; omega);simpa [Nat.add_assoc] using this
theorem jaV (place:Nat->Option (Nat × Nat)) (cnv:Nat × Operand->Option (Nat × Nat × Arg)) (hcnv : ∀ p f,cnv p=some f->place p.1=some (f.1,f.2.1)/\jC p.2=some f.2.2) (hF:FrameRep N m β σ a) :
  ∀ (parts:List (Nat × Operand)) (fs:List (Nat × Nat × Arg)) (cells:List V) (vs:Array Value) (out:List V),parts.mapM cnv=some fs->RepL m β cells vs.toList->(∀ v∈vs.toList,v.oneCell'=true)->qP (ev σ) cells fs=some out ->
   ∃ us:Array Value,Instr.fill place vs (parts.map fun p=>(p.1,a.eval p.2))=some us/\RepL m β out us.toList/\(∀ v∈us.toList,v.oneCell'=true)/\out.length=cells.length
 | [],fs,cells,vs,out,hp,hr,h1,ho=>by
  simp at hp; subst hp;simp only [qP] at ho; cases ho;exact ⟨vs,rfl,hr,h1,rfl⟩
 | p::rest,fs,cells,vs,out,hp,hr,h1,ho=>by
  simp only [List.mapM_cons,Option.bind_eq_bind,aG] at hp;obtain ⟨f,hf,fs',hfs',hp⟩:=hp;simp at hp; subst hp;obtain ⟨off,sz,x⟩:=f;obtain ⟨hpl,harg⟩:=hcnv p _ hf;simp only at hpl harg;simp only [qP] at ho;split at ho
  .rename_i hc;obtain ⟨c1,c2,c3⟩:=hc;have hrx:=jM hF harg;obtain ⟨hl,hcw⟩:=hrx.cellwise c3;have hxl:(ev σ x).cells.length=sz:=by rw [<-c1]; cases ev σ x<;>rfl
   have hvl:(a.eval p.2).cells.size=sz:=by omega
   have hcl:cells.length=vs.size:=by simpa using hr.1
   have hset:=jem vs off (a.eval p.2).cells.toList 0 vs (by simp; omega);generalize hvs':((a.eval p.2).cells.toList.zipIdx 0).foldl (fun cs (p:Value × Nat)=>cs.setIfInBounds (off+p.2) p.1) vs=vs' at hset;have hlx:off+(ev σ x).cells.length<=cells.length:=by omega
   have hrs:RepL m β (Jn cells off (ev σ x).cells) vs'.toList:=by
    rw [hset];refine ⟨by rw [Yr _ _ _ hlx]; simp; omega,fun i y v hy hv => ?_⟩;rw [jbm _ _ _ hlx] at hy;simp only [Nat.add_zero] at hv;rw [Yp _ _ _ (by simp; omega)] at hv;have e1:(a.eval p.2).cells.toList.length=(ev σ x).cells.length:=by simp; omega
    rw [e1] at hv;split at hy
    .rename_i hi; rw [if_pos hi] at hv; exact hr.2 i y v hy hv
    .rename_i hi;rw [if_neg hi] at hv;split at hy
     .rename_i hi2;rw [if_pos hi2] at hv;obtain ⟨u,hu1,hu2,_⟩:=hcw _ y hy;rw [<-Array.getElem?_toList] at hu1;rw [hu1] at hv; cases hv;exact hu2
     .rename_i hi2; rw [if_neg hi2] at hv; exact hr.2 i y v hy hv
   have h1s : ∀ v∈vs'.toList,v.oneCell'=true:=by
    intro v hv;rw [hset] at hv;rcases az.1 hv with hv | hv
    .rcases az.1 hv with hv | hv
     .exact h1 v (List.mem_of_mem_take hv)
     .obtain ⟨j,hj,rfl⟩:=aR hv;have hj':j<(ev σ x).cells.length:=by simp at hj; omega
      obtain ⟨u,hu1,_,hu3⟩:=hcw j _ (aa hj');rw [<-Array.getElem?_toList,aa hj] at hu1;cases hu1; exact hu3
    .exact h1 v (List.mem_of_mem_drop hv)
   obtain ⟨us,g1,g2,g3,g4⟩:=jaV place cnv hcnv hF rest fs' _ vs' out hfs' hrs h1s ho;refine ⟨us, ?_,g2,g3,by rw [g4,Yr _ _ _ hlx]⟩;simp only [List.map_cons,Instr.fill,hpl];rw [if_neg (by simp [hvl]; omega)];rw [<-g1]
   congr 1
   rw [<-hvs', <-Array.foldl_toList];simp [Array.toList_zipIdx]
  .cases ho
end
section
variable {P:Program} {N:Nat} {S:Store} {m:Imm} {β:Objs} {w:World} {σ:Fr} {a:Act}
theorem ak4 {t:TypeId} {fs:List (Nat × Nat)} (h:Program.flds P t=some fs) : ∃ fds,P.underlying t=some (.struct fds) /\
  (fds.mapM fun f=>do pure (f.offset, <-sizeOf f.type):Sem (Array (Nat × Nat))).run P w = .ok fs.toArray w:=by
 unfold Program.flds at h;split at h
 .rename_i fds hu;refine ⟨fds,hu, ?_⟩;rw [Array.mapM_eq_mapM_toList];have gstep : ∀ (f:Field) j,P.info? f.type=some j->(do pure (f.offset, <-sizeOf f.type):Sem (Nat × Nat)).run P w = .ok (f.offset,j.size) w:=by
   intro f j hj; simp [sizeOf,typeInfo,hj]
  have gen : ∀ (l:List Field) (r:List (Nat × Nat)),(l.mapM fun f=>match P.info? f.type with | some j=>some (f.offset,j.size) | none=>none)=some r ->
    (l.mapM fun f=>do pure (f.offset, <-sizeOf f.type):Sem (List (Nat × Nat))).run P w = .ok r w:=by
   intro l
   induction l with
   | nil=>intro r h; simp at h; subst h; rfl
   | cons f l ih =>
    intro r h;simp only [List.mapM_cons,Option.bind_eq_bind,aG] at h;obtain ⟨b,hb,r',hr',h⟩:=h;simp at h; subst h;split at hb
    .rename_i j hj;cases hb;rw [List.mapM_cons,Sem.run_bind,gstep f j hj,Result.andThen_ok,Sem.run_bind,ih r' hr']
     rfl
    .cases hb
  rw [Sem.run_map,gen fds.toList fs h]
  rfl
 .cases h
theorem jcL {t:TypeId} {zs:List V} (hz:Program.zeroV P t=some zs) : ∃ z,(zeroValue t).run P w = .ok z w/\RepL m β zs z.cells.toList/\(∀ v∈z.cells.toList,v.oneCell'=true)/\zs.length=z.cells.size:=by
 obtain ⟨i,z,hi,hz',hzs,hzl,hzr⟩:=KQ (m:=m) hz;refine ⟨z,by simp [zeroValue,typeInfo,hi,hz'],⟨by simp; omega,fun j x v hx hv => ?_⟩,fun v hv => ?_,by omega⟩
 .obtain ⟨u,h1,h2,_⟩:=hzr j x hx;rw [<-Array.getElem?_toList,hv] at h1;cases h1; exact .imm h2
 .obtain ⟨j,hj,rfl⟩:=aR hv;have hj':j<zs.length:=by simp at hj; omega
  obtain ⟨u,h1,_,h3,_⟩:=hzr j _ (aa hj');rw [<-Array.getElem?_toList,aa hj] at h1;cases h1; exact h3
theorem aiy {o:Oper} {t:TypeId} {parts:Array (Nat × Operand)} {fs:List (Nat × Nat)} {zs:List V} {ps:List (Nat × Nat × Arg)} {cs:List V} (ho:o.op = .build t parts) (hf:Program.flds P t=some fs) (hz:Program.zeroV P t=some zs)
  (hp:(parts.toList.mapM fun (p:Nat × Operand)=>match fs[p.1]?,jC p.2 with | some f,some x=>some ((f.1,f.2,x):Nat × Nat × Arg) | _,_=>none)=some ps) (hS:Holds S m β w) (hF:FrameRep N m β σ a)
  (he:qP (ev σ) zs ps=some cs):Does P ((execOp a.eval o).run P w) (.agg cs) S m β w:=by
 obtain ⟨fds,hu,hpl⟩:=ak4 (w:=w) hf;obtain ⟨z,hz1,hz2,hz3,hz4⟩:=jcL (w:=w) (m:=m) (β:=β) hz;obtain ⟨us,g1,g2,g3,_⟩:=jaV (fs.toArray[·]?) _ (fun p f hpf=>by
  split at hpf
  .rename_i f' x' h1 h2; cases hpf; exact ⟨by simpa using h1,h2⟩
  .cases hpf) hF parts.toList ps zs z.cells cs hp hz2 hz3 he
 refine Does.same hS (v := .agg us) ?_ ?_
 .have e:(parts.map fun (x:Nat × Operand)=>(x.1,a.eval x.2)).toList=parts.toList.map fun p=>(p.1,a.eval p.2):=by simp
  simp only [execOp,ho,Instr.build,Sem.run_bind,hz1,run_underlying hu,Result.andThen_ok,hpl,e,g1,Sem.run_pure]
 .have:=Rep.agg (m:=m) (β:=β) cs us.toList g2.1 g2.2 g3;simpa using this
theorem jdP {o:Oper} {t e:TypeId} {i:TypeInfo} {len:Nat} {parts:Array (Nat × Operand)} {zs:List V} {ps:List (Nat × Nat × Arg)} {cs:List V} (ho:o.op = .buildSlice t len parts) (hs:Program.slc P t=some (e,i)) (hz:Program.zeroV P e=some zs)
  (hle:len*i.size<=65536/\0<i.size)
  (hp:(parts.toList.mapM fun (p:Nat × Operand)=>match jC p.2 with | some x=>some ((p.1*i.size,i.size,x):Nat × Nat × Arg) | none=>none)=some ps) (hS:Holds S m β w) (hF:FrameRep N m β σ a)
  (he:qP (ev σ) (rep0 zs len) ps=some cs):Does P ((execOp a.eval o).run P w) (.slice S.nx 0 len) (S.add (i.size,cs)) m β w:=by
 obtain ⟨hut,hi⟩:=Wy hs;obtain ⟨z,hz1,hz2,hz3,hz4⟩:=jcL (w:=w) (m:=m) (β:=β) hz;obtain ⟨i',z',hi',hz',hzs',hzl,hzr⟩:=KQ (m:=m) hz;rw [hi] at hi'; cases hi';have hz'':z'=z:=by
  have:(zeroValue e).run P w = .ok z' w:=by simp [zeroValue,typeInfo,hi,hz']
  rw [this] at hz1; cases hz1; rfl
 subst hz'';have hcell : ∀ q,q<len*i.size->(madeCells z'.cells (len*i.size))[q]? = some (z'.cells[q % z'.cells.size]!):=by
  intro q hq;simp [madeCells,hq]
 have hsz:=size_madeCells z'.cells (len*i.size);have h0:0<zs.length:=by omega
 have hrl:RepL m β (rep0 zs len) (madeCells z'.cells (len*i.size)).toList:=by
  refine ⟨by rw [Wd,hzl]; simp [hsz],fun q x v hx hv => ?_⟩;rw [act _ _ h0,hzl] at hx;split at hx
  .rename_i hq;rw [Array.getElem?_toList,hcell q hq] at hv;cases hv;obtain ⟨u,hu,hr',_⟩:=hzr _ x hx;rw [<-hzs'] at hu;rw [Array.getElem!_eq_getD,aO,hu];exact .imm hr'
  .cases hx
 have hone : ∀ v∈(madeCells z'.cells (len*i.size)).toList,v.oneCell'=true:=by
  intro v hv;obtain ⟨q,hq,rfl⟩:=aR hv;have hq':q<len*i.size:=by simpa [hsz] using hq
  have h1:=hcell q hq';rw [<-Array.getElem?_toList,aa hq] at h1;have hlt:q % i.size<zs.length:=by rw [hzl]; exact Nat.mod_lt _ hle.2
  obtain ⟨u,hu,_,h3,_⟩:=hzr _ _ (aa hlt);rw [Option.some.inj h1,Array.getElem!_eq_getD,aO,hzs',hu];exact h3
 obtain ⟨us,g1,g2,g3,g4⟩:=jaV (fun j=>some (j*i.size,i.size)) _ (fun p f hpf=>by
  split at hpf
  .rename_i x' h2; cases hpf; exact ⟨rfl,h2⟩
  .cases hpf) hF parts.toList ps (rep0 zs len) (madeCells z'.cells (len*i.size)) cs hp hrl hone he
 have hul:us.size=len*i.size:=by
  have:=g2.1; rw [g4,Wd,hzl] at this; simpa using this.symm
 obtain ⟨β',k1,k2,k3⟩:=ZJ (S':=S) (w0:=w) hS (fun _ _=>rfl) rfl (s:=i.size) (new:=cs) (T:=e) us len len (by rw [g4,Wd,hzl,hul]; exact aT _) (aT _)
  (by have:len*1<=len*i.size:=Nat.mul_le_mul_left _ hle.2; unfold maxLen; omega) (by rw [hul]; exact aT _) (fun j x hx=>by
   have hj:j<us.toList.length:=by rw [<-g2.1]; exact (ab.1 hx).1
   exact ⟨us.toList[j],by rw [<-Array.getElem?_toList]; exact aa hj,g2.2 j x _ hx (aa hj),g3 _ (ah hj)⟩)
 refine ⟨_,_,m,β', .inl ?_,k1,k2,k3⟩;have hlim : ¬ (2^24<len*i.size):=by omega
 by_cases hn:len*i.size=0
 .have hmc:madeCells z'.cells 0 = #[]:=by simp [madeCells]
  have hr0 : ∀ f:Nat->Value,(Array.range 0).map f = #[]:=fun f=>by simp
  rw [hn,hmc] at g1;simp [execOp,ho,Instr.buildSlice,run_underlying hut,sizeOf,typeInfo,hi,hn,hr0,g1,newRow]
 .simp only [madeCells] at g1;simp [execOp,ho,Instr.buildSlice,run_underlying hut,sizeOf,typeInfo,hi,hlim,hn,hz1,g1,newRow]
theorem ap8 {o:Oper} {op:BinOp} {t t':TypeId} {y u:Operand} {yz uz:Arg} {x:V} (ho:o.op = .binOp op t y u t') (hy:jC y=some yz) (hu:jC u=some uz) (hS:Holds S m β w) (hF:FrameRep N m β σ a)
  (he:opBin op (ev σ yz) (ev σ uz)=some x):Does P ((execOp a.eval o).run P w) x S m β w:=by
 have r1:=jM hF hy;have r2:=jM hF hu;generalize ev σ yz=p at he r1;generalize ev σ uz=q at he r2;have run : ∀ (k1 k2:IntKind) (x1 x2:Int) (v:Value),a.eval y = .int k1 x1->a.eval u = .int k2 x2->(binOp op t (.int k1 x1) (.int k2 x2)).run P w = .ok v w->(execOp a.eval o).run P w = .ok (.value v) w:=by
  intro k1 k2 x1 x2 v h1 h2 h3;have hg:(eqGuard op t y u (.int k1 x1) (.int k2 x2)).run P w = .ok () w:=by
   unfold eqGuard;cases op<;>rfl
  simp [execOp,ho,h1,h2,hg,h3]
 cases p with
 | int k1 x1 =>
  cases q with
  | int k2 x2 =>
   have e1:=r1.inv_int;have e2:=r2.inv_int;cases op<;>simp only [opBin] at he<;>first | (cases he; done) | (split at he<;>first | (cases he; done) | skip)
   all_goals
    rename_i hc
    first
    | (subst hc; cases he; refine Does.same hS (run _ _ _ _ _ e1 e2 ?_) (.imm (by first | exact .int _ _ | exact .bool _)); simp [binOp,Op.intArith,Op.intCmp,Op.intBits]; done)
    | (obtain ⟨hc,hc2⟩:=hc; subst hc; cases he; refine Does.same hS (run _ _ _ _ _ e1 e2 ?_) (.imm (by first | exact .int _ _ | exact .bool _)); simp [binOp,Op.intDiv,hc2]; done)
    | (cases he; refine Does.same hS (run _ _ _ _ _ e1 e2 ?_) (.imm (by first | exact .int _ _ | exact .bool _)); simp [binOp,Op.shift,Int.not_lt.2 hc]; done)
  | _=>cases op<;>simp [opBin] at he
 | _=>cases op<;>simp [opBin] at he
theorem ac1 {o:Oper} {op:BinOp} {neg:Bool} {t t':TypeId} {y u:Operand} {yz uz:Arg} {x:V} (ho:o.op = .binOp op t y u t') (hop:op=if neg then .neq else .eql) (ht:P.underlying t=some .bool) (hy:jC y=some yz) (hu:jC u=some uz) (hS:Holds S m β w) (hF:FrameRep N m β σ a)
  (he:opBeq neg (ev σ yz) (ev σ uz)=some x):Does P ((execOp a.eval o).run P w) x S m β w:=by
 have r1:=jM hF hy;have r2:=jM hF hu;generalize ev σ yz=p at he r1;generalize ev σ uz=q at he r2;cases p with
 | bool b1 =>
  cases q with
  | bool b2 =>
   have e1:=r1.inv_bool;have e2:=r2.inv_bool;have hg:(eqGuard op t y u (.bool b1) (.bool b2)).run P w = .ok () w:=by
    unfold eqGuard;cases op<;>rfl
   have heq:(Op.equal t (.bool b1) (.bool b2)).run P w = .ok (b1==b2) w:=by
    have hd:Op.maxDepth=9999+1:=rfl;unfold Op.equal;rw [hd];unfold Op.equalIn;simp [run_underlying ht]
   cases he
   cases neg with
   | false =>
    simp only [ay,if_false] at hop ⊢;subst hop;refine Does.same hS (v := .bool (b1==b2)) ?_ (.imm (.bool _));simp [execOp,ho,e1,e2,hg,binOp,heq]
   | true =>
    simp only [if_true] at hop ⊢;subst hop;refine Does.same hS (v := .bool (b1 != b2)) ?_ (.imm (.bool _));simp [execOp,ho,e1,e2,hg,binOp,heq,bne]
  | _=>simp [opBeq] at he
 | _=>simp [opBeq] at he
theorem aei {o:Oper} {op:BinOp} {neg:Bool} {t t':TypeId} {y u:Operand} {yz uz:Arg} {x:V} (ho:o.op = .binOp op t y u t') (hop:op=if neg then .neq else .eql) (ht:P.underlying t=some .string) (hy:jC y=some yz) (hu:jC u=some uz) (hS:Holds S m β w) (hF:FrameRep N m β σ a)
  (he:opSeq neg (ev σ yz) (ev σ uz)=some x):Does P ((execOp a.eval o).run P w) x S m β w:=by
 have r1:=jM hF hy;have r2:=jM hF hu;generalize ev σ yz=p at he r1;generalize ev σ uz=q at he r2;cases p with
 | str b1 =>
  cases q with
  | str b2 =>
   have e1:=r1.inv_str;have e2:=r2.inv_str;have hg:(eqGuard op t y u (.string b1) (.string b2)).run P w = .ok () w:=by
    unfold eqGuard;cases op<;>rfl
   cases he
   cases neg with
   | false =>
    simp only [ay,if_false] at hop ⊢;subst hop;refine Does.same hS (v := .bool (b1.toList==b2.toList)) ?_ (.imm (.bool _));simp [execOp,ho,e1,e2,hg,binOp,Op.stringOp]
   | true =>
    simp only [if_true] at hop ⊢;subst hop;refine Does.same hS (v := .bool !(b1.toList==b2.toList)) ?_ (.imm (.bool _));simp [execOp,ho,e1,e2,hg,binOp,Op.stringOp]
  | _=>simp [opSeq] at he
 | _=>simp [opSeq] at he
end
end Go.Vw
