import Derived.Recover
import Derived.Test.YtjkfgakbijjegaaGreatC12
/- Part of the proof. -/
set_option linter.unusedVariables false
set_option linter.unusedSimpArgs false
set_option maxRecDepth 10000
set_option maxHeartbeats 4000000
namespace Go.Vw
theorem Holds.other {S:Store} {m:Imm} {β:Objs} {w w':World} (h:Holds S m β w) (hk : ∀ b,((∃ o,m b=some o) \/ ∃ o,(β o).block? = some b)->w'.heap[b]? = w.heap[b]?):Holds S m β w':=by
 refine ⟨fun b o hb=>(hk b (.inl ⟨o,hb⟩)).trans (h.imm b o hb),h.apart,h.inj,h.fresh,h.gone,h.dead,fun o c hc => ?_⟩;have hl:=h.live o c hc;cases hβ:β o with
 | fresh=>rw [hβ] at hl; exact hl.elim
 | dead=>rw [hβ] at hl; exact hl.elim
 | void=>rw [hβ] at hl; exact hl
 | mp b =>
  rw [hβ] at hl;have:=hk b (.inr ⟨o,by rw [hβ]; rfl⟩);simp only [Live] at hl ⊢;rw [this]; exact hl
 | lies b base s n =>
  rw [hβ] at hl;have:=hk b (.inr ⟨o,by rw [hβ]; rfl⟩);simp only [Live] at hl ⊢;rw [this]; exact hl
structure It (m:Imm) (β:Objs) (w:World) (r:Nat) (s:ByteArray) (k:Nat):Prop where
 at_:w.heap[r]? = some (.stringIter s k)
 im:m r=none
 ob : ∀ o,(β o).block? ≠ some r
theorem It.ext {b:Nat} {m m':Imm} {β β':Objs} {w w':World} {r k:Nat} {s:ByteArray} (h:It m β w r s k) (he:ExtB b m β w m' β' w'):It m' β' w' r s k:=by
 have hlt:r<w.heap.size:=(Array.getElem?_eq_some_iff.1 h.at_).1;obtain ⟨h1,h2,h3⟩:=he.keep r hlt h.im h.ob;exact ⟨h1.trans h.at_,h2,h3⟩
theorem ak0 {P:Program} {w:World} {o:Oper} {xt:TypeId} {s:ByteArray} {ρ:Operand->Value} (ho:o.op = .range xt (.const (.string s))) (hρ:ρ (.const (.string s)) = .string s) (ht:P.underlying xt=some .string) :
  (execOp ρ o).run P w = .ok (.value (.pointer (some ⟨w.heap.size,0,none⟩))) { w with heap:=w.heap.push (.stringIter s 0) }:=by
 simp [execOp,ho,hρ,Instr.range,run_underlying ht,newObj,Sem.run,Result.andThen]
theorem aoo {P:Program} {w:World} {o:Oper} {it:Operand} {s:ByteArray} {k r:Nat} {ρ:Operand->Value} (ho:o.op = .next it true) (hρ:ρ it = .pointer (some ⟨r,0,none⟩)) (hb:w.heap[r]? = some (.stringIter s k)) :
  (execOp ρ o).run P w=if k<s.size then .ok (.value (.tuple #[.bool true, .int .i64 k, .int .i32 (Utf8.decode s k).1])) { w with heap:=w.heap.setIfInBounds r (.stringIter s (k+(Utf8.decode s k).2)) } else .ok (.value (.tuple #[.bool false])) w:=by
 by_cases hk:k<s.size
 .rw [if_pos hk];have hlt:r<w.heap.size:=(Array.getElem?_eq_some_iff.1 hb).1;simp [execOp,ho,hρ,Instr.next,Sem.run,Result.andThen,getObj,setObj,hb,hk,goInt]
 .rw [if_neg hk];simp [execOp,ho,hρ,Instr.next,Sem.run,Result.andThen,getObj,setObj,hb,hk]
theorem FrameRep.seen {N:Nat} {m:Imm} {β:Objs} {σ:Fr} {a:Act} {t:Nat} {x:V} (h:FrameRep N m β σ a) (hx:Rep m β x (a.tmps.getD t undef)):FrameRep N m β (σ.set t x) a:=by
 refine ⟨h.size,h.defers,fun u => ?_⟩;rw [Fr.look_set];split
 .rename_i e; subst e; exact hx
 .exact h.rep u
section
variable {P:Program} {N b:Nat} {Q:Exit->Fr->Store->Prop} {σ:Fr} {S:Store}
def strPost (N b t9:Nat) (ks:List Nat) (I:Nat->Fr->Store->Prop) (Q:Exit->Fr->Store->Prop) (p:Value) (k:Nat):Exit->Fr->Store->Prop
 | .normal,σ',S'=>σ'.lk t9 = .raw p /\ ∃ σc Sc,Reach N b (σ'.oy ks) S' σc Sc/\I (k+1) σc Sc
 | .panic q,σ',S'=>Q (.panic q) σ' S'
 | _,_,_=>False
theorem agk {c:Code} {i1 i2 id:Nat} {ops1 ops2:Array Oper} {o1 o2 o3:Oper} {xt:TypeId} {t9 t10 t11:Nat} {s:ByteArray} (ks:List Nat) (I:Nat->Fr->Store->Prop)
  (hc:c = .seq (.region i1 ops1 false) (.block id (.loop (.seq (.region i2 ops2 false) (.seq (.cond (.tmp t11) .skip (.exit id)) (Code.snd (Code.snd (Code.inner (Code.inner (Code.snd c)))))))))) (h1:ops1.toList=[o1]) (h2:ops2.toList=[o2,o3])
  (ho1:o1.op = .range xt (.const (.string s))) (hd1:o1.dst=some t9) (hg1:o1.guard=none) (ho2:o2.op = .next (.tmp t9) true) (hd2:o2.dst=some t10) (hg2:o2.guard=none) (hc3:za P N ops2 o3=some ⟨some t11,none, .extract (.tmp t10) 0⟩) (hg3:o3.guard=none)
  (hN:t9<N/\t10<N) (hne:t9≠t10/\t9≠t11) (ht:P.underlying xt=some .string) (hs : ∀ k,k<s.size -> ∃ ch,Utf8.decode s k=(ch,1)) (h9:ks.contains t9=false) (h0:I 0 (σ.oy ks) S)
  (step : ∀ k σ S p (ch:Nat),k<s.size->I k σ S->VWp P N b (Code.snd (Code.snd (Code.inner (Code.inner (Code.snd c))))) (strPost N b t9 ks I Q p k) (((σ.set t9 (.raw p)).set t10 (.tuple [.bool true,bI k, .int .i32 (ch:Int)])).set t11 (.bool true)) S)
  (fin : ∀ σ S p,I s.size σ S->Q .normal (((σ.set t9 (.raw p)).set t10 (.tuple [.bool false])).set t11 (.bool false)) S):VWp P N b c Q σ S:=by
 obtain ⟨B,hB⟩ : ∃ B,Code.snd (Code.snd (Code.inner (Code.inner (Code.snd c))))=B:=⟨_,rfl⟩
 rw [hB] at hc step;rw [hc];clear hc hB;intro m β w a hS hF;refine wp_seq (wp_region_list ?_);rw [h1];simp only [wpList];have hw1:Region.wanted o1 (yielded ops1 a.tmps)=true:=by simp [Region.wanted,hg1]
 rw [if_pos hw1];refine .inl ?_;unfold Oper.wp;rw [ak0 ho1 rfl ht];simp only [Oper.upon,Exit.then,hd1];refine wp_block ?_;obtain ⟨w1,hw⟩ : ∃ w1:World,{ w with heap:=w.heap.push (.stringIter s 0) }=w1:=⟨_,rfl⟩
 obtain ⟨r,hr⟩ : ∃ r,w.heap.size=r:=⟨_,rfl⟩
 rw [hw,hr];have hh : ∀ b',b'<w.heap.size->w1.heap[b']? = w.heap[b']? := fun b' hb=>by rw [<-hw]; simp [Array.getElem?_push,Nat.ne_of_lt hb]
 have hlts : ∀ {o:Option Obj} {b':Nat} {x:Obj},w.heap[b']? = some x->b'<w.heap.size:=fun {_ _ _} h=>(Array.getElem?_eq_some_iff.1 h).1;have hin : ∀ b',((∃ o,m b'=some o) \/ ∃ o,(β o).block? = some b')->b'<w.heap.size:=by
  rintro b' (⟨o,h⟩ | ⟨o,h⟩)
  .exact (Array.getElem?_eq_some_iff.1 (hS.imm b' o h)).1
  .exact hS.block_lt h
 have hS1:Holds S m β w1:=hS.other fun b' hb=>hh b' (hin b' hb);have hit:It m β w1 r s 0:=⟨by rw [<-hw, <-hr]; simp,by
   cases hm:m r with
   | none=>rfl
   | some o=>have:=hin r (.inl ⟨o,hm⟩); omega,fun o ho=>by have:=hin r (.inr ⟨o,ho⟩); omega⟩
 have he1:ExtB b m β w m β w1:=by
  refine ⟨fun _ _ h=>h,fun _ _ _ => .inl rfl,by rw [<-hw]; simp,fun b' hb hm ho=>⟨hh b' hb,hm,ho⟩, ?_, ?_, ?_⟩<;>rw [<-hw]
 obtain ⟨p,hp⟩ : ∃ p:Value,Value.pointer (some ⟨r,0,none⟩)=p:=⟨_,rfl⟩
 rw [hp];have hF1:FrameRep N m β (σ.set t9 (.raw p)) (a.put (some t9) p):=hF.put (some t9) (fun t h=>by cases h; exact hN.1) (.raw p);have hF1o:=hF1.oy (t9::ks);have hge:=hF1.rep t9;refine ZW (fun n a' w' => ∃ k σ' S' m' β',n=s.size-k/\k<=s.size/\I k σ' S'/\Holds S' m' β' w'/\FrameRep N m' β' σ' a'/\a'.tmps.getD t9 undef=p/\It m' β' w' r s k/\ExtB b m β w m' β' w') s.size ⟨0,σ.oy ks,S,m,β,rfl,Nat.zero_le _,h0,hS1, ?_, ?_,hit,he1⟩ ?_
 .have e:σ.oy ks=(σ.set t9 (.raw p)).oy ks:=by
   simp only [Fr.oy];refine aP fun k hk => ?_;rw [Fr.look_set,if_neg (fun e=>by subst e; simp [hk] at h9)]
  rw [e];exact hF1.oy ks
 .rw [Fr.look_set,if_pos rfl] at hge;exact hge.inv_raw
 .rintro n a' w' ⟨k,σ',S',m',β',rfl,hk,hI,hS',hF',h9',hit',he'⟩;refine wp_seq (wp_region_list ?_);rw [h2];simp only [wpList];have hw2:Region.wanted o2 (yielded ops2 a'.tmps)=true:=by simp [Region.wanted,hg2]
  rw [if_pos hw2];refine .inl ?_;unfold Oper.wp;rw [aoo ho2 (show a'.eval (.tmp t9) = .pointer (some ⟨r,0,none⟩) by rw [hp]; exact h9') hit'.at_];have hF9:FrameRep N m' β' (σ'.set t9 (.raw p)) a':=hF'.seen (by rw [h9']; exact .raw p);obtain ⟨c1,c2,c3,c4⟩:=Kv hc3;simp only at c2;by_cases hlt:k<s.size
  .rw [if_pos hlt];obtain ⟨ch,hch⟩:=hs k hlt;rw [hch];simp only [Oper.upon,hd2];obtain ⟨w2,hw2'⟩ : ∃ w2:World,{ w' with heap:=w'.heap.setIfInBounds r (.stringIter s (k+1)) }=w2:=⟨_,rfl⟩
   rw [hw2'];have hh2 : ∀ b',b'≠r->w2.heap[b']? = w'.heap[b']? := fun b' hb=>by rw [<-hw2']; simp [Array.getElem?_setIfInBounds,Ne.symm hb]
   have hS2:Holds S' m' β' w2:=hS'.other fun b' hb=>hh2 b' (by
    rintro rfl;rcases hb with ⟨o,h⟩ | ⟨o,h⟩
    .rw [hit'.im] at h; cases h
    .exact hit'.ob o h)
   have hrl:r<w'.heap.size:=(Array.getElem?_eq_some_iff.1 hit'.at_).1;have hit2:It m' β' w2 r s (k+1):=⟨by rw [<-hw2']; simp [Array.getElem?_setIfInBounds,hrl],hit'.im,hit'.ob⟩
   have he2:ExtB b m β w m' β' w2:=by
    refine ⟨he'.imm,he'.step,by rw [<-hw2']; simpa using he'.size,fun b' hb hm ho => ?_, ?_, ?_, ?_⟩
    .obtain ⟨k1,k2,k3⟩:=he'.keep b' hb hm ho;exact ⟨(hh2 b' (by omega)).trans k1,k2,k3⟩
    .rw [<-hw2']; exact he'.os
    .rw [<-hw2']; exact he'.tape
    .rw [<-hw2']; exact he'.output
   have hF2:=hF9.put (some t10) (fun t h=>by cases h; exact hN.2) (x := .tuple [.bool true,bI k, .int .i32 (ch:Int)]) (v := .tuple #[.bool true, .int .i64 k, .int .i32 ch])
    (Rep.tuple [.bool true,bI k, .int .i32 (ch:Int)] [.bool true, .int .i64 k, .int .i32 ch] rfl fun i x v h1 h2=>by
     match i,h1,h2 with
     | 0,h1,h2=>cases h1; cases h2; exact .imm (.bool _)
     | 1,h1,h2=>cases h1; cases h2; exact .imm (.int _ _)
     | 2,h1,h2=>cases h1; cases h2; exact .imm (.int _ _))
   obtain ⟨a2,ha2⟩ : ∃ a2,a'.put (some t10) (.tuple #[.bool true, .int .i64 k, .int .i32 ch])=a2:=⟨_,rfl⟩
   rw [ha2] at hF2 ⊢;have hw3:Region.wanted o3 (yielded ops2 a2.tmps)=true:=by simp [Region.wanted,hg3]
   rw [if_pos hw3];refine .inl ?_;refine Wc (N:=N) (b:=b) (m0:=m') (β0:=β') (w0:=w2) (k:=fun x S''=>x = .bool true/\S''=S') c1 c4 (by simp [vop,jg,ev,Fr.put,Fr.look_set,jaJ]) hS2 hF2 (ExtB.refl _ _ _ _) ?_;rintro x S'' m2 β2 w3 a3 ⟨rfl,rfl⟩ k2 k3 k4;rw [<-c2] at k3;have hev:=k3.rep t11;simp only [Fr.put,Fr.look_set,if_true] at hev;refine wp_seq (wp_cond_true (show a3.eval (.tmp t11) = .bool true from hev.inv_bool) (wp_skip ?_));refine wp_mono (step k σ' S'' p ch hlt hI m2 β2 w3 a3 k2 k3) ?_;rintro e a4 w4 ⟨σ4,S4,m4,β4,q,r1,r2,r3⟩;have htot:=(he2.trans k4).trans r3;cases e with
   | normal =>
    obtain ⟨hl9,σc,Sc,hre,hI'⟩:=q;obtain ⟨m5,β5,t1,t2,t3⟩:=hre m4 β4 w4 _ r1 (r2.oy ks);have h94:=r2.rep t9;rw [hl9] at h94;exact ⟨s.size-(k+1),by omega,k+1,σc,Sc,m5,β5,rfl,by omega,hI',t1,t2,h94.inv_raw,((hit2.ext k4).ext r3).ext t3,htot.trans t3⟩
   | panic q'=>exact ⟨σ4,S4,m4,β4,q,r1,r2,htot⟩
   | exit id'=>exact q.elim
   | goto l=>exact q.elim
   | ret=>exact q.elim
   | outgrown=>exact q.elim
  .rw [if_neg hlt];simp only [Oper.upon,hd2];have hF2:=hF9.put (some t10) (fun t h=>by cases h; exact hN.2) (x := .tuple [.bool false]) (v := .tuple #[.bool false])
    (Rep.tuple [.bool false] [.bool false] rfl fun i x v h1 h2=>by
     match i,h1,h2 with
     | 0,h1,h2=>cases h1; cases h2; exact .imm (.bool _))
   obtain ⟨a2,ha2⟩ : ∃ a2,a'.put (some t10) (.tuple #[.bool false])=a2:=⟨_,rfl⟩
   rw [ha2] at hF2 ⊢;have hw3:Region.wanted o3 (yielded ops2 a2.tmps)=true:=by simp [Region.wanted,hg3]
   rw [if_pos hw3];refine .inl ?_;refine Wc (N:=N) (b:=b) (m0:=m') (β0:=β') (w0:=w') (k:=fun x S''=>x = .bool false/\S''=S') c1 c4 (by simp [vop,jg,ev,Fr.put,Fr.look_set,jaJ]) hS' hF2 (ExtB.refl _ _ _ _) ?_;rintro x S'' m2 β2 w3 a3 ⟨rfl,rfl⟩ k2 k3 k4;rw [<-c2] at k3;have hev:=k3.rep t11;simp only [Fr.put,Fr.look_set,if_true] at hev;refine wp_seq (wp_cond_false (show a3.eval (.tmp t11) = .bool false from hev.inv_bool) (wp_exit ?_));have hke:k=s.size:=by omega
   subst hke;show (if id=id then _ else _);rw [if_pos rfl];exact ⟨_,S'',m2,β2,fin σ' S'' p hI,k2,k3,he'.trans k4⟩
end
def Qd (t:Nat) (v:Value) (ds:List Deferred) (Q:Exit->Act->World->Prop):Exit->Act->World->Prop :=
 fun e a' w' => ∃ a0:Act,a'={ a0 with defers:=a0.defers++ds }/\a0.tmps.getD t undef=v/\Q e a0 w'
theorem Kb (a:Act) (d:Option Nat) (x:Value) (ds:List Deferred):({ a with defers:=a.defers++ds }:Act).put d x={ a.put d x with defers:=(a.put d x).defers++ds }:=by
 cases d<;>rfl
theorem Wg {a:Act} {d:Option Nat} {x v:Value} {t:Nat} (hd:d≠some t) (h:a.tmps.getD t undef=v):(a.put d x).tmps.getD t undef=v:=by
 cases d with
 | none=>exact h
 | some k =>
  have hk:k≠t:=fun e=>hd (by rw [e]);rw [<-h];simp [Act.put,aO,Array.getElem?_setIfInBounds,hk]
section
variable {P:Program} {ops:Array Oper} {Q:Exit->Act->World->Prop} {t:Nat} {v:Value} {ds:List Deferred}
theorem ag7 {o:Oper} (ho:o.dst≠some t) (hout : ¬ LetsOut Q) {next next':Act->World->Prop} {a:Act} {w:World} (hn : ∀ a w,a.tmps.getD t undef=v->next a w->next' { a with defers:=a.defers++ds } w) (hv:a.tmps.getD t undef=v)
  (h:o.wp P a w next Q):o.wp P { a with defers:=a.defers++ds } w next' (Qd t v ds Q):=by
 unfold Oper.wp at h ⊢;have he:({ a with defers:=a.defers++ds }:Act).eval=a.eval:=rfl;rw [he];generalize (execOp a.eval o).run P w=r at h ⊢;cases r with
 | ok n w' =>
  cases n with
  | value x =>
   simp only [Oper.upon] at h ⊢;rw [Kb];exact hn _ _ (Wg ho hv) h
  | skip =>
   simp only [Oper.upon] at h ⊢;rw [Kb];exact hn _ _ (Wg ho hv) h
  | defer d =>
   simp only [Oper.upon] at h ⊢;have:({ a with defers:=d::(a.defers++ds) }:Act).put o.dst undef={ ({ a with defers:=d::a.defers }:Act).put o.dst undef with defers:=(({ a with defers:=d::a.defers }:Act).put o.dst undef).defers++ds }:=Kb { a with defers:=d::a.defers } o.dst undef ds;rw [this];exact hn _ _ (Wg (a:={ a with defers:=d::a.defers }) ho hv) h
  | enter f args =>
   simp only [Oper.upon] at h ⊢;refine Calls.mono h fun e w'' he => ?_;cases e with
   | returned x=>simp only at he ⊢; rw [Kb]; exact hn _ _ (Wg ho hv) he
   | panicked ch=>exact ⟨a,rfl,hv,he⟩
   | outgrown=>exact absurd he hout
  | row row args =>
   simp only [Oper.upon] at h ⊢;refine Rows.mono h fun x w'' he => ?_;rw [Kb];exact hn _ _ (Wg ho hv) he
  | _=>exact h
 | halt x w' =>
  cases x<;>simp only [Oper.upon] at h ⊢ <;> first | exact h | exact ⟨a,rfl,hv,h⟩
theorem jas (hout : ¬ LetsOut Q) : ∀ (l:List Oper) (a:Act) (w:World),(∀ o∈l,o.dst≠some t)->a.tmps.getD t undef=v->wpList P ops Q l a w->wpList P ops (Qd t v ds Q) l { a with defers:=a.defers++ds } w
 | [],a,w,_,hv,h=>⟨a,rfl,hv,h⟩
 | o::l,a,w,hl,hv,h=>by
  have ho:=hl o (by simp);have hl' : ∀ o∈l,o.dst≠some t:=fun o h=>hl o (by simp [h]);simp only [wpList] at h ⊢;split
  .rename_i hw;rw [if_pos hw] at h;rcases h with h | ⟨_,h⟩
   .exact .inl (ag7 ho hout (fun a w hv h=>jas hout l a w hl' hv h) hv h)
   .exact absurd h hout
  .rename_i hw;rw [if_neg hw] at h;rw [Kb];exact jas hout l _ w hl' (Wg ho hv) h
theorem atb {i:Nat} {a:Act} {w:World} {K K':Act->World->Prop} (hout : ¬ LetsOut Q) (hd : ∀ o,ops[i]? = some o->o.dst≠some t) (hn : ∀ a w,a.tmps.getD t undef=v->K a w->K' { a with defers:=a.defers++ds } w) (hv:a.tmps.getD t undef=v) (h:wpOp P ops Q i K a w) :
  wpOp P ops (Qd t v ds Q) i K' { a with defers:=a.defers++ds } w:=by
 unfold wpOp at h ⊢;cases ho:ops[i]? with
 | none=>simp only [ho] at h ⊢; exact hn _ _ hv h
 | some o =>
  simp only [ho] at h ⊢;split
  .rename_i hw;rw [if_pos hw] at h;rcases h with h | ⟨_,h⟩
   .exact .inl (ag7 (hd o ho) hout hn hv h)
   .exact absurd h hout
  .rename_i hw;rw [if_neg hw] at h;rw [Kb];exact hn _ _ (Wg (hd o ho) hv) h
theorem acy (hout : ¬ LetsOut Q) (hd : ∀ (i:Nat) o,ops[i]? = some o->o.dst≠some t) {md:Region.Mode} : ∀ (fuel:Nat) (listed:Array Bool) (a:Act) (w:World),a.tmps.getD t undef=v->wpAny P md ops Q fuel listed a w->wpAny P md ops (Qd t v ds Q) fuel listed { a with defers:=a.defers++ds } w
 | 0,listed,a,w,hv,h=>⟨h.1,a,rfl,hv,h.2⟩
 | fuel+1,listed,a,w,hv,h=>⟨fun hr=>⟨a,rfl,hv,h.1 hr⟩,fun i hi=>atb hout (hd i) (fun a w hv h=>acy hout hd fuel _ a w hv h) hv (h.2 i hi)⟩
end
section
variable {P:Program} {N b t:Nat} {v:Value} {ds:List Deferred} {Q:Exit->Fr->Store->Prop} {σ:Fr} {S:Store}
def VWpD (P:Program) (N b t:Nat) (v:Value) (ds:List Deferred) (c:Code) (Q:Exit->Fr->Store->Prop) (σ:Fr) (S:Store):Prop :=
 ∀ m β w a,Holds S m β w->FrameRep N m β σ a->a.tmps.getD t undef=v->c.wp P (Qd t v ds (Post N b Q m β w)) { a with defers:=a.defers++ds } w
theorem Zw (hQo : ∀ σ S, ¬ Q .outgrown σ S) {m:Imm} {β:Objs} {w:World} : ¬ LetsOut (Post N b Q m β w):=by
 rintro ⟨a,w',σ',S',m',β',q,_⟩;exact hQo _ _ q
theorem atp {x y:Code} (h:VWpD P N b t v ds x (jaa (VWpD P N b t v ds y Q) Q) σ S):VWpD P N b t v ds (.seq x y) Q σ S:=by
 intro m β w a hS hF hv;refine wp_seq (wp_mono (h m β w a hS hF hv) ?_);rintro e a' w' ⟨a0,rfl,hv0,σ',S',m',β',q,r1,r2,r3⟩;cases e with
 | normal =>
  refine wp_mono (q m' β' w' a0 r1 r2 hv0) ?_;rintro e a'' w'' ⟨a1,rfl,hv1,σ1,S1,m1,β1,q1,t1,t2,t3⟩;exact ⟨a1,rfl,hv1,σ1,S1,m1,β1,q1,t1,t2,r3.trans t3⟩
 | exit id=>exact ⟨a0,rfl,hv0,σ',S',m',β',q,r1,r2,r3⟩
 | goto l=>exact ⟨a0,rfl,hv0,σ',S',m',β',q,r1,r2,r3⟩
 | ret=>exact ⟨a0,rfl,hv0,σ',S',m',β',q,r1,r2,r3⟩
 | panic ch=>exact ⟨a0,rfl,hv0,σ',S',m',β',q,r1,r2,r3⟩
 | outgrown=>exact ⟨a0,rfl,hv0,σ',S',m',β',q,r1,r2,r3⟩
theorem JM {c:Code} (h:Code.kind c=3) (H:VWpD P N b t v ds (Code.fst c) (jaa (VWpD P N b t v ds (Code.snd c) Q) Q) σ S):VWpD P N b t v ds c Q σ S:=by
 cases c with
 | seq x y=>exact atp H
 | region id ops d=>cases d<;>simp [Code.kind] at h
 | _=>simp [Code.kind] at h
theorem aa1 {c:Code} (hc:c = .ret) (h:Q .ret σ S):VWpD P N b t v ds c Q σ S:=by
 subst hc;exact fun m β w a hS hF hv=>wp_ret ⟨a,rfl,hv,σ,S,m,β,h,hS,hF,ExtB.refl _ _ _ _⟩
theorem aiu {c:Code} (E:EP) (hQ : ∀ ch σ S,E ch S->Q (.panic ch) σ S) (hQo : ∀ σ S, ¬ Q .outgrown σ S) (hd:(Code.ops c).toList.all (fun o=>o.dst != some t)=true) (h:Code.kind c=1) {cs:List CO} (hc:qj P N (Code.ops c)=some cs) (H:qF P E cs (Q .normal) σ S) :
  VWpD P N b t v ds c Q σ S:=by
 cases c with
 | region id ops d =>
  cases d
  .intro m β w a hS hF hv;exact wp_region_list (jas (Zw hQo) ops.toList a w (fun o ho=>by simpa using ax.1 hd o ho) hv (Jz hQ ops.toList cs σ S m β w a hc H hS hF (ExtB.refl _ _ _ _)))
  .simp [Code.kind] at h
 | _=>simp [Code.kind] at h
theorem aoz {c:Code} {σ':Fr} {S':Store} {cs0 l:List CO} {ms:List Nat} (E:EP) (Z:ZX) (fz ord fs:List Nat) (h:Code.kind c=2) (hm:P.follows .mixedOrders=true) (hc:(zX (Code.ops c),qj P N (Code.ops c))=(ms,some cs0)) (hl:ord.filterMap (fun i=>(cs0.map (CO.tr fz))[i]?)=l) (hll:(l.length==ord.length)=true) (hQ : ∀ ch σ S,E ch S->Q (.panic ch) σ S) (hQo : ∀ σ S, ¬ Q .outgrown σ S) (hd:(Code.ops c).toList.all (fun o=>o.dst != some t)=true)
  (hord:(ord.length==(Code.ops c).size)=true) (hB:lexX fs ms (Code.ops c) (cs0.map (CO.tr fz)) ord (Array.replicate (Code.ops c).size false)=true) (hlast:(!Z.lx||jfQ ms (Code.ops c).size ord.getLast?)=true) (ho:Z.old) (hz:Z.ok S) (r:zf P Z E fs l (Q .normal) σ S):VWpD P N b t v ds c Q σ S:=by
 cases c with
 | region id ops d =>
  cases d
  .simp [Code.kind] at h
  .simp only [Code.ops,Prod.mk.injEq] at hc hord hB hd;obtain ⟨rfl,hc⟩:=hc;have hll:=eq_of_beq hll;have hl':=Ku hl hll;intro m β w a hS hF hv;obtain ⟨hlen0,_⟩:=YF hc;have hlen:(cs0.map (CO.tr fz)).length=ops.size:=by rw [aB]; exact hlen0
   have hd' : ∀ (i:Nat) o,ops[i]? = some o->o.dst≠some t:=fun i o ho=>by
    have:=ax.1 hd o (by
     have:=Array.mem_of_getElem? ho;simpa using this)
    simpa using this
   refine wp_region_any hm (acy (Zw hQo) hd' _ _ _ _ hv ?_);have hcl:zn ops (Array.replicate ops.size false):=by
    intro i o ho hi;have:i<ops.size:=(Array.getElem?_eq_some_iff.1 ho).1;simp [this] at hi
   have hlk : ∀ j,(if Z.lx=true then ord.getLast? else none)=some j -> ∀ i,i≠j->i<ops.size -> ∃ M,Jm ops i M j=true:=by
    intro j hj i hij hi;split at hj
    .rename_i hz;rw [hz,hj] at hlast;simp only [jfQ,Bool.not_true,Bool.false_or,ax,List.mem_range,aX,beq_iff_eq] at hlast;exact zK ((hlast i hi).resolve_left hij)
    .cases hj
   have:=jbe (P:=P) (Z:=Z) (E:=E) (lk:=if Z.lx=true then ord.getLast? else none) ho hlk hlen ord l (Array.replicate ops.size false) σ.lk S hl' hll (fun hz k hk=>by rw [if_pos hz]; exact hk) hcl hz.n hB (KS l σ S r);rw [show ord.length=ops.size by simpa using hord] at this;exact ZK hc fz rfl hQ ops.size _ σ S m β _ a this hz hS.drew hF ((Ext.drew m β w).toB b)
 | _=>simp [Code.kind] at h
end
theorem Jx {S:Store} {m m':Imm} {β β':Objs} {w w':World} (hS:Holds S m β w) (h:ExtB S.nx m β w m' β' w'):Ext m β w m' β' w' :=
 ⟨h.imm,fun o ho=>h.step o (by
  rcases bc o S.nx with hl | hl
  .exact hl
  .exact absurd ((hS.fresh o).2 hl) ho) ho,h.size,h.keep,h.os,h.tape,h.output⟩
def jgi (P:Program) (f:FuncId) (args:List V) (u u':FrameMode) (S:Store) (K:Store->Prop):Prop :=
 ∀ m β w vs,Holds S m β w->RepL m β args vs->CallsD P f vs.toArray u w fun e uu w' => ∃ v S' m' β',e = .returned v/\uu=u'/\K S'/\Holds S' m' β' w'/\Ext m β w m' β' w'
def Recov (u:FrameMode) (val:Value) (u':FrameMode):Prop:=(u = .returning/\val = .nilIface/\u' = .returning)\/(∃ v,u = .panicking [{ v:=v,recovered:=false }]/\val=v/\u' = .panicking [{ v:=v,recovered:=true }])
theorem Recov.settle {u u':FrameMode} {val:Value} (h:Recov u val u'):settle u' = .returning:=by
 rcases h with ⟨_,_,rfl⟩ | ⟨v,_,_,rfl⟩<;>rfl
theorem ahd {P:Program} {f:FuncId} {fn:Func} {c:Code} {o1 o2:Oper} {ops:Array Oper} {id t1 t2:Nat} {args:List V} {S:Store} {K:Store->Prop} {u u':FrameMode} {val:Value} (hf:P.funcs[f]? = some fn) (hb:fn.body=some c) (ht:resT fn=some [])
  (hn:args.length<=fn.ntmps) (hc:c = .seq (.region id ops false) (Code.snd c)) (hops:ops = #[o1,o2]) (ho1:o1.op = .call ⟨.builtin .recover, #[], #[]⟩) (hd1:o1.dst=some t1) (hg1:o1.guard=none) (ho2:o2.op = .assign (.tmp t1)) (hd2:o2.dst=some t2) (hg2:o2.guard=none) (h1:t1<fn.ntmps/\t2<fn.ntmps)
  (hu:Recov u val u') (h:S.Wf->VWp P fn.ntmps S.nx (Code.snd c) (fun e σ S=>match e with | .normal=>K S | .ret=>K S | _=>False) (((zC 0 args).set t1 (.raw val)).set t2 (.raw val)) S):jgi P f args u u' S K:=by
 intro m β w vs hS hr;have hh:=h hS.wf;clear h;obtain ⟨B,hB⟩ : ∃ B,Code.snd c=B:=⟨_,rfl⟩
 rw [hB] at hc hh;subst hc;refine callsD_of_wpS hf hb fun c₀ cs hm => ?_;have hF:FrameRep fn.ntmps m β (zC 0 args) { tmps:=vs.toArray++Array.replicate (fn.ntmps-vs.toArray.size) undef,defers:=[] }:=by
  have hl:=hr.1;refine ⟨by simp; omega,rfl,fun t => ?_⟩;rw [zP];simp only [Nat.zero_le,if_true,Nat.sub_zero];cases hx:args[t]? with
  | none=>exact .junk _
  | some x =>
   have hlt:t<vs.length:=by rw [<-hl]; exact (ab.1 hx).1
   have:(vs.toArray++Array.replicate (fn.ntmps-vs.toArray.size) undef).getD t undef=vs[t]:=by
    simp [aO,Array.getElem?_append,hlt]
   simp only [this,aJ];exact hr.2 t x _ hx (aa hlt)
 generalize ({ tmps:=vs.toArray++Array.replicate (fn.ntmps-vs.toArray.size) undef,defers:=[] }:Act)=a at hF ⊢;have hF1:FrameRep fn.ntmps m β ((zC 0 args).set t1 (.raw val)) (a.put (some t1) val):=hF.put (some t1) (fun t h=>by cases h; exact h1.1) (.raw val);have hrun:(execOp a.eval o1).run P w = .ok .recover w:=by simp [execOp,ho1,resolve,invoke,builtin]
 have hw1:Region.wanted o1 (yielded #[o1,o2] a.tmps)=true:=by simp [Region.wanted,hg1]
 have hrest : ∀ (c₁:Frame),c₁={ c₀ with mode:=u' }->wpOpsS P #[o1,o2] (Exit.thenS (B.wpS P (bodyPostS P fn c₀ cs fun e uu w' => ∃ v S' m' β',e = .returned v/\uu=u'/\K S'/\Holds S' m' β' w'/\Ext m β w m' β' w')) (bodyPostS P fn c₀ cs fun e uu w' => ∃ v S' m' β',e = .returned v/\uu=u'/\K S'/\Holds S' m' β' w'/\Ext m β w m' β' w')) [1] (a.put (some t1) val) (c₁::cs) w:=by
  rintro c₁ rfl;have hw2:Region.wanted o2 (yielded #[o1,o2] (a.put (some t1) val).tmps)=true:=by simp [Region.wanted,hg2]
  subst hops;have hmove:(execOp (a.put (some t1) val).eval o2).run P w = .ok (.value val) w:=by
   have:=hF1.rep t1;rw [Fr.look_set,if_pos rfl] at this;simp only [execOp,ho2];rw [show (a.put (some t1) val).eval (.tmp t1)=val from this.inv_raw]
   rfl
  simp only [wpOpsS];rw [show (#[o1,o2]:Array Oper)[1]? = some o2 from rfl];simp only;rw [if_pos hw2,hmove];simp only [Oper.upon,Exit.thenS];rw [hd2];refine wpS_of_wp ?_;have hF2:=hF1.put (some t2) (fun t h=>by cases h; exact h1.2) (x := .raw val) (v:=val) (.raw val);refine wp_mono (hh m β w _ hS hF2) ?_;rintro e a' w' ⟨σ',S',m',β',q,r1,r2,r3⟩;cases e with
  | normal =>
   obtain ⟨x,hx,_⟩:=zY (P:=P) ht r2 w';exact ⟨r2.defers,u',rfl,x,hx,x,S',m',β',rfl,rfl,q,r1,Jx hS r3⟩
  | ret =>
   obtain ⟨x,hx,_⟩:=zY (P:=P) ht r2 w';exact ⟨r2.defers,u',rfl,x,hx,x,S',m',β',rfl,rfl,q,r1,Jx hS r3⟩
  | _=>exact q.elim
 refine wpS_seq (wpS_region ?_);rw [hops];show wpOpsS P #[o1,o2] _ [0,1] a (c₀::cs) w;rw [wpOpsS];rw [show (#[o1,o2]:Array Oper)[0]? = some o1 from rfl];simp only;rw [if_pos hw1,hrun];simp only;rcases hu with ⟨rfl,rfl,rfl⟩ | ⟨v,rfl,rfl,rfl⟩
 .have:recoverD (c₀::cs)=none:=by simp [recoverD,hm]
  rw [this];simp only [hd1];have hc0:c₀={ c₀ with mode := .returning }:=by rw [<-hm]
  have hx:=hrest c₀ hc0;exact hx
 .have:recoverD (c₀::cs)=some (val,{ c₀ with mode := .panicking [{ v:=val,recovered:=true }] }::cs):=by simp [recoverD,hm]
  rw [this];simp only [hd1];exact hrest _ rfl
def Seen (S S':Store):Prop := ∀ m β w,Holds S m β w -> ∃ m' β',Holds S' m' β' w/\Ext m β w m' β' w
theorem Seen.refl (S:Store):Seen S S:=fun m β w h=>⟨m,β,h,Ext.refl _ _ _⟩
def FinB (N b:Nat) (m0:Imm) (β0:Objs) (w0:World) (R:Exit->Act->World->Prop) (e:Exit) (σ:Fr) (S:Store):Prop := ∀ m β w a,Holds S m β w->FrameRep N m β σ a->ExtB b m0 β0 w0 m β w->R e a w
def VG (P:Program) (N b:Nat) (m0:Imm) (β0:Objs) (w0:World) (R:Exit->Act->World->Prop) (c:Code) (σ:Fr) (S:Store):Prop := ∀ m β w a,Holds S m β w->FrameRep N m β σ a->ExtB b m0 β0 w0 m β w->c.wp P R a w
section
variable {P:Program} {N b:Nat} {m0:Imm} {β0:Objs} {w0:World} {R:Exit->Act->World->Prop} {σ:Fr} {S:Store}
def seqG (P:Program) (N b:Nat) (m0:Imm) (β0:Objs) (w0:World) (R:Exit->Act->World->Prop) (y:Code):Exit->Fr->Store->Prop
 | .normal,σ,S=>VG P N b m0 β0 w0 R y σ S
 | e,σ,S=>FinB N b m0 β0 w0 R e σ S
theorem Zp {c:Code} (hk:Code.kind c=3) (h:VWp P N b (Code.fst c) (seqG P N b m0 β0 w0 R (Code.snd c)) σ S):VG P N b m0 β0 w0 R c σ S:=by
 cases c with
 | seq x y =>
  intro m β w a hS hF he;refine wp_seq (wp_mono (h m β w a hS hF) ?_);rintro e a' w' ⟨σ',S',m',β',q,r1,r2,r3⟩;cases e with
  | normal=>exact q m' β' w' a' r1 r2 (he.trans r3)
  | _=>exact q m' β' w' a' r1 r2 (he.trans r3)
 | region id ops d=>cases d<;>simp [Code.kind] at hk
 | _=>simp [Code.kind] at hk
theorem aeo {c:Code} {id t:Nat} {ops:Array Oper} {o1 o2:Oper} {g:FuncId} {aZZ:List Arg} (hc:c = .seq (.region id ops false) (Code.snd c)) (hops:ops.toList=[o1,o2]) (hc1:za P N ops o1=some ⟨some t,none, .makeFunc g aZZ⟩) (hg1:o1.guard=none)
  (ho2:o2.op = .defer ⟨.value (.tmp t), #[], #[]⟩) (hd2:o2.dst=none) (hg2:o2.guard=none)
  (H : ∀ v vs,v = .func (.func g) #[] vs->VWpD P N b t v [⟨.fn (.func g) vs, #[]⟩] (Code.snd c) (fun e σ' S' => ∀ m β w a,Holds S' m β w->FrameRep N m β σ' a->ExtB b m0 β0 w0 m β w->a.tmps.getD t undef=v->R e { a with defers:=[⟨.fn (.func g) vs, #[]⟩] } w) (σ.set t (.func g (aZZ.map (ev σ)))) S) :
  VG P N b m0 β0 w0 R c σ S:=by
 intro m β w a hS hF he;obtain ⟨B,hB⟩ : ∃ B,Code.snd c=B:=⟨_,rfl⟩
 rw [hB] at hc H;subst hc;refine wp_seq (wp_region_list ?_);rw [hops];simp only [wpList];have hw1:Region.wanted o1 (yielded ops a.tmps)=true:=by simp [Region.wanted,hg1]
 rw [if_pos hw1];refine .inl ?_;obtain ⟨c1,c2,c3,c4⟩:=Kv hc1;simp only at c2;refine Wc (N:=N) (b:=b) (m0:=m0) (β0:=β0) (w0:=w0) (k:=fun x S'=>x = .func g (aZZ.map (ev σ))/\S'=S) c1 c4 (by simp [vop,jg]) hS hF he ?_;rintro x S' m1 β1 w1 a1 ⟨rfl,rfl⟩ k2 k3 k4;rw [<-c2] at k3;have hF1:FrameRep N m1 β1 (σ.set t (.func g (aZZ.map (ev σ)))) a1:=k3;have hr:=hF1.rep t;rw [Fr.look_set,if_pos rfl] at hr;obtain ⟨vs,hv,_⟩:=hr.inv_func;have hw2:Region.wanted o2 (yielded ops a1.tmps)=true:=by simp [Region.wanted,hg2]
 rw [if_pos hw2];refine .inl ?_;have hrun:(execOp a1.eval o2).run P w1 = .ok (.defer ⟨.fn (.func g) vs.toArray, #[]⟩) w1:=by
  have he1:a1.eval (.tmp t) = .func (.func g) #[] vs.toArray:=hv;simp [execOp,ho2,resolve,he1,Deferred.ofValue]
 unfold Oper.wp;rw [hrun];simp only [Oper.upon,hd2,Exit.then];have hd:=hF1.defers;refine wp_mono (H _ vs.toArray hv m1 β1 w1 a1 k2 hF1 rfl) ?_ |> fun h=>by rw [hd] at h; rw [hd]; exact h
 rintro e a' w' ⟨a0,rfl,hv0,σ',S',m',β',q,r1,r2,r3⟩;have:=q m' β' w' a0 r1 r2 (k4.trans r3) (hv0.trans rfl);rw [r2.defers];exact this
def jgj (m0:Imm) (β0:Objs) (w0:World) (Q:V->Store->Prop) (e:Ending) (w':World):Prop := ∃ v x S' m' β',e = .returned v/\Q x S'/\Rep m' β' x v/\Holds S' m' β' w'/\Ext m0 β0 w0 m' β' w'
theorem aam {c:Code} {Q:Exit->Fr->Store->Prop} (hwf:S.Wf) (h:VWp P N b c Q σ (St S [] [])):VWp P N b c Q σ S:=by rwa [jh hwf] at h
theorem jbY {f:FuncId} {fn:Func} {c:Code} {args:List V} {Q:V->Store->Prop} (hf:P.funcs[f]? = some fn) (hb:fn.body=some c) (hn:args.length<=fn.ntmps)
  (h : ∀ m0 β0 w0,Holds S m0 β0 w0->S.Wf->VG P fn.ntmps S.nx m0 β0 w0 (bodyPostD P fn (jgj m0 β0 w0 Q)) c (zC 0 args) S):VCalls P f args S Q:=by
 intro m β w vs hS hr;refine (calls_of_wp_defers (R:=jgj m β w Q) hf hb ?_).mono ?_
 .have hF:FrameRep fn.ntmps m β (zC 0 args) { tmps:=vs.toArray++Array.replicate (fn.ntmps-vs.toArray.size) undef,defers:=[] }:=by
   have hl:=hr.1;refine ⟨by simp; omega,rfl,fun t => ?_⟩;rw [zP];simp only [Nat.zero_le,if_true,Nat.sub_zero];cases hx:args[t]? with
   | none=>exact .junk _
   | some x =>
    have hlt:t<vs.length:=by rw [<-hl]; exact (ab.1 hx).1
    have:(vs.toArray++Array.replicate (fn.ntmps-vs.toArray.size) undef).getD t undef=vs[t]:=by
     simp [aO,Array.getElem?_append,hlt]
    simp only [this,aJ];exact hr.2 t x _ hx (aa hlt)
  exact h m β w hS hS.wf m β w _ hS hF (ExtB.refl _ _ _ _)
 .rintro e w' ⟨v,x,S',m',β',rfl,q,k1,k2,k3⟩;exact ⟨v,x,S',m',β',rfl,q,k1,k2,k3⟩
theorem jeM {fn:Func} {rs:List (Nat × Option (Option Nat))} {Q:V->Store->Prop} {S0:Store} (hres:resC P fn=some rs) (h0:Holds S0 m0 β0 w0) {m:Imm} {β:Objs} {w:World} {a:Act} (hS:Holds S m β w) (hF:FrameRep N m β σ a) (he:ExtB S0.nx m0 β0 w0 m β w)
  (hK : ∃ S2 xs,Seen S S2/\resL S2 σ rs=some xs/\Q (tupV xs) S2):Leaves P fn a.tmps (jgj m0 β0 w0 Q) [] .returning w:=by
 obtain ⟨S2,xs,hs,hx,hq⟩:=hK;obtain ⟨m2,β2,k1,k2⟩:=hs m β w hS;obtain ⟨v,hv,hrv⟩:=JH (P:=P) hres k1 (hF.ext k2) hx;exact ⟨v,hv,v,_,S2,m2,β2,rfl,hq,hrv,k1,Jx h0 (he.trans (k2.toB _))⟩
theorem jdH {fn:Func} {rs:List (Nat × Option (Option Nat))} {Q:V->Store->Prop} {S0:Store} {e:Exit} (hres:resC P fn=some rs) (h0:Holds S0 m0 β0 w0) (he:e = .normal\/e = .ret) (hK : ∃ S2 xs,Seen S S2/\resL S2 σ rs=some xs/\Q (tupV xs) S2):FinB N S0.nx m0 β0 w0 (bodyPostD P fn (jgj m0 β0 w0 Q)) e σ S:=by
 intro m β w a hS hF hx;have:=jeM (Q:=Q) hres h0 hS hF hx hK;rw [<-hF.defers] at this;rcases he with rfl | rfl<;>exact this
theorem jaU {fn:Func} {rs:List (Nat × Option (Option Nat))} {Q:V->Store->Prop} {K:Store->Prop} {S0:Store} {e:Exit} {u u':FrameMode} {t:Nat} {g:FuncId} {caps:List V} {vs:Array Value} (hres:resC P fn=some rs) (h0:Holds S0 m0 β0 w0) (hcal:jE P g=true) (ht:σ.lk t = .func g caps)
  (he:((e = .normal\/e = .ret)/\u = .returning) \/ ∃ ch,e = .panic ch/\u = .panicking ch) (hs:settle u' = .returning) (hcall:jgi P g caps u u' S K) (hK : ∀ S',K S' -> ∃ S2 xs,Seen S' S2/\resL S2 σ rs=some xs/\Q (tupV xs) S2) :
  ∀ m β w a,Holds S m β w->FrameRep N m β σ a->ExtB S0.nx m0 β0 w0 m β w->a.tmps.getD t undef = .func (.func g) #[] vs->bodyPostD P fn (jgj m0 β0 w0 Q) e { a with defers:=[⟨.fn (.func g) vs, #[]⟩] } w:=by
 intro m β w a hS hF hx hv;have hr:=hF.rep t;rw [ht,hv] at hr;obtain ⟨us,hu,hrl⟩:=hr.inv_func;have hvs:vs=us.toArray:=by cases hu; rfl
 subst hvs;have key:Leaves P fn a.tmps (jgj m0 β0 w0 Q) [⟨.fn (.func g) us.toArray, #[]⟩] u w:=by
  refine leaves_cons (f:=g) (args:=us.toArray) ?_ ?_ (CallsD.mono (hcall m β w us hS hrl) ?_)
  .rcases he with ⟨_,rfl⟩ | ⟨ch,_,rfl⟩<;>exact FrameMode.noConfusion
  .unfold jE at hcal;split at hcal
   .rename_i fn' hfn;simp only [Bool.not_eq_true',Bool.or_eq_false_iff] at hcal;have hn1' : ¬ fn'.name = "runtime.NumGoroutine" := by simpa using hcal.1
    have hn2' : ¬ fn'.body=none:=by intro h; simp [h] at hcal
    simp [invoke,callFunc,hfn,hn1',hn2']
   .cases hcal
  .rintro e' uu w' ⟨v',S',m',β',rfl,rfl,k1,k2,k3⟩;show Leaves P fn a.tmps (jgj m0 β0 w0 Q) [] (settle uu) w';rw [hs];exact jeM (Q:=Q) hres h0 k2 (hF.ext k3) (hx.trans (k3.toB _)) (hK S' k1)
 rcases he with ⟨rfl | rfl,rfl⟩ | ⟨ch,rfl,rfl⟩<;>exact key
end
section
variable {P:Program} {N b:Nat} {Q:Exit->Fr->Store->Prop} {σ:Fr} {S:Store}
theorem KR {c:Code} {l1 l2:List Oper} {o:Oper} {cs1 cs2:List CO} {σ1:Fr} {S1:Store} {x:V} (E:EP) (hQ : ∀ ch σ S,E ch S->Q (.panic ch) σ S) (h:Code.kind c=1) (hops:(Code.ops c).toList=l1++o::l2) (hc1:l1.mapM (za P N (Code.ops c))=some cs1)
  (hc2:l2.mapM (za P N (Code.ops c))=some cs2) (hgs:l1.all (fun o=>o.guard.isNone)=true) (hg:o.guard=none) (hd : ∀ t,o.dst=some t->t<N) (r1:runV none cs1 σ S=some ([],σ1,S1)) (hrun : ∀ m β w a,Holds S1 m β w->FrameRep N m β σ1 a -> ∃ v,(execOp a.eval o).run P w = .ok (.value v) w/\Rep m β x v)
  (H:qF P E cs2 (Q .normal) (σ1.put o.dst x) S1):VWp P N b c Q σ S:=by
 cases c with
 | region id ops' d =>
  cases d
  .intro m β w a hS hF;simp only [Code.ops] at hops hc1 hc2;refine wp_region_list ?_;rw [hops];have key : ∀ (l:List Oper) (cs:List CO) (σ:Fr) (S:Store) (m':Imm) (β':Objs) (w':World) (a:Act),l.all (fun o=>o.guard.isNone)=true->l.mapM (za P N ops')=some cs->qF P E cs (fun σ2 S2=>σ2=σ1/\S2=S1) σ S->Holds S m' β' w'->FrameRep N m' β' σ a->ExtB b m β w m' β' w'->wpList P ops' (Post N b Q m β w) (l++o::l2) a w':=by
    intro l
    induction l with
    | nil =>
     intro cs σ S m' β' w' a _ hl h hS hF he;simp at hl;subst hl;obtain ⟨rfl,rfl⟩:=h;simp only [aZ,wpList];have hw:Region.wanted o (yielded ops' a.tmps)=true:=by simp [Region.wanted,hg]
     rw [if_pos hw];refine .inl ?_;obtain ⟨v,hv,hx⟩:=hrun m' β' w' a hS hF;unfold Oper.wp;rw [hv];exact Jz hQ l2 cs2 _ _ m' β' w' _ hc2 H hS (hF.put o.dst hd hx) he
    | cons o' l ih =>
     intro cs σ S m' β' w' a hgl hl h hS hF he;rw [List.all_cons,ae] at hgl;simp only [List.mapM_cons,Option.bind_eq_bind,aG] at hl;obtain ⟨c',hc',cs',hcs',hl⟩:=hl;simp at hl; subst hl;unfold za at hc';split at hc'
     .rename_i co g h1 h2;split at hc'
      .rename_i hdst;cases hc';have hd' : ∀ t,o'.dst=some t->t<N:=by
        intro t ht; rw [ht] at hdst; simpa using hdst
       simp only [aY,wpList];have run:vopX P E σ S co (fun v S'=>qF P E cs' (fun σ2 S2=>σ2=σ1/\S2=S1) (σ.put o'.dst v) S')->o'.wp P a w' (wpList P ops' (Post N b Q m β w) (l++o::l2)) (Post N b Q m β w):=fun hv =>
        KU h1 hd' hv hS hF he (fun x S' m' β' w' a' k1 k2 k3 k4=>ih cs' _ S' m' β' w' a' hgl.2 hcs' k1 k2 k3 k4)
         (fun ch S' m' β' w' k1 k2 k3 k4=>⟨σ,S',m',β',hQ _ _ _ k1,k2,k3,k4⟩)
       cases hg':o'.guard with
       | none =>
        rw [hg'] at h2;simp [zb] at h2; subst h2;have hw:Region.wanted o' (yielded ops' a.tmps)=true:=by simp [Region.wanted,hg']
        rw [if_pos hw];simp only [qF] at h;exact .inl (run h)
       | some jw =>
        have:=hgl.1;rw [hg'] at this;cases this
      .cases hc'
     .cases hc'
   exact key l1 cs1 σ S m β w a hgs hc1 (JG cs1 σ S r1 ⟨rfl,rfl⟩) hS hF (ExtB.refl _ _ _ _)
  .simp [Code.kind] at h
 | _=>simp [Code.kind] at h
end
end Go.Vw
namespace Go.Vw
open Go.Proofs Go.RowKit Wm
attribute [-simp] List.map_set
theorem MI.same {ro fo:Nat} {m:MS} {S T:Store} (h:MI ro fo m S) (h1:T.get ro=S.get ro) (h2:m.fs.isSome=true->T.get fo=S.get fo):MI ro fo m T:=by
 refine ⟨h.ok,h1.trans h.get,fun l hl => ?_⟩;obtain ⟨k1,cs,k2,k3⟩:=h.fu l hl;exact ⟨k1,cs,(h2 (by rw [hl]; rfl)).trans k2,k3⟩
theorem CodeC.same {fo0 n i fo:Nat} {fs:Option (List Wm.Func)} {S T:Store} (h:CodeC fo0 n i fo fs S) (h2:T.get fo=S.get fo):CodeC fo0 n i fo fs T:=by
 obtain ⟨k0,l,cs,k1,k2,k3,k4⟩:=h;exact ⟨k0,l,cs,k1,k2,h2.trans k3,k4⟩
theorem ac2 {P:Program} {f:FuncId} {args:List V} {S S':Store} {Q:V->Store->Prop} {E:EP} (h:Seen S S') (k:VCallsX P f args S' Q E):VCallsX P f args S Q E:=by
 intro m β w vs hS hR;obtain ⟨m',β',h1,h2⟩:=h m β w hS;refine (k m' β' w vs h1 (hR.mono h2.imm h2.step)).mono ?_;rintro e w' (⟨v,x,T,m1,β1,he,hQ,a1,a2,a3⟩ | ⟨ch,T,m1,β1,he,hE,a2,a3⟩)
 .exact .inl ⟨v,x,T,m1,β1,he,hQ,a1,a2,h2.trans a3⟩
 .exact .inr ⟨ch,T,m1,β1,he,hE,a2,h2.trans a3⟩
theorem Seen.reach {S S':Store} (h:Seen S S') {N b:Nat} {σ:Fr}:Reach N b σ S σ S':=by
 intro m β w a hS hF;obtain ⟨m',β',h1,h2⟩:=h m β w hS;exact ⟨m',β',h1,hF.ext h2,h2.toB b⟩
theorem Seen.trans {S T U:Store} (h:Seen S T) (k:Seen T U):Seen S U:=by
 intro m β w hS;obtain ⟨m',β',h1,h2⟩:=h m β w hS;obtain ⟨m1,β1,k1,k2⟩:=k m' β' w h1;exact ⟨m1,β1,k1,h2.trans k2⟩
theorem Seen.cell {S S1:Store} {x x':V} {o i s:Nat} {cs:List V} (hg:Ghost x S x' S1) (hx:x.one=true) (hc:S.get o=some (s,cs)) (hi:cs[i]? = some x) (hc1:S1.get o=some (s,cs)):Seen S (S1.upd o (s,cs.set i x')):=by
 intro m β w hS;have hl:=hS.live o _ hc;have hlt:i<cs.length:=(ab.1 hi).1;cases hβ:β o with
 | fresh=>rw [hβ] at hl; exact hl.elim
 | dead=>rw [hβ] at hl; exact hl.elim
 | void=>rw [hβ] at hl; simp only [Live] at hl; rw [hl] at hlt; simp at hlt
 | mp b' =>
  rw [hβ] at hl;obtain ⟨es,clock,h1,h2,h3⟩:=hl;have hi2:i<es.size:=by simp only at h2; omega
  obtain ⟨k,v,e1,_⟩:=h3 i x es[i] hi (Array.getElem?_eq_getElem hi2);rw [e1] at hx; simp [V.one] at hx
 | lies b base s' n =>
  rw [hβ] at hl;obtain ⟨h0,arr,T,⟨fz,hz,h1⟩,h2,h3,h4⟩:=hl;obtain ⟨v,e1,e2,e3⟩:=h4 i x hi;obtain ⟨m',β',k1,k2,k3⟩:=hg m β w v hS e2;have hb':β' o = .lies b base s' n:=by
   rcases k2.step o (by rw [hβ]; exact Loc.noConfusion) with h | h
   .rw [h,hβ]
   .have:=k1.live o _ hc1;rw [h] at this; exact this.elim
  refine ⟨m',β',k1.reseen hc1 hb' h1 (cs.set i x') (by simp) (fun j y u hy hu => ?_),k2⟩;rw [List.getElem?_set] at hy;split at hy
  .rename_i e; subst e;simp only [hlt,if_true,ar] at hy;subst hy;rw [e1] at hu; cases hu;exact k3
  .obtain ⟨u',f1,f2,_⟩:=h4 j y hy;rw [f1] at hu; cases hu;exact f2.mono k2.imm k2.step
theorem jeX (ro:Nat) (fo:Nat) (m:MS) (l:List Wm.Func) (S:Store) (E:EP) (hfs:m.fs=some l) (hC:NilC fo m.fs S) (hi:MI ro fo m S) (hE : ∀ e,Ym m = .error e -> ∀ T,Kept S [ro,fo] T->E (jY 46 e) T) :
  VCallsX Tryz.prog 44 [.ptr ro 0] S (fun r T => ∃ m',Ym m = .ok m'/\m'.b=m.b/\MI ro fo m' T/\Kept S [ro,fo] T/\r = .tuple []) E:=by
 refine jc (c:=jf Tryz.f44) Tryz.func44 rfl rfl (by simp [Tryz.ntmps44]) ?_;rw [Tryz.ntmps44];intro hwf;obtain ⟨hnr,cs,hfo,hcs,hids⟩:=hi.fu l hfs;have hnil : ∀ j,j<l.length->cs[3*j+1]? = some .nils:=by
  obtain ⟨cs',k1,k2⟩:=hC l hfs;rw [hfo] at k1;cases k1;exact k2
 have hget:=hi.get;have hl:=jx hwf hget;have hlf:=jx hwf hfo;obtain ⟨b,a,ty,im,fs,pg,mo,gl,ex,st,da,ops⟩:=m;simp only at hfs;subst hfs;have ⟨h1,h2,h3,h4,h5,h6,h7⟩:=hi.ok;simp only at h1 h2 h3 h4 h5 h6 h7;have h4':ops<=1000:=by omega
 obtain ⟨n,hn⟩ : ∃ n,l.length=n:=⟨_,rfl⟩
 have hn32:n<=32:=by rw [<-hn]; exact h7 l rfl
 have hfv:fuV fo (some l) = .slice fo 0 n:=by rw [<-hn]; rfl
 have g1 := @JN S ro fo hl;have g2 := @Kh S ro fo hlf hnr;have u1 := @Ww S ro fo hl;have u2 := @jav S ro fo hlf hnr;rw [show St S [] []=St S [(ro,some (12,[vl vb b,bI a,vl je ty,vl jp im,fuV fo (some l),bH pg,bH mo,vl jv gl,vl jr ex,bH st,vl jq da,bI ops])),(fo,some (3,cs))] [] from jfo hl hlf hget hfo];rw [hfv];refine bi g1 ?_;have hzk : ∀ a',(Zs S [ro,fo] [(ro,some (12,[vl vb b, .junk,vl je ty,vl jp im, .slice fo 0 n,bH pg,bH mo,vl jv gl,vl jr ex,bH st,vl jq da, .junk])),(fo,some (3,cs))] [some (1,[.ptr ro 0])]).ok (St S [(ro,some (12,[vl vb b,bI a',vl je ty,vl jp im, .slice fo 0 n,bH pg,bH mo,vl jv gl,vl jr ex,bH st,vl jq da,bI ops])),(fo,some (3,cs))] [some (1,[.ptr ro 0])]):=fun a'=>YI (by simp [WG,subO,jm,qB]) (by simp [jW,subO,jm]) (by simp) (by simp);refine QT ?_;refine XD E (Zs S [ro,fo] [(ro,some (12,[vl vb b, .junk,vl je ty,vl jp im, .slice fo 0 n,bH pg,bH mo,vl jv gl,vl jr ex,bH st,vl jq da, .junk])),(fo,some (3,cs))] [some (1,[.ptr ro 0])]) [] [0,2,3,4,5,6,7,1,8] [10] (ho:=KF _ _ _ _) (hz:=hzk a) (r:=by conv=>lhs;simp[QV,↓ju,ZR,Zs,zz,jl,ji,V.nj,V.nj1,V.bK,g1,g2]) (k:=?_);refine Zc (s:=⟨b,a,vl je ty,vl jp im, .slice fo 0 n,bH pg,bH mo,vl jv gl,vl jr ex,bH st,vl jq da,ops⟩) rfl rfl (zl ro) (by simp [Zs,lid]; omega) (by simp [Zs]) (g1 _ _ _) ⟨h1,h2,h3,h4'⟩ (fun a'=>by rw [u1]; exact hzk a') ?_ ?_
 .intro e he T hk;exact hE e (by simp only [Ym]; rw [show index b a = .error e from he]) T hk
 intro n0 a1 hn0 ha1;rw [u1];show zf _ _ _ _ _ _ _ (St S [(ro,some (12,[vl vb b,bI a1,vl je ty,vl jp im, .slice fo 0 n,bH pg,bH mo,vl jv gl,vl jr ex,bH st,vl jq da,bI ops])),(fo,some (3,cs))] [some (1,[.ptr ro 0])]);by_cases c1:n0=n
 .have d1:(n0:Int)=(n:Int):=by omega
  refine ZM (r:=by conv=>lhs;simp[QV,↓ju,ZR,Zs,zz,jl,ji,V.nj,V.nj1,V.bK,g1,g2,d1]) (k:=?_);refine jy ?_;have hw0:Ym ⟨b,a,ty,im,some l,pg,mo,gl,ex,st,da,ops⟩=WF n 0 ⟨b,a1,ty,im,some l,pg,mo,gl,ex,st,da,ops⟩:=by
   simp only [Ym];rw [show index b a = .ok (n0,a1) from hn0];simp only [aJ,hn];rw [if_neg (fun h=>h c1)]
  refine bj g1 g2 d1 ?_;have hok1:MS.ok ⟨b,a1,ty,im,some l,pg,mo,gl,ex,st,da,ops⟩:=⟨ha1,h2,h3,h4,h5,h6,h7⟩
  refine bB [1,25,26] (fun c σ' T => ∃ (k:Nat) (m':MS),k<=n/\c=n-k/\WF n 0 ⟨b,a1,ty,im,some l,pg,mo,gl,ex,st,da,ops⟩=WF (n-k) k m'/\m'.b=b/\MI ro fo m' T/\CodeC fo n k fo m'.fs T/\T.get (lid S.nx 0)=some (1,[.ptr ro 0])/\Kept S [ro,fo] T/\σ'=[(1, .ptr (lid S.nx 0) 0),(25,bI n),(26,bI k)]) n ?_ ?_
  .refine ⟨0,⟨b,a1,ty,im,some l,pg,mo,gl,ex,st,da,ops⟩,Nat.zero_le _,rfl,rfl,rfl,⟨hok1, ?_, ?_⟩,⟨rfl,l,cs,rfl,hn,g2 _ _ _,fun j _ hj=>hnil j (by omega)⟩,by simp,jN (by simp),by simp [Fr.oy]⟩
   .rw [g1]; simp [msR,rc,hfv]
   .intro l' hl';cases hl';exact ⟨hnr,cs,g2 _ _ _,hcs,hids⟩
  .rintro c σ' T ⟨k,m',hk,rfl,hcl,hmb,hmi,hcc,hbx,hkp,rfl⟩;refine jD fun hwT => ?_;rw [<-jh hwT];by_cases hkt:k<n
   .have hw:=jP hkt (by omega);have hgo:WF (n-k) k m'=match zU (jba k) m' with | .error e => .error e | .ok m'=>WF (n-(k+1)) (k+1) m':=by
     rw [show n-k=(n-(k+1))+1 by omega]; rfl
    have hcc0:=hcc;obtain ⟨_,l',cs',hfs',hl',hfo',hnil'⟩:=hcc0;have hlT:=jx hwT hmi.get;have hfT:=jx hwT hfo';have hbT:=jx hwT hbx;have hfv':fuV fo m'.fs = .slice fo 0 n:=by rw [hfs', <-hl']; rfl
    have hgr : ∀ l,(St T [] l).get ro=some (12,[vl vb m'.b,bI m'.a,vl je m'.ty,vl jp m'.im, .slice fo 0 n,bH m'.pg,bH m'.mo,vl jv m'.gl,vl jr m'.ex,bH m'.st,vl jq m'.da,bI m'.ops]):=fun l=>by rw [jk hlT, <-hfv']; exact hmi.get
    have hgf : ∀ l,(St T [] l).get fo=some (3,cs'):=fun l=>by rw [jk hfT]; exact hfo'
    have hgb : ∀ l,(St T [] l).get (lid S.nx 0)=some (1,[.ptr ro 0]):=fun l=>by rw [jk hbT]; exact hbx
    have hcl':=abc l' cs' (by obtain ⟨_,cs1,q1,q2,_⟩:=hmi.fu l' hfs'; rw [hfo'] at q1; cases q1; exact q2);have hrow:k*3+3<=cs'.length:=by omega
    refine bp hkt hgr hgb hgf hrow ?_;refine XQ E ?_ (r:=by conv=>lhs;simp[QV,hgb]);have e3:k*3=3*k:=by omega
    rw [e3];have hgr1:(St T [] [some (1,[.ptr fo (3*k)])]).get ro=T.get ro:=(hgr _).trans (by rw [hmi.get, <-hfv']; rfl);have hgf1:(St T [] [some (1,[.ptr fo (3*k)])]).get fo=T.get fo:=(hgf _).trans hfo'.symm;have hne0:lid S.nx 0≠ro/\lid S.nx 0≠fo:=by simp [lid]; omega
    have hne1:lid T.nx 0≠ro/\lid T.nx 0≠fo:=by simp [lid]; omega
    have hkT:Kept T [ro,fo] (St T [] [some (1,[.ptr fo (3*k)])]):=jN (by simp);have hown:ownM ro fo m'=[ro,fo]:=by unfold ownM; rw [hfs']
    have herr : ∀ e,zU (jba k) m' = .error e->Ym ⟨b,a,ty,im,some l,pg,mo,gl,ex,st,da,ops⟩ = .error e:=fun e he=>by rw [hw0,hcl,hgo,he]
    have hwith:=ae3 (CodeC fo n k) (CodeC fo n (k+1)) ro (CodeC.stable _ _ _ _) (CodeC.stable _ _ _ _) _ _ _ (anl ro (lid S.nx 0) (lid T.nx 0) fo n k hkt) fo m' _ E (hcc.same hgf1) (hmi.same hgr1 fun _=>hgf1)
     ⟨by
      intro q hq;simp only [aE,List.not_mem_nil,or_false] at hq;rcases hq with rfl | rfl
      .exact hgb _
      .simp,by
      intro q hq;simp only [aE,List.not_mem_nil,or_false] at hq;rcases hq with rfl | rfl
      .exact ⟨hne0.1,fun _=>hne0.2⟩
      .exact ⟨hne1.1,fun _=>hne1.2⟩⟩
     (fun e he T' hk'=>hE e (herr e he) T' (hkp.trans (hkT.trans (by rw [hown] at hk'; exact hk'))))
    refine jb rfl hwith ?_;rintro _ T' ⟨m2,fo2,hmp,hcc2,rfl⟩;obtain ⟨hfo2,_⟩:=id hcc2;subst hfo2;refine ja ?_;have hkk:=hmp.kept;rw [hown] at hkk;have hkp2:Kept S [ro,fo2] T':=hkp.trans (hkT.trans hkk);have hbx2:T'.get (lid S.nx 0)=some (1,[.ptr ro 0]):=by
     rw [hkk.2 _ (by rw [jH]; simp [lid] at hbT ⊢; omega) (by simp only [aE,List.not_mem_nil,or_false,not_or]; exact hne0)];exact hgb _
    rw [hmp.eq] at hgo;refine bi hw ?_;show zI _ _ _ _ _ _ _;exact again ⟨(by omega:n-(k+1)<n-k),k+1,m2,by omega,rfl,by rw [hcl,hgo],by rw [hmp.bb]; exact hmb,hmp.mi,hcc2,hbx2,hkp2,by simp [Fr.oy,hw]⟩
   .have hke:k=n:=by omega
    subst hke;refine bi hkt ?_;rw [jh hwT];rw [hcl,Nat.sub_self] at hw0;exact jn ⟨m',hw0,hmb,hmi,hkp,rfl⟩
 .have hw0:Ym ⟨b,a,ty,im,some l,pg,mo,gl,ex,st,da,ops⟩ = .error (6,(a:Int),0):=by
   simp only [Ym];rw [show index b a = .ok (n0,a1) from hn0];simp only [aJ,hn];rw [if_pos c1]
  have d1 : ¬ (n0:Int)=(n:Int):=by omega
  refine ZM (r:=by conv=>lhs;simp[QV,↓ju,ZR,Zs,zz,jl,ji,V.nj,V.nj1,V.bK,g1,g2,d1]) (k:=?_);refine jy ?_;refine bm c1 d1 ?_;refine XQ E ?_;refine jb rfl (qI _ _ _ E (fun T hk=>hE _ hw0 T (hk.up ?_ ?_))) ?_
  .simp
  .simp
  .rintro _ _ h; exact h.elim
theorem ar0 (ro:Nat) (es:Ups):SecVC NilC AnyC Tryz.prog ro (.meth 44 (.ptr ro 0)) [] es Ym:=by
 intro fo m S E hC hi he hE;refine ⟨rfl,KV fun hwf => ?_⟩;cases hfs:m.fs with
 | some l =>
  have hown:ownM ro fo m=[ro,fo]:=by unfold ownM; rw [hfs]
  rw [hown] at hE;refine (jeX ro fo m l S E hfs hC hi hE).mono ?_ fun _ _ h=>h;rintro r T ⟨m',h1,h2,h3,h4,rfl⟩;exact ⟨m',fo,⟨h1,h2,h3,by rw [hown]; exact h4,fun _ => .inl ⟨by rw [hfs]; rfl,rfl⟩⟩,trivial,rfl⟩
 | none =>
  have hown:ownM ro fo m=[ro]:=by unfold ownM; rw [hfs]
  rw [hown] at hE;obtain ⟨b,a,ty,im,fs,pg,mo,gl,ex,st,da,ops⟩:=m;simp only at hfs;subst hfs;have hl:=jx hwf hi.get;have hadd : ∀ o,o<S.nx->(S.add (3,[])).get o=S.get o:=fun o ho=>by rw [jdY,if_neg (by omega)]
  have hseen:=Seen.cell (i:=4) (Ghost.nils S 3) Zx hi.get rfl ((hadd ro hl).trans hi.get);have hup : ∀ c o,o<S.nx->o≠ro->((S.add (3,[])).upd ro c).get o=S.get o:=fun c o ho hn=>by rw [jQ,if_neg hn]; exact hadd o ho
  refine ac2 hseen ((jeX ro S.nx ⟨b,a,ty,im,some [],pg,mo,gl,ex,st,da,ops⟩ [] _ E rfl ?_ ⟨⟨hi.ok.a,hi.ok.b,hi.ok.x,hi.ok.o,hi.ok.ty,hi.ok.im,fun l hl=>by cases hl; simp⟩, ?_, ?_⟩ ?_).mono ?_ fun _ _ h=>h)
  .intro l hl';cases hl';exact ⟨[],by rw [jQ,if_neg (by omega),jdY,if_pos rfl],fun j hj=>by simp at hj⟩
  .rw [jQ,if_pos rfl]; rfl
  .intro l hl';cases hl';exact ⟨by omega,[],by rw [jQ,if_neg (by omega),jdY,if_pos rfl],rfl,rfl⟩
  .intro e he' T hk;refine hE e he' T ⟨?_,fun o ho hno => ?_⟩
   .have:=hk.1;have e1:(Store.upd (S.add (3,[])) ro (12,(rc (msR fo ⟨b,a,ty,im,none,pg,mo,gl,ex,st,da,ops⟩)).set 4 (.slice S.nx 0 0))).nx=S.nx+1:=rfl;omega
   .simp only [aM] at hno;rw [hk.2 o (Nat.lt_succ_of_lt ho) (by simp only [aE,List.not_mem_nil,or_false,not_or]; exact ⟨hno,by omega⟩)];exact hup _ o ho hno
  .rintro r T ⟨m',h1,h2,h3,hk,rfl⟩;refine ⟨m',S.nx,⟨h1,h2,h3, ?_,fun _ => .inr (aT _)⟩,trivial,rfl⟩;rw [hown];refine ⟨?_,fun o ho hno => ?_⟩
   .have:=hk.1;have e1:(Store.upd (S.add (3,[])) ro (12,(rc (msR fo ⟨b,a,ty,im,none,pg,mo,gl,ex,st,da,ops⟩)).set 4 (.slice S.nx 0 0))).nx=S.nx+1:=rfl;omega
   .simp only [aM] at hno;rw [hk.2 o (Nat.lt_succ_of_lt ho) (by simp only [aE,List.not_mem_nil,or_false,not_or]; exact ⟨hno,by omega⟩)];exact hup _ o ho hno
end Go.Vw
namespace Wm
def qw {α:Type} (f:α->List Nat) (l:List α):List Nat:=if l.length=0 then [] else jS l.length++l.flatMap f
theorem JV {α:Type} (f:α->List Nat) (l:List α) (k:Nat):((l.take k).flatMap f).length<=(l.flatMap f).length:=by
 conv=>rhs; rw [<-List.take_append_drop k l,List.flatMap_append,List.length_append]
 omega
end Wm
namespace Go.Vw
open Go.Proofs Go.RowKit Wm
attribute [-simp] List.map_set
theorem anh (wo:Nat) (tv:V) (htv:tv.nj1=true) (g:V) (es:Ups) (f:Wm.Sig->List Nat) (l:List (Wm.Sig)) (hg : ∀ x∈l,WrV Tryz.prog g [je x] wo tv es (f x)) (hl:l.length<=1000000):WrX Tryz.prog 60 [.ptr wo 0,vl je l,g] wo tv es (qw f l):=by
 intro bo bs S E hi he hb;have hnc : ∀ x,(je x).ncells=2:=fun _=>rfl;refine jc (c:=jf Tryz.f60) Tryz.func60 rfl rfl (by simp [Tryz.ntmps60]) ?_;rw [Tryz.ntmps60];intro hwf;by_cases h0:l.length=0
 .refine bi h0 ?_;rw [jh hwf];exact jn ⟨⟨bo,by simpa [qw,h0] using WP.refl hi⟩,rfl⟩
 .simp only [qw,if_neg h0,lA] at hb;have h0' : ¬ (l.length:Int)=0:=by omega
  refine bm h0 h0' ?_;refine XQ E ?_;refine jb rfl ((zF wo tv htv l.length).at hwf hi (EnvW.nil _ _ _) (by omega)) ?_;rintro _ T1 ⟨⟨b1,h1⟩,rfl⟩;refine ja ?_;refine jD fun w1 => ?_;have he1:=he.go hwf h1;rw [<-jh w1];refine bk ?_;refine bB [2,15,16,17] (fun c σ T => ∃ (k bo':Nat),k<=l.length/\c=l.length-k/\WP wo b1 tv (bs++jS l.length++(l.take k).flatMap f) T1 bo' T/\EnvW wo bo' es T/\σ=[(2,g),(15,vl je l),(16,bI l.length),(17,bI k)]) l.length ?_ ?_
  .refine ⟨0,b1,Nat.zero_le _,rfl, ?_, ?_,by simp [Fr.oy]⟩
   .rw [jh w1];simpa using WP.refl h1.wi
   .rw [jh w1]; exact he1
  .rintro c σ T ⟨k,bo',hk,rfl,hp,hev,rfl⟩;refine jD fun hwT => ?_;rw [<-jh hwT];by_cases hkt:k<l.length
   .have hw:=jP hkt (by omega);have hft:=JV f l (k+1);rw [List.take_succ_eq_append_getElem hkt,List.flatMap_append,lA] at hft;simp only [List.flatMap_cons,List.flatMap_nil,List.append_nil] at hft;have hix : ∀ S,jz 2 S (vl je l) (.int .i64 (k:Int))=some (.ref (je l[k])):=fun S=>jG hnc hkt
    repeat first|refine QG ?_|refine QY ?_ (r:=by conv=>lhs;simp[QV,hkt,hix,hnc,je])
    refine XQ E ?_ (r:=by conv=>lhs;simp[QV,je]);refine jV rfl rfl (hg l[k] (ah hkt) bo' _ _ E (hp.wi.up hwT _) (hev.up hwT _) (by simp only [lA]; omega)) ?_;rintro _ U ⟨⟨b2,h2⟩,rfl⟩;refine ja ?_;have h2':=h2.below;have hev2:=hev.go hwT h2';refine bi hw ?_;show zI _ _ _ _ _ _ _;exact again ⟨al hkt (aN k),k+1,b2,hkt,rfl,(by rw [List.take_succ_eq_append_getElem hkt,List.flatMap_append, <-List.append_assoc]; simpa using hp.trans h2'),hev2,by simp [Fr.oy,hw]⟩
   .have hke:k=l.length:=by omega
    subst hke;refine bi hkt ?_;rw [jh hwT];rw [List.take_length] at hp;exact jn ⟨⟨bo',by rw [qw,if_neg h0, <-List.append_assoc]; exact h1.trans hp⟩,rfl⟩
theorem alt (wo:Nat) (tv:V) (htv:tv.nj1=true) (g:V) (es:Ups) (f:Wm.Import->List Nat) (l:List (Wm.Import)) (hg : ∀ x∈l,WrV Tryz.prog g [jp x] wo tv es (f x)) (hl:l.length<=1000000):WrX Tryz.prog 65 [.ptr wo 0,vl jp l,g] wo tv es (qw f l):=by
 intro bo bs S E hi he hb;have hnc : ∀ x,(jp x).ncells=3:=fun _=>rfl;refine jc (c:=jf Tryz.f65) Tryz.func65 rfl rfl (by simp [Tryz.ntmps65]) ?_;rw [Tryz.ntmps65];intro hwf;by_cases h0:l.length=0
 .refine bi h0 ?_;rw [jh hwf];exact jn ⟨⟨bo,by simpa [qw,h0] using WP.refl hi⟩,rfl⟩
 .simp only [qw,if_neg h0,lA] at hb;have h0' : ¬ (l.length:Int)=0:=by omega
  refine bm h0 h0' ?_;refine XQ E ?_;refine jb rfl ((zF wo tv htv l.length).at hwf hi (EnvW.nil _ _ _) (by omega)) ?_;rintro _ T1 ⟨⟨b1,h1⟩,rfl⟩;refine ja ?_;refine jD fun w1 => ?_;have he1:=he.go hwf h1;rw [<-jh w1];refine bk ?_;refine bB [2,15,16,17] (fun c σ T => ∃ (k bo':Nat),k<=l.length/\c=l.length-k/\WP wo b1 tv (bs++jS l.length++(l.take k).flatMap f) T1 bo' T/\EnvW wo bo' es T/\σ=[(2,g),(15,vl jp l),(16,bI l.length),(17,bI k)]) l.length ?_ ?_
  .refine ⟨0,b1,Nat.zero_le _,rfl, ?_, ?_,by simp [Fr.oy]⟩
   .rw [jh w1];simpa using WP.refl h1.wi
   .rw [jh w1]; exact he1
  .rintro c σ T ⟨k,bo',hk,rfl,hp,hev,rfl⟩;refine jD fun hwT => ?_;rw [<-jh hwT];by_cases hkt:k<l.length
   .have hw:=jP hkt (by omega);have hft:=JV f l (k+1);rw [List.take_succ_eq_append_getElem hkt,List.flatMap_append,lA] at hft;simp only [List.flatMap_cons,List.flatMap_nil,List.append_nil] at hft;have hix : ∀ S,jz 3 S (vl jp l) (.int .i64 (k:Int))=some (.ref (jp l[k])):=fun S=>jG hnc hkt
    repeat first|refine QG ?_|refine QY ?_ (r:=by conv=>lhs;simp[QV,hkt,hix,hnc,jp])
    refine XQ E ?_ (r:=by conv=>lhs;simp[QV,jp]);refine jV rfl rfl (hg l[k] (ah hkt) bo' _ _ E (hp.wi.up hwT _) (hev.up hwT _) (by simp only [lA]; omega)) ?_;rintro _ U ⟨⟨b2,h2⟩,rfl⟩;refine ja ?_;have h2':=h2.below;have hev2:=hev.go hwT h2';refine bi hw ?_;show zI _ _ _ _ _ _ _;exact again ⟨al hkt (aN k),k+1,b2,hkt,rfl,(by rw [List.take_succ_eq_append_getElem hkt,List.flatMap_append, <-List.append_assoc]; simpa using hp.trans h2'),hev2,by simp [Fr.oy,hw]⟩
   .have hke:k=l.length:=by omega
    subst hke;refine bi hkt ?_;rw [jh hwT];rw [List.take_length] at hp;exact jn ⟨⟨bo',by rw [qw,if_neg h0, <-List.append_assoc]; exact h1.trans hp⟩,rfl⟩
theorem abn (wo:Nat) (tv:V) (htv:tv.nj1=true) (g:V) (es:Ups) (f:Wm.Func->List Nat) (l:List (Wm.Func)) (hg : ∀ x∈l,WrV Tryz.prog g [encF x] wo tv es (f x)) (hl:l.length<=1000000):WrX Tryz.prog 69 [.ptr wo 0,vl encF l,g] wo tv es (qw f l):=by
 intro bo bs S E hi he hb;have hnc : ∀ x,(encF x).ncells=3:=fun _=>rfl;refine jc (c:=jf Tryz.f69) Tryz.func69 rfl rfl (by simp [Tryz.ntmps69]) ?_;rw [Tryz.ntmps69];intro hwf;by_cases h0:l.length=0
 .refine bi h0 ?_;rw [jh hwf];exact jn ⟨⟨bo,by simpa [qw,h0] using WP.refl hi⟩,rfl⟩
 .simp only [qw,if_neg h0,lA] at hb;have h0' : ¬ (l.length:Int)=0:=by omega
  refine bm h0 h0' ?_;refine XQ E ?_;refine jb rfl ((zF wo tv htv l.length).at hwf hi (EnvW.nil _ _ _) (by omega)) ?_;rintro _ T1 ⟨⟨b1,h1⟩,rfl⟩;refine ja ?_;refine jD fun w1 => ?_;have he1:=he.go hwf h1;rw [<-jh w1];refine bk ?_;refine bB [2,15,16,17] (fun c σ T => ∃ (k bo':Nat),k<=l.length/\c=l.length-k/\WP wo b1 tv (bs++jS l.length++(l.take k).flatMap f) T1 bo' T/\EnvW wo bo' es T/\σ=[(2,g),(15,vl encF l),(16,bI l.length),(17,bI k)]) l.length ?_ ?_
  .refine ⟨0,b1,Nat.zero_le _,rfl, ?_, ?_,by simp [Fr.oy]⟩
   .rw [jh w1];simpa using WP.refl h1.wi
   .rw [jh w1]; exact he1
  .rintro c σ T ⟨k,bo',hk,rfl,hp,hev,rfl⟩;refine jD fun hwT => ?_;rw [<-jh hwT];by_cases hkt:k<l.length
   .have hw:=jP hkt (by omega);have hft:=JV f l (k+1);rw [List.take_succ_eq_append_getElem hkt,List.flatMap_append,lA] at hft;simp only [List.flatMap_cons,List.flatMap_nil,List.append_nil] at hft;have hix : ∀ S,jz 3 S (vl encF l) (.int .i64 (k:Int))=some (.ref (encF l[k])):=fun S=>jG hnc hkt
    repeat first|refine QG ?_|refine QY ?_ (r:=by conv=>lhs;simp[QV,hkt,hix,hnc,encF])
    refine XQ E ?_ (r:=by conv=>lhs;simp[QV,encF]);refine jV rfl rfl (hg l[k] (ah hkt) bo' _ _ E (hp.wi.up hwT _) (hev.up hwT _) (by simp only [lA]; omega)) ?_;rintro _ U ⟨⟨b2,h2⟩,rfl⟩;refine ja ?_;have h2':=h2.below;have hev2:=hev.go hwT h2';refine bi hw ?_;show zI _ _ _ _ _ _ _;exact again ⟨al hkt (aN k),k+1,b2,hkt,rfl,(by rw [List.take_succ_eq_append_getElem hkt,List.flatMap_append, <-List.append_assoc]; simpa using hp.trans h2'),hev2,by simp [Fr.oy,hw]⟩
   .have hke:k=l.length:=by omega
    subst hke;refine bi hkt ?_;rw [jh hwT];rw [List.take_length] at hp;exact jn ⟨⟨bo',by rw [qw,if_neg h0, <-List.append_assoc]; exact h1.trans hp⟩,rfl⟩
theorem ajs (wo:Nat) (tv:V) (htv:tv.nj1=true) (g:V) (es:Ups) (f:Wm.Global->List Nat) (l:List (Wm.Global)) (hg : ∀ x∈l,WrV Tryz.prog g [jv x] wo tv es (f x)) (hl:l.length<=1000000):WrX Tryz.prog 73 [.ptr wo 0,vl jv l,g] wo tv es (qw f l):=by
 intro bo bs S E hi he hb;have hnc : ∀ x,(jv x).ncells=3:=fun _=>rfl;refine jc (c:=jf Tryz.f73) Tryz.func73 rfl rfl (by simp [Tryz.ntmps73]) ?_;rw [Tryz.ntmps73];intro hwf;by_cases h0:l.length=0
 .refine bi h0 ?_;rw [jh hwf];exact jn ⟨⟨bo,by simpa [qw,h0] using WP.refl hi⟩,rfl⟩
 .simp only [qw,if_neg h0,lA] at hb;have h0' : ¬ (l.length:Int)=0:=by omega
  refine bm h0 h0' ?_;refine XQ E ?_;refine jb rfl ((zF wo tv htv l.length).at hwf hi (EnvW.nil _ _ _) (by omega)) ?_;rintro _ T1 ⟨⟨b1,h1⟩,rfl⟩;refine ja ?_;refine jD fun w1 => ?_;have he1:=he.go hwf h1;rw [<-jh w1];refine bk ?_;refine bB [2,15,16,17] (fun c σ T => ∃ (k bo':Nat),k<=l.length/\c=l.length-k/\WP wo b1 tv (bs++jS l.length++(l.take k).flatMap f) T1 bo' T/\EnvW wo bo' es T/\σ=[(2,g),(15,vl jv l),(16,bI l.length),(17,bI k)]) l.length ?_ ?_
  .refine ⟨0,b1,Nat.zero_le _,rfl, ?_, ?_,by simp [Fr.oy]⟩
   .rw [jh w1];simpa using WP.refl h1.wi
   .rw [jh w1]; exact he1
  .rintro c σ T ⟨k,bo',hk,rfl,hp,hev,rfl⟩;refine jD fun hwT => ?_;rw [<-jh hwT];by_cases hkt:k<l.length
   .have hw:=jP hkt (by omega);have hft:=JV f l (k+1);rw [List.take_succ_eq_append_getElem hkt,List.flatMap_append,lA] at hft;simp only [List.flatMap_cons,List.flatMap_nil,List.append_nil] at hft;have hix : ∀ S,jz 3 S (vl jv l) (.int .i64 (k:Int))=some (.ref (jv l[k])):=fun S=>jG hnc hkt
    repeat first|refine QG ?_|refine QY ?_ (r:=by conv=>lhs;simp[QV,hkt,hix,hnc,jv])
    refine XQ E ?_ (r:=by conv=>lhs;simp[QV,jv]);refine jV rfl rfl (hg l[k] (ah hkt) bo' _ _ E (hp.wi.up hwT _) (hev.up hwT _) (by simp only [lA]; omega)) ?_;rintro _ U ⟨⟨b2,h2⟩,rfl⟩;refine ja ?_;have h2':=h2.below;have hev2:=hev.go hwT h2';refine bi hw ?_;show zI _ _ _ _ _ _ _;exact again ⟨al hkt (aN k),k+1,b2,hkt,rfl,(by rw [List.take_succ_eq_append_getElem hkt,List.flatMap_append, <-List.append_assoc]; simpa using hp.trans h2'),hev2,by simp [Fr.oy,hw]⟩
   .have hke:k=l.length:=by omega
    subst hke;refine bi hkt ?_;rw [jh hwT];rw [List.take_length] at hp;exact jn ⟨⟨bo',by rw [qw,if_neg h0, <-List.append_assoc]; exact h1.trans hp⟩,rfl⟩
theorem alq (wo:Nat) (tv:V) (htv:tv.nj1=true) (g:V) (es:Ups) (f:Wm.Export->List Nat) (l:List (Wm.Export)) (hg : ∀ x∈l,WrV Tryz.prog g [jr x] wo tv es (f x)) (hl:l.length<=1000000):WrX Tryz.prog 77 [.ptr wo 0,vl jr l,g] wo tv es (qw f l):=by
 intro bo bs S E hi he hb;have hnc : ∀ x,(jr x).ncells=3:=fun _=>rfl;refine jc (c:=jf Tryz.f77) Tryz.func77 rfl rfl (by simp [Tryz.ntmps77]) ?_;rw [Tryz.ntmps77];intro hwf;by_cases h0:l.length=0
 .refine bi h0 ?_;rw [jh hwf];exact jn ⟨⟨bo,by simpa [qw,h0] using WP.refl hi⟩,rfl⟩
 .simp only [qw,if_neg h0,lA] at hb;have h0' : ¬ (l.length:Int)=0:=by omega
  refine bm h0 h0' ?_;refine XQ E ?_;refine jb rfl ((zF wo tv htv l.length).at hwf hi (EnvW.nil _ _ _) (by omega)) ?_;rintro _ T1 ⟨⟨b1,h1⟩,rfl⟩;refine ja ?_;refine jD fun w1 => ?_;have he1:=he.go hwf h1;rw [<-jh w1];refine bk ?_;refine bB [2,15,16,17] (fun c σ T => ∃ (k bo':Nat),k<=l.length/\c=l.length-k/\WP wo b1 tv (bs++jS l.length++(l.take k).flatMap f) T1 bo' T/\EnvW wo bo' es T/\σ=[(2,g),(15,vl jr l),(16,bI l.length),(17,bI k)]) l.length ?_ ?_
  .refine ⟨0,b1,Nat.zero_le _,rfl, ?_, ?_,by simp [Fr.oy]⟩
   .rw [jh w1];simpa using WP.refl h1.wi
   .rw [jh w1]; exact he1
  .rintro c σ T ⟨k,bo',hk,rfl,hp,hev,rfl⟩;refine jD fun hwT => ?_;rw [<-jh hwT];by_cases hkt:k<l.length
   .have hw:=jP hkt (by omega);have hft:=JV f l (k+1);rw [List.take_succ_eq_append_getElem hkt,List.flatMap_append,lA] at hft;simp only [List.flatMap_cons,List.flatMap_nil,List.append_nil] at hft;have hix : ∀ S,jz 3 S (vl jr l) (.int .i64 (k:Int))=some (.ref (jr l[k])):=fun S=>jG hnc hkt
    repeat first|refine QG ?_|refine QY ?_ (r:=by conv=>lhs;simp[QV,hkt,hix,hnc,jr])
    refine XQ E ?_ (r:=by conv=>lhs;simp[QV,jr]);refine jV rfl rfl (hg l[k] (ah hkt) bo' _ _ E (hp.wi.up hwT _) (hev.up hwT _) (by simp only [lA]; omega)) ?_;rintro _ U ⟨⟨b2,h2⟩,rfl⟩;refine ja ?_;have h2':=h2.below;have hev2:=hev.go hwT h2';refine bi hw ?_;show zI _ _ _ _ _ _ _;exact again ⟨al hkt (aN k),k+1,b2,hkt,rfl,(by rw [List.take_succ_eq_append_getElem hkt,List.flatMap_append, <-List.append_assoc]; simpa using hp.trans h2'),hev2,by simp [Fr.oy,hw]⟩
   .have hke:k=l.length:=by omega
    subst hke;refine bi hkt ?_;rw [jh hwT];rw [List.take_length] at hp;exact jn ⟨⟨bo',by rw [qw,if_neg h0, <-List.append_assoc]; exact h1.trans hp⟩,rfl⟩
theorem amk (wo:Nat) (tv:V) (htv:tv.nj1=true) (g:V) (es:Ups) (f:Wm.Data->List Nat) (l:List (Wm.Data)) (hg : ∀ x∈l,WrV Tryz.prog g [jq x] wo tv es (f x)) (hl:l.length<=1000000):WrX Tryz.prog 83 [.ptr wo 0,vl jq l,g] wo tv es (qw f l):=by
 intro bo bs S E hi he hb;have hnc : ∀ x,(jq x).ncells=2:=fun _=>rfl;refine jc (c:=jf Tryz.f83) Tryz.func83 rfl rfl (by simp [Tryz.ntmps83]) ?_;rw [Tryz.ntmps83];intro hwf;by_cases h0:l.length=0
 .refine bi h0 ?_;rw [jh hwf];exact jn ⟨⟨bo,by simpa [qw,h0] using WP.refl hi⟩,rfl⟩
 .simp only [qw,if_neg h0,lA] at hb;have h0' : ¬ (l.length:Int)=0:=by omega
  refine bm h0 h0' ?_;refine XQ E ?_;refine jb rfl ((zF wo tv htv l.length).at hwf hi (EnvW.nil _ _ _) (by omega)) ?_;rintro _ T1 ⟨⟨b1,h1⟩,rfl⟩;refine ja ?_;refine jD fun w1 => ?_;have he1:=he.go hwf h1;rw [<-jh w1];refine bk ?_;refine bB [2,15,16,17] (fun c σ T => ∃ (k bo':Nat),k<=l.length/\c=l.length-k/\WP wo b1 tv (bs++jS l.length++(l.take k).flatMap f) T1 bo' T/\EnvW wo bo' es T/\σ=[(2,g),(15,vl jq l),(16,bI l.length),(17,bI k)]) l.length ?_ ?_
  .refine ⟨0,b1,Nat.zero_le _,rfl, ?_, ?_,by simp [Fr.oy]⟩
   .rw [jh w1];simpa using WP.refl h1.wi
   .rw [jh w1]; exact he1
  .rintro c σ T ⟨k,bo',hk,rfl,hp,hev,rfl⟩;refine jD fun hwT => ?_;rw [<-jh hwT];by_cases hkt:k<l.length
   .have hw:=jP hkt (by omega);have hft:=JV f l (k+1);rw [List.take_succ_eq_append_getElem hkt,List.flatMap_append,lA] at hft;simp only [List.flatMap_cons,List.flatMap_nil,List.append_nil] at hft;have hix : ∀ S,jz 2 S (vl jq l) (.int .i64 (k:Int))=some (.ref (jq l[k])):=fun S=>jG hnc hkt
    repeat first|refine QG ?_|refine QY ?_ (r:=by conv=>lhs;simp[QV,hkt,hix,hnc,jq])
    refine XQ E ?_ (r:=by conv=>lhs;simp[QV,jq]);refine jV rfl rfl (hg l[k] (ah hkt) bo' _ _ E (hp.wi.up hwT _) (hev.up hwT _) (by simp only [lA]; omega)) ?_;rintro _ U ⟨⟨b2,h2⟩,rfl⟩;refine ja ?_;have h2':=h2.below;have hev2:=hev.go hwT h2';refine bi hw ?_;show zI _ _ _ _ _ _ _;exact again ⟨al hkt (aN k),k+1,b2,hkt,rfl,(by rw [List.take_succ_eq_append_getElem hkt,List.flatMap_append, <-List.append_assoc]; simpa using hp.trans h2'),hev2,by simp [Fr.oy,hw]⟩
   .have hke:k=l.length:=by omega
    subst hke;refine bi hkt ?_;rw [jh hwT];rw [List.take_length] at hp;exact jn ⟨⟨bo',by rw [qw,if_neg h0, <-List.append_assoc]; exact h1.trans hp⟩,rfl⟩
end Go.Vw
namespace Wm
def sigW (s:Sig):List Nat:=96::(jS s.inn.length++(putW s.inn++(jS s.out.length++putW s.out)))
def Wn (x:Import):List Nat:=jeh x.mod++(jeh x.name++0::jS x.type)
def jbH (f:Func):List Nat:=jS f.type
def KA (g:Global):List Nat:=putW [g.type,if g.wr then 1 else 0]++KC g.type g.n
def Wq (x:Export):List Nat:=jeh x.name++(putW [x.kind]++jS x.n)
def jcp (d:Data):List Nat:=0::(KC 127 (d.at' % 18446744073709551616).toNat++(jS d.bytes.length++d.bytes))
end Wm
namespace Go.Vw
open Go.Proofs Go.RowKit Wm
attribute [-simp] List.map_set
theorem EnvW.box {wo bo bx:Nat} {d:Nat × List V} {S:Store} (h:EnvW wo bo [(bx,d)] S) (hw:S.Wf) (hl:wo<S.nx/\bo<S.nx) (c:Nat × List V):EnvW wo bo [(bx,d),(lid S.nx 0,c)] (St S [] [some c]):=by
 refine ⟨fun q hq => ?_,fun q hq => ?_⟩
 .rcases aE.1 hq with rfl | hq
  .exact (jk (jx hw (h.has _ (by simp)))).trans (h.has _ (by simp))
  .simp only [aM] at hq;subst hq;simp
 .rcases aE.1 hq with rfl | hq
  .exact h.ne _ (by simp)
  .simp only [aM] at hq;subst hq;simp only [lid];omega
theorem EnvW.at2 {wo bo o p:Nat} {c d:Nat × List V} {T:Store} (h:EnvW wo bo [(o,c),(p,d)] T) (hw:T.Wf) (l:OL):(St T [] l).get o=some c/\(St T [] l).get p=some d :=
 ⟨(jk (jx hw (h.has (o,c) (by simp)))).trans (h.has (o,c) (by simp)),(jk (jx hw (h.has (p,d) (by simp)))).trans (h.has (p,d) (by simp))⟩
theorem awz (wo bx:Nat) (tv:V) (htv:tv.nj1=true) (s:Wm.Sig):WrV Tryz.prog (.func 61 [.ptr bx 0]) [je s] wo tv [(bx,(1,[.ptr wo 0]))] (sigW s):=by
 intro bo bs S E hi he hb;refine ⟨rfl, ?_⟩;simp only [sigW,av,lA] at hb;have hpi:=qp s.inn;have hpo:=qp s.out;refine jc (c:=jf Tryz.f61) Tryz.func61 rfl rfl (by simp [Tryz.ntmps61]) ?_;rw [Tryz.ntmps61];intro hwf
 repeat first|refine QG ?_|refine QY ?_ (r:=by conv=>lhs;simp[QV,je])
 obtain ⟨q,hq⟩ : ∃ q,lid S.nx 0=q:=⟨_,rfl⟩
 refine jD fun w0 => ?_;have e0:=he.box hwf (hi.lt hwf) (2,[vl bH s.inn,vl bH s.out]);have i0:=hi.up hwf [some (2,[vl bH s.inn,vl bH s.out])];obtain ⟨S1,hS1⟩ : ∃ S1,St S [] [some (2,[vl bH s.inn,vl bH s.out])]=S1:=⟨_,rfl⟩
 first | rw [hS1] at e0 i0 w0 ⊢ | (rw [hS1] at e0 i0; rw [show St S [] _=S1 from hS1] at w0 ⊢)
 rw [hq] at e0 ⊢;rw [<-jh w0];have h0:=WP.refl i0;have g0:=fun l=>(EnvW.at2 e0 w0 l).1;have q0:=fun l=>(EnvW.at2 e0 w0 l).2;refine XQ E ?_ (r:=by conv=>lhs;simp[QV,g0]);refine jb rfl (Wu (k:=0) (ls:=[96]) w0 i0 rfl (by simp; omega)) ?_;rintro _ T1 ⟨⟨b1,h1⟩,rfl⟩;refine ja ?_;refine jD fun w1 => ?_;have e1:=e0.go w0 h1;have g1:=fun l=>(EnvW.at2 e1 w1 l).1;have q1:=fun l=>(EnvW.at2 e1 w1 l).2;rw [<-jh w1];refine XQ E ?_ (r:=by conv=>lhs;simp[QV,g1,q1]);refine jb rfl ((zF wo tv htv s.inn.length).at w1 h1.wi (EnvW.nil _ _ _) (by simp [qp]; omega)) ?_;rintro _ T2 ⟨⟨b2,h2⟩,rfl⟩;refine ja ?_;refine jD fun w2 => ?_;have e2:=e1.go w1 h2;have g2:=fun l=>(EnvW.at2 e2 w2 l).1;have q2:=fun l=>(EnvW.at2 e2 w2 l).2;rw [<-jh w2];refine XQ E ?_ (r:=by conv=>lhs;simp[QV,g2,q2]);refine jb rfl ((ahw wo tv s.inn).at w2 h2.wi (EnvW.nil _ _ _) (by simp [qp]; omega)) ?_;rintro _ T3 ⟨⟨b3,h3⟩,rfl⟩;refine ja ?_;refine jD fun w3 => ?_
 have e3:=e2.go w2 h3;have g3:=fun l=>(EnvW.at2 e3 w3 l).1;have q3:=fun l=>(EnvW.at2 e3 w3 l).2;rw [<-jh w3];refine XQ E ?_ (r:=by conv=>lhs;simp[QV,g3,q3]);refine jb rfl ((zF wo tv htv s.out.length).at w3 h3.wi (EnvW.nil _ _ _) (by simp [qp]; omega)) ?_;rintro _ T4 ⟨⟨b4,h4⟩,rfl⟩;refine ja ?_;refine jD fun w4 => ?_;have e4:=e3.go w3 h4;have g4:=fun l=>(EnvW.at2 e4 w4 l).1;have q4:=fun l=>(EnvW.at2 e4 w4 l).2;rw [<-jh w4];refine XQ E ?_ (r:=by conv=>lhs;simp[QV,g4,q4]);refine jb rfl ((ahw wo tv s.out).at w4 h4.wi (EnvW.nil _ _ _) (by simp [qp]; omega)) ?_;rintro _ T5 ⟨⟨b5,h5⟩,rfl⟩;refine ja ?_;refine bk ?_;have hh:=(((h1.trans h2).trans h3).trans h4).trans h5;rw [<-hS1] at hh;exact jn ⟨⟨b5,by simpa [sigW,putW] using hh.below⟩,rfl⟩
theorem ans (wo bx:Nat) (tv:V) (htv:tv.nj1=true) (x:Wm.Import) (hm : ∀ c∈x.mod,c<256) (hn : ∀ c∈x.name,c<256):WrV Tryz.prog (.func 66 [.ptr bx 0]) [jp x] wo tv [(bx,(1,[.ptr wo 0]))] (Wn x):=by
 intro bo bs S E hi he hb;refine ⟨rfl, ?_⟩;simp only [Wn,av,lA] at hb;refine jc (c:=jf Tryz.f66) Tryz.func66 rfl rfl (by simp [Tryz.ntmps66]) ?_;rw [Tryz.ntmps66];intro hwf
 repeat first|refine QG ?_|refine QY ?_ (r:=by conv=>lhs;simp[QV,jp,vstr])
 obtain ⟨q,hq⟩ : ∃ q,lid S.nx 0=q:=⟨_,rfl⟩
 refine jD fun w0 => ?_;have e0:=he.box hwf (hi.lt hwf) (3,[.str (strB x.mod), .str (strB x.name), .int .i64 x.type]);have i0:=hi.up hwf [some (3,[.str (strB x.mod), .str (strB x.name), .int .i64 x.type])];obtain ⟨S1,hS1⟩ : ∃ S1,St S [] [some (3,[.str (strB x.mod), .str (strB x.name), .int .i64 x.type])]=S1:=⟨_,rfl⟩
 first | rw [hS1] at e0 i0 w0 ⊢ | (rw [hS1] at e0 i0; rw [show St S [] _=S1 from hS1] at w0 ⊢)
 rw [hq] at e0 ⊢;rw [<-jh w0];have h0:=WP.refl i0;have g0:=fun l=>(EnvW.at2 e0 w0 l).1;have q0:=fun l=>(EnvW.at2 e0 w0 l).2;refine XQ E ?_ (r:=by conv=>lhs;simp[QV,g0,q0]);refine jb rfl ((ado wo tv htv x.mod hm).at w0 i0 (EnvW.nil _ _ _) (by omega)) ?_;rintro _ T1 ⟨⟨b1,h1⟩,rfl⟩;refine ja ?_;refine jD fun w1 => ?_;have e1:=e0.go w0 h1;have g1:=fun l=>(EnvW.at2 e1 w1 l).1;have q1:=fun l=>(EnvW.at2 e1 w1 l).2;rw [<-jh w1];refine XQ E ?_ (r:=by conv=>lhs;simp[QV,g1,q1]);refine jb rfl ((ado wo tv htv x.name hn).at w1 h1.wi (EnvW.nil _ _ _) (by simp only [lA]; omega)) ?_;rintro _ T2 ⟨⟨b2,h2⟩,rfl⟩;refine ja ?_;refine jD fun w2 => ?_;have e2:=e1.go w1 h2;have g2:=fun l=>(EnvW.at2 e2 w2 l).1;have q2:=fun l=>(EnvW.at2 e2 w2 l).2;rw [<-jh w2];refine XQ E ?_ (r:=by conv=>lhs;simp[QV,g2,q2]);refine jb rfl (Wu (k:=0) (ls:=[0]) w2 h2.wi rfl (by simp only [lA,av,aF]; omega)) ?_;rintro _ T3 ⟨⟨b3,h3⟩,rfl⟩;refine ja ?_;refine jD fun w3 => ?_
 have e3:=e2.go w2 h3;have g3:=fun l=>(EnvW.at2 e3 w3 l).1;have q3:=fun l=>(EnvW.at2 e3 w3 l).2;rw [<-jh w3];refine XQ E ?_ (r:=by conv=>lhs;simp[QV,g3,q3]);refine jb rfl ((zF wo tv htv x.type).at w3 h3.wi (EnvW.nil _ _ _) (by simp only [lA,qp,av,aF]; omega)) ?_;rintro _ T4 ⟨⟨b4,h4⟩,rfl⟩;refine ja ?_;refine bk ?_;have hh:=((h1.trans h2).trans h3).trans h4;rw [<-hS1] at hh;exact jn ⟨⟨b4,by simpa [Wn,putW] using hh.below⟩,rfl⟩
theorem avu (wo bx:Nat) (tv:V) (htv:tv.nj1=true) (x:Wm.Func):WrV Tryz.prog (.func 70 [.ptr bx 0]) [encF x] wo tv [(bx,(1,[.ptr wo 0]))] (jbH x):=by
 intro bo bs S E hi he hb;refine ⟨rfl, ?_⟩;simp only [jbH] at hb;refine jc (c:=jf Tryz.f70) Tryz.func70 rfl rfl (by simp [Tryz.ntmps70]) ?_;rw [Tryz.ntmps70];intro hwf
 repeat first|refine QG ?_|refine QY ?_ (r:=by conv=>lhs;simp[QV,encF])
 obtain ⟨q,hq⟩ : ∃ q,lid S.nx 0=q:=⟨_,rfl⟩
 refine jD fun w0 => ?_;have e0:=he.box hwf (hi.lt hwf) (3,[.int .i64 x.type,vl bH x.locals,vl encI x.body]);have i0:=hi.up hwf [some (3,[.int .i64 x.type,vl bH x.locals,vl encI x.body])];obtain ⟨S1,hS1⟩ : ∃ S1,St S [] [some (3,[.int .i64 x.type,vl bH x.locals,vl encI x.body])]=S1:=⟨_,rfl⟩
 first | rw [hS1] at e0 i0 w0 ⊢ | (rw [hS1] at e0 i0; rw [show St S [] _=S1 from hS1] at w0 ⊢)
 rw [hq] at e0 ⊢;rw [<-jh w0];have h0:=WP.refl i0;have g0:=fun l=>(EnvW.at2 e0 w0 l).1;have q0:=fun l=>(EnvW.at2 e0 w0 l).2;refine XQ E ?_ (r:=by conv=>lhs;simp[QV,g0,q0]);refine jb rfl ((zF wo tv htv x.type).at w0 i0 (EnvW.nil _ _ _) (by omega)) ?_;rintro _ T1 ⟨⟨b1,h1⟩,rfl⟩;refine ja ?_;refine bk ?_;rw [<-hS1] at h1;exact jn ⟨⟨b1,by simpa [jbH] using h1.below⟩,rfl⟩
theorem aoq (wo bx:Nat) (tv:V) (htv:tv.nj1=true) (x:Wm.Export) (hn : ∀ c∈x.name,c<256):WrV Tryz.prog (.func 78 [.ptr bx 0]) [jr x] wo tv [(bx,(1,[.ptr wo 0]))] (Wq x):=by
 intro bo bs S E hi he hb;refine ⟨rfl, ?_⟩;simp only [Wq,lA,qp,av,aF] at hb;refine jc (c:=jf Tryz.f78) Tryz.func78 rfl rfl (by simp [Tryz.ntmps78]) ?_;rw [Tryz.ntmps78];intro hwf
 repeat first|refine QG ?_|refine QY ?_ (r:=by conv=>lhs;simp[QV,jr,vstr])
 obtain ⟨q,hq⟩ : ∃ q,lid S.nx 0=q:=⟨_,rfl⟩
 refine jD fun w0 => ?_;have e0:=he.box hwf (hi.lt hwf) (3,[.str (strB x.name), .int .i64 x.kind, .int .i64 x.n]);have i0:=hi.up hwf [some (3,[.str (strB x.name), .int .i64 x.kind, .int .i64 x.n])];obtain ⟨S1,hS1⟩ : ∃ S1,St S [] [some (3,[.str (strB x.name), .int .i64 x.kind, .int .i64 x.n])]=S1:=⟨_,rfl⟩
 first | rw [hS1] at e0 i0 w0 ⊢ | (rw [hS1] at e0 i0; rw [show St S [] _=S1 from hS1] at w0 ⊢)
 rw [hq] at e0 ⊢;rw [<-jh w0];have h0:=WP.refl i0;have g0:=fun l=>(EnvW.at2 e0 w0 l).1;have q0:=fun l=>(EnvW.at2 e0 w0 l).2;refine XQ E ?_ (r:=by conv=>lhs;simp[QV,g0,q0]);refine jb rfl ((ado wo tv htv x.name hn).at w0 i0 (EnvW.nil _ _ _) (by omega)) ?_;rintro _ T1 ⟨⟨b1,h1⟩,rfl⟩;refine ja ?_;refine jD fun w1 => ?_;have e1:=e0.go w0 h1;have g1:=fun l=>(EnvW.at2 e1 w1 l).1;have q1:=fun l=>(EnvW.at2 e1 w1 l).2;rw [<-jh w1];refine XQ E ?_ (r:=by conv=>lhs;simp[QV,g1,q1]);refine jb rfl (Wu (k:=0) (ls:=[x.kind]) w1 h1.wi rfl (by simp only [lA,av,aF]; omega)) ?_;rintro _ T2 ⟨⟨b2,h2⟩,rfl⟩;refine ja ?_;refine jD fun w2 => ?_;have e2:=e1.go w1 h2;have g2:=fun l=>(EnvW.at2 e2 w2 l).1;have q2:=fun l=>(EnvW.at2 e2 w2 l).2;rw [<-jh w2];refine XQ E ?_ (r:=by conv=>lhs;simp[QV,g2,q2]);refine jb rfl ((zF wo tv htv x.n).at w2 h2.wi (EnvW.nil _ _ _) (by simp only [lA,qp,av,aF]; omega)) ?_;rintro _ T3 ⟨⟨b3,h3⟩,rfl⟩;refine ja ?_
 refine bk ?_;have hh:=(h1.trans h2).trans h3;rw [<-hS1] at hh;exact jn ⟨⟨b3,by simpa [Wq,putW] using hh.below⟩,rfl⟩
theorem ano (wo bx:Nat) (tv:V) (htv:tv.nj1=true) (x:Wm.Global):WrV Tryz.prog (.func 74 [.ptr bx 0]) [jv x] wo tv [(bx,(1,[.ptr wo 0]))] (KA x):=by
 intro bo bs S E hi he hb;refine ⟨rfl, ?_⟩;simp only [KA,lA,qp,av,aF] at hb;obtain ⟨ty,wr,n⟩:=x;simp only at hb;refine jc (c:=jf Tryz.f74) Tryz.func74 rfl rfl (by simp [Tryz.ntmps74]) ?_;rw [Tryz.ntmps74];intro hwf
 repeat first|refine QG ?_|refine QY ?_ (r:=by conv=>lhs;simp[QV,jv])
 obtain ⟨q,hq⟩ : ∃ q,lid S.nx 0=q:=⟨_,rfl⟩
 refine jD fun w0 => ?_;have e0:=he.box hwf (hi.lt hwf) (3,[.int .i64 ty, .bool wr, .int .u64 n]);have i0:=hi.up hwf [some (3,[.int .i64 ty, .bool wr, .int .u64 n])];obtain ⟨S1,hS1⟩ : ∃ S1,St S [] [some (3,[.int .i64 ty, .bool wr, .int .u64 n])]=S1:=⟨_,rfl⟩
 first | rw [hS1] at e0 i0 w0 ⊢ | (rw [hS1] at e0 i0; rw [show St S [] _=S1 from hS1] at w0 ⊢)
 rw [hq] at e0 ⊢;rw [<-jh w0];have h0:=WP.refl i0;have g0:=fun l=>(EnvW.at2 e0 w0 l).1;have q0:=fun l=>(EnvW.at2 e0 w0 l).2;cases wr with
 | true =>
  refine bm g0 q0 ?_;refine XQ E ?_ (r:=by conv=>lhs;simp[QV,g0,q0]);refine jb rfl (Wu (k:=0) (ls:=[ty,1]) w0 i0 rfl (by simp only [lA,av,aF]; omega)) ?_;rintro _ T1 ⟨⟨b1,h1⟩,rfl⟩;refine ja ?_;refine jD fun w1 => ?_;have e1:=e0.go w0 h1;have g1:=fun l=>(EnvW.at2 e1 w1 l).1;have q1:=fun l=>(EnvW.at2 e1 w1 l).2;rw [<-jh w1];refine XQ E ?_ (r:=by conv=>lhs;simp[QV,g1,q1]);refine jb rfl ((aar wo tv htv ty n).at w1 h1.wi (EnvW.nil _ _ _) (by simp only [lA,qp,av,aF]; omega)) ?_;rintro _ T2 ⟨⟨b2,h2⟩,rfl⟩;refine ja ?_;refine bk ?_;have hh:=h1.trans h2;rw [<-hS1] at hh;exact jn ⟨⟨b2,by simpa [KA,putW] using hh.below⟩,rfl⟩
 | false =>
  refine bm g0 q0 ?_;refine XQ E ?_ (r:=by conv=>lhs;simp[QV,g0,q0]);refine jb rfl (Wu (k:=0) (ls:=[ty,0]) w0 i0 rfl (by simp only [lA,av,aF]; omega)) ?_;rintro _ T1 ⟨⟨b1,h1⟩,rfl⟩;refine ja ?_;refine jD fun w1 => ?_;have e1:=e0.go w0 h1;have g1:=fun l=>(EnvW.at2 e1 w1 l).1;have q1:=fun l=>(EnvW.at2 e1 w1 l).2;rw [<-jh w1];refine XQ E ?_ (r:=by conv=>lhs;simp[QV,g1,q1]);refine jb rfl ((aar wo tv htv ty n).at w1 h1.wi (EnvW.nil _ _ _) (by simp only [lA,qp,av,aF]; omega)) ?_;rintro _ T2 ⟨⟨b2,h2⟩,rfl⟩;refine ja ?_;refine bk ?_;have hh:=h1.trans h2;rw [<-hS1] at hh;exact jn ⟨⟨b2,by simpa [KA,putW] using hh.below⟩,rfl⟩
end Go.Vw
