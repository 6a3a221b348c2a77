import Derived.Test.YtkfllaokjaldnaaGreatC10
import Derived.Test.YtkfllaokjaldnaaGreatC11
import Derived.Test.YtkfllaokjaldnaaGreatProg
import Derived.OpenShut
/-
  Part of the proof (texts SRd, VTwo, VCell).
-/
set_option linter.unusedVariables false
set_option linter.unusedSimpArgs false
namespace Go.Vw
open Go.Proofs Go.RowKit Go.ChangeShapes Go.WideShapes
set_option maxRecDepth 100000
theorem jaS {l b:Nat} (hb:1≤b) (h:l*b≤140737488351232):l≤140737488355328:=by
 have:l*1≤l*b:=Nat.mul_le_mul_left _ hb
 omega
theorem i64_of {n:Int} (h:(Lit.int .i64 n).wf=true):Ss.I64 n:=bounds_i64 h
theorem rdInt:ReadsC Tryz.prog 3 (fun n:Int=>[vint n]) Ss.I64 :=
 (ReadsC.int Tryz.underlying3).map id (fun _=>rfl) (fun n h=>i64_of h)
theorem rdU64:ReadsC Tryz.prog 63 (fun n:Int=>[vu n]) (fun n=>0≤n∧n<18446744073709551616) :=
 (ReadsC.int Tryz.underlying63).map id (fun _=>rfl) (fun n h=>by have h1:=bounds_u64 h; simp only [id]; omega)
theorem rdBool:ReadsC Tryz.prog 4 (fun b:Bool=>[.bool b]) (fun _=>True):=ReadsC.bool Tryz.underlying4
theorem Wg:ReadsC Tryz.prog 23 (fun l:List Int=>[vl vint l]) Ss.Ints :=
 (ReadsC.slice vint Tryz.underlying23 rdInt (of_decide_eq_true (by kernel_rfl)) (fun _ => .inr rfl)).map id (fun _=>rfl) (fun l h=>⟨jaS (of_decide_eq_true (by kernel_rfl)) h.1.2,h.2⟩)
theorem rdBools:ReadsC Tryz.prog 24 (fun l:List Bool=>[vl V.bool l]) (fun l=>l.length≤140737488355328) :=
 (ReadsC.slice V.bool Tryz.underlying24 rdBool (of_decide_eq_true (by kernel_rfl)) (fun _ => .inr rfl)).map id (fun _=>rfl) (fun l h=>jaS (of_decide_eq_true (by kernel_rfl)) h.1.2)
theorem rdSig:ReadsC Tryz.prog 28 (fun s:Ss.Sig=>[vl vint s.inn,vl vint s.out]) Ss.Sig.Fits :=
 (ReadsC.struct Tryz.underlying28 (by kernel_rfl) (ReadsF.cons (by kernel_rfl) Wg (ReadsF.cons (by kernel_rfl) Wg ReadsF.nil))).map (fun p=>(⟨p.1,p.2.1⟩:Ss.Sig)) (fun _=>rfl) (fun p h=>⟨h.1,h.2.1⟩)
theorem rdSigs:ReadsC Tryz.prog 22 (fun l:List Ss.Sig=>[vl jJ l]) (fun l=>l.length≤140737488355328 ∧ ∀ s∈l,s.Fits) :=
 (ReadsC.slice jJ Tryz.underlying22 rdSig (of_decide_eq_true (by kernel_rfl)) (fun _ => .inl rfl)).map id (fun _=>rfl) (fun l h=>⟨jaS (of_decide_eq_true (by kernel_rfl)) h.1.2,h.2⟩)
theorem rdIns:ReadsC Tryz.prog 65 (fun x:Ss.Ins=>[vint x.op,vu x.n,vl vint x.args,vl vint x.outs]) Ss.Ins.Fits :=
 (ReadsC.struct Tryz.underlying65 (by kernel_rfl) (ReadsF.cons (by kernel_rfl) rdInt (ReadsF.cons (by kernel_rfl) rdU64 (ReadsF.cons (by kernel_rfl) Wg (ReadsF.cons (by kernel_rfl) Wg ReadsF.nil))))).map (fun p=>(⟨p.1,p.2.1,p.2.2.1,p.2.2.2.1⟩:Ss.Ins)) (fun _=>rfl) (fun p h=>⟨h.1,h.2.1,h.2.2.1,h.2.2.2.1⟩)
theorem rdInss:ReadsC Tryz.prog 57 (fun l:List Ss.Ins=>[vl jp l]) (fun l=>l.length≤140737488355328 ∧ ∀ s∈l,s.Fits) :=
 (ReadsC.slice jp Tryz.underlying57 rdIns (of_decide_eq_true (by kernel_rfl)) (fun _ => .inl rfl)).map id (fun _=>rfl) (fun l h=>⟨jaS (of_decide_eq_true (by kernel_rfl)) h.1.2,h.2⟩)
theorem rdEdge:ReadsC Tryz.prog 67 (fun x:Ss.Edge=>[vint x.to,vl vint x.args]) Ss.Edge.Fits :=
 (ReadsC.struct Tryz.underlying67 (by kernel_rfl) (ReadsF.cons (by kernel_rfl) rdInt (ReadsF.cons (by kernel_rfl) Wg ReadsF.nil))).map (fun p=>(⟨p.1,p.2.1⟩:Ss.Edge)) (fun _=>rfl) (fun p h=>⟨h.1,h.2.1⟩)
theorem rdEdges:ReadsC Tryz.prog 58 (fun l:List Ss.Edge=>[vl ji l]) (fun l=>l.length≤140737488355328 ∧ ∀ s∈l,s.Fits) :=
 (ReadsC.slice ji Tryz.underlying58 rdEdge (of_decide_eq_true (by kernel_rfl)) (fun _ => .inl rfl)).map id (fun _=>rfl) (fun l h=>⟨jaS (of_decide_eq_true (by kernel_rfl)) h.1.2,h.2⟩)
theorem rdTerm:ReadsC Tryz.prog 60 (fun t:Ss.Term=>[vint t.kind,vint t.arg,vl ji t.to,vl vint t.args]) Ss.Term.Fits :=
 (ReadsC.struct Tryz.underlying60 (by kernel_rfl) (ReadsF.cons (by kernel_rfl) rdInt (ReadsF.cons (by kernel_rfl) rdInt (ReadsF.cons (by kernel_rfl) rdEdges (ReadsF.cons (by kernel_rfl) Wg ReadsF.nil))))).map (fun p=>(⟨p.1,p.2.1,p.2.2.1,p.2.2.2.1⟩:Ss.Term)) (fun _=>rfl) (fun p h=>⟨h.1,h.2.1,h.2.2.1,h.2.2.2.1⟩)
theorem rdBlock:ReadsC Tryz.prog 62 (fun b:Ss.Block=>[vl vint b.params,vl jp b.code,vint b.term.kind,vint b.term.arg,vl ji b.term.to,vl vint b.term.args]) Ss.Block.Fits :=
 (ReadsC.struct Tryz.underlying62 (by kernel_rfl) (ReadsF.cons (by kernel_rfl) Wg (ReadsF.cons (by kernel_rfl) rdInss (ReadsF.cons (by kernel_rfl) rdTerm ReadsF.nil)))).map (fun p=>(⟨p.1,p.2.1,p.2.2.1⟩:Ss.Block)) (fun _=>rfl) (fun p h=>⟨h.1,h.2.1,h.2.2.1⟩)
theorem rdBlocks:ReadsC Tryz.prog 29 (fun l:List Ss.Block=>[vl jd l]) (fun l=>l.length≤140737488355328 ∧ ∀ s∈l,s.Fits) :=
 (ReadsC.slice jd Tryz.underlying29 rdBlock (of_decide_eq_true (by kernel_rfl)) (fun _ => .inl rfl)).map id (fun _=>rfl) (fun l h=>⟨jaS (of_decide_eq_true (by kernel_rfl)) h.1.2,h.2⟩)
theorem rdFn:ReadsC Tryz.prog 31 (fun f:Ss.Fn=>[vl vint f.sig.inn,vl vint f.sig.out,vl vint f.types,vl jd f.blocks]) Ss.Fn.Fits :=
 (ReadsC.struct Tryz.underlying31 (by kernel_rfl) (ReadsF.cons (by kernel_rfl) rdSig (ReadsF.cons (by kernel_rfl) Wg (ReadsF.cons (by kernel_rfl) rdBlocks ReadsF.nil)))).map (fun p=>(⟨p.1,p.2.1,p.2.2.1⟩:Ss.Fn)) (fun _=>rfl) (fun p h=>⟨h.1,h.2.1,h.2.2.1⟩)
theorem rdEnv:ReadsC Tryz.prog 26 (fun e:Ss.Env=>[vl jJ e.sigs,vint e.imports,vl vint e.globals,vl V.bool e.muts, .bool e.mem]) Ss.Env.Fits :=
 (ReadsC.struct Tryz.underlying26 (by kernel_rfl) (ReadsF.cons (by kernel_rfl) rdSigs (ReadsF.cons (by kernel_rfl) rdInt (ReadsF.cons (by kernel_rfl) Wg (ReadsF.cons (by kernel_rfl) rdBools (ReadsF.cons (by kernel_rfl) rdBool ReadsF.nil)))))).map (fun p=>(⟨p.1,p.2.1,p.2.2.1,p.2.2.2.1,p.2.2.2.2.1⟩:Ss.Env)) (fun _=>rfl) (fun p h=>⟨h.1,h.2.1,h.2.2.1,h.2.2.2.1⟩)
end Go.Vw

/-
  Regions that draw, with two allocations that stand in no order: a walk for each of the two orders.
-/
namespace Go.Vw
open Go.RowKit
def jx (ops:Array Oper) (j i:Nat):Array Oper:=ops.modify j fun o=>{ o with after:=o.after.push ⟨i, .data⟩ }
theorem qJ (ops:Array Oper) (j i:Nat):(jx ops j i).size=ops.size:=by simp [jx]
theorem Jw (ops:Array Oper) {j i k:Nat} (h:k≠j):(jx ops j i)[k]? = ops[k]? := by
  simp only [jx,Array.getElem?_modify]
  rw [if_neg (Ne.symm h)]
theorem jag (ops:Array Oper) {j i:Nat} {o:Oper} (h:ops[j]? = some o):(jx ops j i)[j]? = some { o with after:=o.after.push ⟨i, .data⟩ }:=by
  simp only [jx,Array.getElem?_modify,if_true,h,Option.map_some]
theorem Zw {ops:Array Oper} {i j k:Nat} {listed:Array Bool} (h:k∈Region.ready .any (jx ops j i) listed):k∈Region.ready .any ops listed:=by
  obtain ⟨h1,o,ho,hall⟩:=mem_ready.1 h
  by_cases e:k=j
  · subst e
    cases hk:ops[k]? with
    | none =>
      have:(jx ops k i).size≤k:=by rw [qJ]; exact Array.getElem?_eq_none_iff.1 hk
      rw [Array.getElem?_eq_none this] at ho; cases ho
    | some o' =>
      rw [jag ops hk] at ho
      cases ho
      exact mem_ready.2 ⟨h1,o',hk,fun e he=>hall e (by simp [he])⟩
  · rw [Jw ops e] at ho
    exact mem_ready.2 ⟨h1,o,ho,hall⟩
theorem qA {ops:Array Oper} {i j k:Nat} {listed:Array Bool} (h:k∈Region.ready .any ops listed) (hk:k≠j∨listed.getD i false=true):k∈Region.ready .any (jx ops j i) listed:=by
  obtain ⟨h1,o,ho,hall⟩:=mem_ready.1 h
  by_cases e:k=j
  · subst e
    have hi:=hk.resolve_left (fun h=>h rfl)
    refine mem_ready.2 ⟨h1,_,jag ops ho,fun e he hb => ?_⟩
    simp only [Array.mem_push] at he
    rcases he with he | rfl
    · exact hall e he hb
    · exact hi
  · exact mem_ready.2 ⟨h1,o,by rw [Jw ops e]; exact ho,hall⟩
section
variable {P:Program} {Z:ZZ} {ops:Array Oper} {cs:List CO} {Q:Ff→Store→Prop}
theorem set_true_i {listed:Array Bool} {i k:Nat} (h:listed.getD i false=true):(listed.setIfInBounds k true).getD i false=true:=by
  by_cases e:k=i
  · subst e
    have:k<listed.size:=by
      rcases Nat.lt_or_ge k listed.size with h' | h'
      · exact h'
      · simp [Array.getElem?_eq_none h'] at h
    simp [this]
  · rw [getD_set_ne false e]; exact h
theorem Kp {i j:Nat} : ∀ (n:Nat) (listed:Array Bool) (τ:Ff) (S:Store),listed.getD i false=true→anyZ P Z (jx ops j i) cs Q n listed τ S→anyZ P Z ops cs Q n listed τ S
  | 0,listed,τ,S,hi,h=>⟨List.eq_nil_iff_forall_not_mem.2 fun k hk=>(by have:=qA (i:=i) (j:=j) hk (.inr hi); rw [h.1] at this; cases this),h.2⟩
  | n+1,listed,τ,S,hi,h=>by
    refine ⟨fun h0=>h.1 (List.eq_nil_iff_forall_not_mem.2 fun k hk=>by have:=Zw hk; rw [h0] at this; cases this),fun k hk => ?_⟩
    exact WB (fun τ S=>Kp n _ τ S (set_true_i hi)) (h.2 k (qA hk (.inr hi)))
theorem jav {o:CO} {v v':V} {τ:Ff} {S S1 S1':Store} (hc:o.op.isCall=false) (h:KD P Z o v τ S S1) (h':KD P Z o v' τ S S1'):v=v'∧S1=S1':=by
  have rd : ∀ {Y:Store} {v v':V},Jg P Y τ o.op v→Jg P Y τ o.op v'→v=v':=by
    intro Y v v' h h'
    cases hop:o.op with
    | call f a=>rw [hop] at hc; simp [COp.isCall] at hc
    | callv f a=>rw [hop] at hc; simp [COp.isCall] at hc
    | _ =>
      rw [hop] at h h'
      simp only [Jg] at h h'
      obtain ⟨Z1,e1⟩:=h
      obtain ⟨Z2,e2⟩:=h'
      rw [e1] at e2
      exact (Prod.mk.inj (Option.some.inj e2)).1
  rcases h with ⟨w1,h⟩ | ⟨w1,rfl,rfl⟩
  · rcases h' with ⟨w2,h'⟩ | ⟨w2,_,_⟩
    · rcases h with ⟨r1,rfl,k1⟩ | ⟨r1,k1,_⟩
      · rcases h' with ⟨r2,rfl,k2⟩ | ⟨r2,k2,_⟩
        · exact ⟨rd k1 k2,rfl⟩
        · rw [r1] at r2; cases r2
      · rcases h' with ⟨r2,rfl,k2⟩ | ⟨r2,k2,_⟩
        · rw [r1] at r2; cases r2
        · have wv : ∀ {v:V} {S1:Store},zl P (trnL Z.es o.dst) τ S o.op v S1→jm (evf τ) S o.op=some (v,S1):=by
            intro v S1 h
            cases hop:o.op with
            | call f a=>rw [hop] at hc; simp [COp.isCall] at hc
            | callv f a=>rw [hop] at hc; simp [COp.isCall] at hc
            | _=>rw [hop] at h; exact h
          have e1:=wv k1
          have e2:=wv k2
          rw [e1] at e2; cases e2; exact ⟨rfl,rfl⟩
    · rw [w1] at w2; cases w2
  · rcases h' with ⟨w2,h'⟩ | ⟨w2,rfl,rfl⟩
    · rw [w1] at w2; cases w2
    · exact ⟨rfl,rfl⟩
theorem anyZ_two {i j:Nat} (hij:i≠j) (hdet : ∀ (k:Nat) o,cs[k]? = some o→o.op.isCall=false) (hlen:cs.length=ops.size) : ∀ (n:Nat) (listed:Array Bool) (τ:Ff) (S:Store),listed.getD i true=false→listed.getD j true=false →
    anyZ P Z (jx ops j i) cs Q n listed τ S→anyZ P Z (jx ops i j) cs Q n listed τ S→anyZ P Z ops cs Q n listed τ S
  | 0,listed,τ,S,hi,hj,h1,h2=>⟨List.eq_nil_iff_forall_not_mem.2 fun k hk=>(by
      by_cases e:k=j
      · have:=qA (i:=j) (j:=i) hk (.inl (by omega)); rw [h2.1] at this; cases this
      · have:=qA (i:=i) (j:=j) hk (.inl e); rw [h1.1] at this; cases this),h1.2⟩
  | n+1,listed,τ,S,hi,hj,h1,h2=>by
    have lt : ∀ {k:Nat},listed.getD k true=false→(listed.setIfInBounds k true).getD k false=true:=by
      intro k hk
      have:k<listed.size:=by
        rcases Nat.lt_or_ge k listed.size with h' | h'
        · exact h'
        · simp [Array.getElem?_eq_none h'] at hk
      simp [this]
    refine ⟨fun h0=>h1.1 (List.eq_nil_iff_forall_not_mem.2 fun k hk=>by have:=Zw hk; rw [h0] at this; cases this),fun k hk => ?_⟩
    by_cases ei:k=i
    · subst ei
      exact WB (fun τ S=>Kp n _ τ S (lt hi)) (h1.2 k (qA hk (.inl hij)))
    by_cases ej:k=j
    · subst ej
      exact WB (fun τ S=>Kp n _ τ S (lt hj)) (h2.2 k (qA hk (.inl ei)))
    have k1:=h1.2 k (qA hk (.inl ej))
    have k2:=h2.2 k (qA hk (.inl ei))
    obtain ⟨_,o',ho',_⟩:=mem_ready.1 hk
    have hlt:k<cs.length:=by rw [hlen]; exact (Array.getElem?_eq_some_iff.1 ho').1
    have hok:cs[k]? = some cs[k]:=List.getElem?_eq_getElem hlt
    simp only [atZ,hok] at k1 k2 ⊢
    rw [qC] at k1 k2 ⊢
    obtain ⟨v,S1,y1,n1⟩:=k1
    obtain ⟨v',S1',y2,n2⟩:=k2
    obtain ⟨rfl,rfl⟩:=jav (hdet k _ hok) y1 y2
    exact ⟨v,S1,y1,anyZ_two hij hdet hlen n _ _ _ (by rw [getD_set_ne true ei]; exact hi) (by rw [getD_set_ne true ej]; exact hj) n1 n2⟩
theorem zY {Q':Ff→Store→Prop} (hq : ∀ τ S,Q τ S→Q' τ S) : ∀ {l:List CO} {τ:Ff} {S:Store},JW P Z Q l τ S→JW P Z Q' l τ S
  | [],τ,S,h=>hq τ S h
  | o::r,τ,S,h=>by
    simp only [JW] at h ⊢
    rw [qC] at h ⊢
    obtain ⟨v,S1,h1,h2⟩:=h
    exact ⟨v,S1,h1,zY hq h2⟩
def lexO (es ms:List Nat) (ops:Array Oper) (cs:List CO):List Nat→Array Bool→Bool
  | [],listed=>(Region.ready .any ops listed).isEmpty
  | k::ord,listed=>(Region.ready .any ops listed).contains k &&
      (match cs[k]? with
       | some oi=>(List.range cs.length).all fun j=>j==k||listed.getD j true||Zc ms k j||(match cs[j]? with
          | some oj=>oi.apart oj&&(isRd es oi||isRd es oj)
          | none=>true)
       | none=>false)&&lexO es ms ops cs ord (listed.setIfInBounds k true)
def YF (cs:List CO) (ord:List Nat):List CO:=ord.filterMap fun k=>cs[k]?
theorem WC (hlen:cs.length=ops.size) : ∀ (ord:List Nat) (listed:Array Bool) (τ:Ff) (S:Store),qU ops listed→lexO Z.es (qR ops) ops cs ord listed=true→JW P Z Q (YF cs ord) τ S→anyZ P Z ops cs Q ord.length listed τ S
  | [],_,_,_,_,hB,h=>⟨by simpa [lexO] using hB,h⟩
  | k::ord,listed,τ,S,hcl,hB,h=>by
    simp only [lexO,Bool.and_eq_true] at hB
    obtain ⟨⟨hr,hf⟩,hB'⟩:=hB
    cases h0:cs[k]? with
    | none=>rw [h0] at hf; cases hf
    | some o =>
    have hp:YF cs (k::ord)=o::YF cs ord:=by simp [YF,h0]
    rw [hp] at h
    simp only [JW] at h
    rw [qC] at h
    obtain ⟨v,S1,hy,hK⟩:=h
    have hr':k∈Region.ready .any ops listed:=by simpa using hr
    refine Yj h0 hlen ord.length listed τ S S1 hcl (fun j oj hj hne hun hno => ?_) hr' hy (WC hlen ord _ _ _ (zE hcl hr') hB' hK)
    simp only [h0,List.all_eq_true,List.mem_range] at hf
    have h1:=hf j (List.getElem?_eq_some_iff.1 hj).1
    have hnm:Zc (qR ops) k j=false:=by
      cases hm:Zc (qR ops) k j with
      | false=>rfl
      | true=>obtain ⟨n,hn⟩:=JD hm; rw [hno n] at hn; cases hn
    simp only [hj,Bool.or_eq_true,beq_iff_eq,hne,false_or,hun,Bool.false_eq_true,hnm,Bool.and_eq_true] at h1
    exact h1
end
section
variable {P:Program} {N b:Nat} {Q:Exit→Fr→Store→Prop} {σ:Fr} {S:Store}
theorem jbc {id:Nat} {ops:Array Oper} {cs:List CO} {Z:ZZ} {i j:Nat} {ord1 ord2:List Nat} (hm:P.follows .mixedOrders=true) (hc:qm P N ops=some cs) (hnc:cs.all (fun o => !o.op.isCall)=true) (hij:i≠j) (hi:i<ops.size) (hj:j<ops.size)
    (hB1:lexO Z.es (qR (jx ops j i)) (jx ops j i) cs ord1 (Array.replicate ops.size false)=true) (hB2:lexO Z.es (qR (jx ops i j)) (jx ops i j) cs ord2 (Array.replicate ops.size false)=true)
    (hn1:ord1.length=ops.size) (hn2:ord2.length=ops.size) (hE:zC (qR ops) cs Z.es=true) (hz:Z.ok S) (h0:Z.z0.Sub S)
    (H1:JW P Z (fun τ S => ∃ σ':Fr,σ'.look=τ∧Q .normal σ' S) (YF cs ord1) σ.look S) (H2:JW P Z (fun τ S => ∃ σ':Fr,σ'.look=τ∧Q .normal σ' S) (YF cs ord2) σ.look S):VWp P N b (.region id ops true) Q σ S:=by
  intro m β w a hS hF
  obtain ⟨hlen,_⟩:=jbQ hc
  refine wp_region_any hm ?_
  have hcl : ∀ ops':Array Oper,ops'.size=ops.size→qU ops' (Array.replicate ops.size false):=by
    intro ops' he i o ho hi
    have:i<ops'.size:=(Array.getElem?_eq_some_iff.1 ho).1
    rw [he] at this
    simp [this] at hi
  have a1:=WC (P:=P) (Z:=Z) (ops:=jx ops j i) (by rw [qJ]; exact hlen) ord1 _ σ.look S (hcl _ (qJ _ _ _)) hB1 H1
  have a2:=WC (P:=P) (Z:=Z) (ops:=jx ops i j) (by rw [qJ]; exact hlen) ord2 _ σ.look S (hcl _ (qJ _ _ _)) hB2 H2
  rw [hn1] at a1
  rw [hn2] at a2
  have:=anyZ_two hij (fun k o hk=>by
    simp only [List.all_eq_true] at hnc
    have:=hnc o (List.mem_of_getElem? hk)
    simpa using this) hlen ops.size _ σ.look S (by simp [hi]) (by simp [hj]) a1 a2
  exact Yi hc hE ops.size _ σ S m β _ a this (hcl ops rfl) hz (fun _=>h0) hS.drew hF ((Ext.drew m β w).toB b)
theorem Kt {c c2:Code} {cs:List CO} {Q2:Exit→Fr→Store→Prop} {σm:Fr} {Sm:Store} (Z:ZZ) (i j:Nat) (ord1 ord2:List Nat) (h:Code.kind c=2) (hm:P.follows .mixedOrders=true) (hc:qm P N (Code.ops c)=some cs) (hnc:cs.all (fun o => !o.op.isCall)=true) (hij:i≠j)
    (hi:decide (i<(Code.ops c).size)=true) (hj:decide (j<(Code.ops c).size)=true)
    (hB1:lexO Z.es (qR (jx (Code.ops c) j i)) (jx (Code.ops c) j i) cs ord1 (Array.replicate (Code.ops c).size false)=true) (hB2:lexO Z.es (qR (jx (Code.ops c) i j)) (jx (Code.ops c) i j) cs ord2 (Array.replicate (Code.ops c).size false)=true)
    (hn1:ord1.length=(Code.ops c).size) (hn2:ord2.length=(Code.ops c).size) (hes:Z.es=[]) (hz:Z.ok S) (h0:Z.z0.Sub S)
    {cs1 cs2:List CO} (hp1:YF cs ord1=cs1) (hp2:YF cs ord2=cs2)
    (H1:jM P (some Z) cs1 (fun σ S=>Reach N b σ S σm Sm) σ S) (H2:jM P (some Z) cs2 (fun σ S=>Reach N b σ S σm Sm) σ S) (H:VWp P N b c2 Q2 σm Sm):VWp P N b c (Ka (VWp P N b c2 Q2) Q) σ S:=by
  subst hp1
  subst hp2
  cases c with
  | region id ops d =>
    cases d
    · simp [Code.kind] at h
    · refine jbc hm hc hnc hij (of_decide_eq_true hi) (of_decide_eq_true hj) hB1 hB2 hn1 hn2 (by rw [hes]; exact ZY _ _) hz h0 ?_ ?_
      · exact zY (fun τ S=>fun ⟨σ',e,hr⟩=>⟨σ',e,jt hr H⟩) (qV _ σ S H1)
      · exact zY (fun τ S=>fun ⟨σ',e,hr⟩=>⟨σ',e,jt hr H⟩) (qV _ σ S H2)
  | _=>simp [Code.kind] at h
end
/-! ### .. behind a part that stands in the order of the text -/
section
variable {P:Program} {Z:ZZ} {ops:Array Oper} {cs:List CO} {Q:Ff→Store→Prop}
def ZK (es ms:List Nat) (ops:Array Oper) (cs:List CO):Nat→Nat→Array Bool→Bool
  | 0,_,_=>true
  | n+1,k,listed=>(Region.ready .any ops listed).contains k &&
      (match cs[k]? with
       | some oi=>(List.range cs.length).all fun j=>j==k||listed.getD j true||Zc ms k j||(match cs[j]? with
          | some oj=>oi.apart oj&&(isRd es oi||isRd es oj)
          | none=>true)
       | none=>false)&&ZK es ms ops cs n (k+1) (listed.setIfInBounds k true)
def zn:Nat→Nat→Array Bool→Array Bool
  | 0,_,l=>l
  | n+1,k,l=>zn n (k+1) (l.setIfInBounds k true)
theorem anyZ_pre (hlen:cs.length=ops.size) {fuel:Nat} : ∀ (l:List CO) (k:Nat) (listed:Array Bool) (τ:Ff) (S:Store),(∀ j<l.length,l[j]? = cs[k+j]?)→qU ops listed→ZK Z.es (qR ops) ops cs l.length k listed=true →
    JW P Z (fun τ S=>anyZ P Z ops cs Q fuel (zn l.length k listed) τ S) l τ S→anyZ P Z ops cs Q (fuel+l.length) listed τ S
  | [],_,_,_,_,_,_,_,h=>h
  | o::l,k,listed,τ,S,hl,hcl,hB,h=>by
    have h0:cs[k]? = some o:=by simpa using (hl 0 (by simp)).symm
    simp only [List.length_cons,ZK,Bool.and_eq_true,h0] at hB
    obtain ⟨⟨hr,hf⟩,hB'⟩:=hB
    simp only [JW] at h
    rw [qC] at h
    obtain ⟨v,S1,hy,hK⟩:=h
    have hr':k∈Region.ready .any ops listed:=by simpa using hr
    refine Yj h0 hlen (fuel+l.length) listed τ S S1 hcl (fun j oj hj hne hun hno => ?_) hr' hy (anyZ_pre hlen l (k+1) _ _ _ (fun j hj=>by have:=hl (j+1) (by simp; omega); simpa [Nat.add_assoc,Nat.add_comm 1 j] using this) (zE hcl hr') hB' hK)
    simp only [List.all_eq_true,List.mem_range] at hf
    have h1:=hf j (List.getElem?_eq_some_iff.1 hj).1
    have hnm:Zc (qR ops) k j=false:=by
      cases hm:Zc (qR ops) k j with
      | false=>rfl
      | true=>obtain ⟨n,hn⟩:=JD hm; rw [hno n] at hn; cases hn
    simp only [hj,Bool.or_eq_true,beq_iff_eq,hne,false_or,hun,Bool.false_eq_true,hnm,Bool.and_eq_true] at h1
    exact h1
theorem YA (hlen:cs.length=ops.size) {es:List Nat} : ∀ (n k:Nat) (listed:Array Bool),qU ops listed→ZK es (qR ops) ops cs n k listed=true→qU ops (zn n k listed)
  | 0,_,_,h,_=>h
  | n+1,k,listed,h,hB=>by
    simp only [ZK,Bool.and_eq_true] at hB
    exact YA hlen n (k+1) _ (zE h (by simpa using hB.1.1)) hB.2
theorem Wz {listed:Array Bool} {i j:Nat} (h:qU ops listed) (hj:listed.getD j true=false):qU (jx ops j i) listed:=by
  intro k o ho hk
  by_cases e:k=j
  · subst e; rw [hj] at hk; cases hk
  · rw [Jw ops e] at ho
    exact h k o ho hk
theorem anyZ_twoL {i j:Nat} (hij:i≠j) (hlen:cs.length=ops.size) : ∀ (n:Nat) (listed:Array Bool) (τ:Ff) (S:Store),(∀ (k:Nat) o,cs[k]? = some o→k≠i→k≠j→listed.getD k true=false→o.op.isCall=false)→listed.getD i true=false→listed.getD j true=false →
    anyZ P Z (jx ops j i) cs Q n listed τ S→anyZ P Z (jx ops i j) cs Q n listed τ S→anyZ P Z ops cs Q n listed τ S
  | 0,listed,τ,S,_,hi,hj,h1,h2=>⟨List.eq_nil_iff_forall_not_mem.2 fun k hk=>(by
      by_cases e:k=j
      · have:=qA (i:=j) (j:=i) hk (.inl (by omega)); rw [h2.1] at this; cases this
      · have:=qA (i:=i) (j:=j) hk (.inl e); rw [h1.1] at this; cases this),h1.2⟩
  | n+1,listed,τ,S,hdet,hi,hj,h1,h2=>by
    have lt : ∀ {k:Nat},listed.getD k true=false→(listed.setIfInBounds k true).getD k false=true:=by
      intro k hk
      have:k<listed.size:=by
        rcases Nat.lt_or_ge k listed.size with h' | h'
        · exact h'
        · simp [Array.getElem?_eq_none h'] at hk
      simp [this]
    refine ⟨fun h0=>h1.1 (List.eq_nil_iff_forall_not_mem.2 fun k hk=>by have:=Zw hk; rw [h0] at this; cases this),fun k hk => ?_⟩
    by_cases ei:k=i
    · subst ei
      exact WB (fun τ S=>Kp n _ τ S (lt hi)) (h1.2 k (qA hk (.inl hij)))
    by_cases ej:k=j
    · subst ej
      exact WB (fun τ S=>Kp n _ τ S (lt hj)) (h2.2 k (qA hk (.inl ei)))
    have k1:=h1.2 k (qA hk (.inl ej))
    have k2:=h2.2 k (qA hk (.inl ei))
    obtain ⟨hun,o',ho',_⟩:=mem_ready.1 hk
    have hlt:k<cs.length:=by rw [hlen]; exact (Array.getElem?_eq_some_iff.1 ho').1
    have hok:cs[k]? = some cs[k]:=List.getElem?_eq_getElem hlt
    simp only [atZ,hok] at k1 k2 ⊢
    rw [qC] at k1 k2 ⊢
    obtain ⟨v,S1,y1,n1⟩:=k1
    obtain ⟨v',S1',y2,n2⟩:=k2
    obtain ⟨rfl,rfl⟩:=jav (hdet k _ hok ei ej hun) y1 y2
    refine ⟨v,S1,y1,anyZ_twoL hij hlen n _ _ _ (fun k' o hk' h3 h4 h5=>hdet k' o hk' h3 h4 ?_) (by rw [getD_set_ne true ei]; exact hi) (by rw [getD_set_ne true ej]; exact hj) n1 n2⟩
    by_cases e:k=k'
    · subst e; exact hun
    · rw [getD_set_ne true e] at h5; exact h5
end
section
variable {P:Program} {N b:Nat} {Q:Exit→Fr→Store→Prop} {σ:Fr} {S:Store}
def callsOk (cs:List CO) (i j n0:Nat):Bool:=(List.range cs.length).all fun k=>decide (k<n0)||k==i||k==j||(match cs[k]? with | some o => !o.op.isCall | none=>true)
theorem vw_drawSplit {c c2:Code} {cs:List CO} {Q2:Exit→Fr→Store→Prop} (Z:ZZ) (n0 i j:Nat) (ord1 ord2:List Nat) (h:Code.kind c=2) (hm:P.follows .mixedOrders=true) (hc:qm P N (Code.ops c)=some cs) (hnc:callsOk cs i j n0=true) (hij:i≠j)
    (hp:ZK Z.es (qR (Code.ops c)) (Code.ops c) cs n0 0 (Array.replicate (Code.ops c).size false)=true)
    (hi:(zn n0 0 (Array.replicate (Code.ops c).size false)).getD i true=false) (hj:(zn n0 0 (Array.replicate (Code.ops c).size false)).getD j true=false)
    (hu:(List.range n0).all (fun k=>(zn n0 0 (Array.replicate (Code.ops c).size false)).getD k true)=true)
    (hB1:lexO Z.es (qR (jx (Code.ops c) j i)) (jx (Code.ops c) j i) cs ord1 (zn n0 0 (Array.replicate (Code.ops c).size false))=true) (hB2:lexO Z.es (qR (jx (Code.ops c) i j)) (jx (Code.ops c) i j) cs ord2 (zn n0 0 (Array.replicate (Code.ops c).size false))=true)
    (hn0:decide (n0≤(Code.ops c).size)=true) (hn1:ord1.length+n0=(Code.ops c).size) (hn2:ord2.length+n0=(Code.ops c).size) (hE:zC (qR (Code.ops c)) cs Z.es=true) (hz:Z.ok S) (h0:Z.z0.Sub S)
    {cs0 cs1 cs2:List CO} (hp0:cs.take n0=cs0) (hp1:YF cs ord1=cs1) (hp2:YF cs ord2=cs2)
    (H:jM P (some Z) cs0 (fun σ S => ∃ σm Sm,VWp P N b c2 Q2 σm Sm∧jM P (some Z) cs1 (fun σ S=>Reach N b σ S σm Sm) σ S∧jM P (some Z) cs2 (fun σ S=>Reach N b σ S σm Sm) σ S) σ S):VWp P N b c (Ka (VWp P N b c2 Q2) Q) σ S:=by
  subst hp0
  subst hp1
  subst hp2
  cases c with
  | region id ops d =>
    cases d
    · simp [Code.kind] at h
    · intro m β w a hS hF
      simp only [Code.ops] at *
      obtain ⟨hlen,_⟩:=jbQ hc
      refine wp_region_any hm ?_
      have hcl:qU ops (Array.replicate ops.size false):=by
        intro i o ho hi
        have:i<ops.size:=(Array.getElem?_eq_some_iff.1 ho).1
        simp [this] at hi
      have hle:n0≤cs.length:=by rw [hlen]; exact of_decide_eq_true hn0
      have hl0:(cs.take n0).length=n0:=by rw [List.length_take,Nat.min_eq_left hle]
      have hcl1:=YA hlen n0 0 _ hcl hp
      have key:JW P Z (fun τ S=>anyZ P Z ops cs (fun τ S => ∃ σ':Fr,σ'.look=τ∧(Ka (VWp P N b c2 Q2) Q) .normal σ' S) ord1.length (zn n0 0 (Array.replicate ops.size false)) τ S) (cs.take n0) σ.look S:=by
        refine zY (fun τ S => ?_) (qV _ σ S H)
        rintro ⟨σ1,rfl,σm,Sm,hQ,H1,H2⟩
        have a1:=WC (P:=P) (Z:=Z) (Q:=fun τ S => ∃ σ':Fr,σ'.look=τ∧(Ka (VWp P N b c2 Q2) Q) .normal σ' S) (ops:=jx ops j i) (by rw [qJ]; exact hlen) ord1 _ σ1.look S (Wz hcl1 hj) hB1 (zY (fun τ S=>fun ⟨σ',e,hr⟩=>⟨σ',e,jt hr hQ⟩) (qV _ σ1 S H1))
        have a2:=WC (P:=P) (Z:=Z) (Q:=fun τ S => ∃ σ':Fr,σ'.look=τ∧(Ka (VWp P N b c2 Q2) Q) .normal σ' S) (ops:=jx ops i j) (by rw [qJ]; exact hlen) ord2 _ σ1.look S (Wz hcl1 hi) hB2 (zY (fun τ S=>fun ⟨σ',e,hr⟩=>⟨σ',e,jt hr hQ⟩) (qV _ σ1 S H2))
        rw [show ord2.length=ord1.length by omega] at a2
        refine anyZ_twoL hij hlen ord1.length _ σ1.look S (fun k o hk h3 h4 h5 => ?_) hi hj a1 a2
        simp only [callsOk,List.all_eq_true,List.mem_range] at hnc
        have hh:=hnc k (List.getElem?_eq_some_iff.1 hk).1
        have h6 : ¬ k<n0:=fun h6=>by
          simp only [List.all_eq_true,List.mem_range] at hu
          rw [hu k h6] at h5; cases h5
        simpa [h6,h3,h4,hk] using hh
      have:=anyZ_pre (P:=P) (Z:=Z) hlen (cs.take n0) 0 (Array.replicate ops.size false) σ.look S (fun q hq=>by rw [Nat.zero_add,List.getElem?_take,if_pos (by omega)]) hcl (by rw [hl0]; exact hp) (by rw [hl0]; exact key)
      rw [hl0,hn1] at this
      exact Yi hc hE ops.size _ σ S m β _ a this hcl hz (fun _=>h0) hS.drew hF ((Ext.drew m β w).toB b)
  | _=>simp [Code.kind] at h
end
theorem zy {N b:Nat} {σ σ':Fr} {S:Store} (ks:List Nat) (h:σ.only ks=σ'):Reach N b σ S σ' S:=by subst h; exact Reach.only ks
theorem Ja {N:Nat} {σ σ1 σ':Fr} {B:Store} {u u':Upds} {l l':List (Option (Nat × List V))} (ks gs:List Nat) (hσ1:σ.only ks=σ1) (hw:B.Wf) (h1:gs.Nodup) (h2:(Kj B.nx gs u&&YG B.nx gs l gs&&idsF (gcP B.nx gs) σ1)=true)
    (hu:gcU B.nx gs u=u') (hl:gcL B.nx gs l gs=l') (hσ:renF (gcTo B.nx gs) σ1=σ'):Reach N B.nx σ (St B u l) σ' (St B u' l') :=
  (zy ks hσ1).trans (Reach.gc gs hw h1 h2 hu hl hσ)
end Go.Vw

/-
 Functions whose results lie in cells; objects of one's own that become immutable.
-/
namespace Go.Vw
open Go.RowKit
section
variable {P:Program} {N:Nat} {S:Store} {m:Imm} {β:Objs} {w:World} {σ:Fr} {a:Act}
theorem load_run {t:TypeId} {q:Nat} {sz:Option Nat} {x:V} (hsz:Program.szOf P t=some sz) (hS:Holds S m β w) (hF:FrameRep N m β σ a) (he:Ji sz S (σ.look q)=some x) :
  ∃ ad u,a.tmps.getD q undef = .pointer (some ad)∧(loadVar t ad).run P w = .ok u w∧Rep m β x u:=by
 have hr:=hF.rep q
 generalize σ.look q=p at he hr
 cases p with
 | ref x' =>
  simp only [Ji] at he
  split at he
  ·rename_i hok
   cases he
   obtain ⟨u,b,off,arr,T,fz,e,hm,hu,hc⟩:=hr.inv_ref
   refine ⟨_,u,e,qp hsz (hS.imm _ _ hm) u ?_ hc, .imm hu⟩
   refine ⟨fun n hn => ?_,fun hn => ?_⟩
   ·subst hn
    cases x<;>simp [okSz] at hok
    cases hu with | agg xs vs hl _ _=>exact ⟨vs,rfl,by omega⟩
   ·subst hn
    simp only [okSz] at hok
    have:=(Rep.imm (β:=β) hu).oneCell hok
    cases u<;>first | rfl | simp [Value.oneCell'] at this
  ·cases he
 | ptr o' off =>
  simp only [Ji] at he
  cases hc:S.get o' with
  | none=>simp [hc] at he
  | some c =>
   simp only [hc] at he
   obtain ⟨b,base,s,n,hob,e⟩:=hr.inv_ptr (hS.alive hc)
   obtain ⟨_,arr,T,h1,h2,h3,h4⟩:=hS.cells_at hc hob
   cases sz with
   | none =>
    simp only [Wk] at he
    obtain ⟨v,hv,hrv,hone⟩:=h4 off x he
    have ec:v.cells = #[v]:=by cases v<;>first | rfl | simp [Value.oneCell'] at hone
    refine ⟨_,v,e,qp hsz h1 v ⟨(by intro n hn; cases hn),fun _=>ec⟩ fun j c' hj => ?_,hrv⟩
    rw [ec] at hj
    cases j with
    | zero=>simp at hj; subst hj; simpa using hv
    | succ j=>simp at hj
   | some k =>
    simp only [Wk] at he
    split at he
    ·rename_i hle
     cases he
     obtain ⟨vs,hl,hcs,hrl,hone⟩:=Jc h4 off k hle
     refine ⟨_, .agg vs.toArray,e,qp hsz h1 _ ⟨(by intro n hn; cases hn; exact ⟨vs,rfl,hl⟩),(by intro hn; cases hn)⟩ fun j c' hj => ?_, .agg _ vs hrl.1 hrl.2 hone⟩
     exact hcs j c' (by simpa [Value.cells] using hj)
    ·cases he
 | _=>simp [Ji] at he
def resC1 (P:Program):ResultVar→Option (Nat × Option (Option Nat))
 | .tmp t=>some (t,none)
 | .cell q t=>(Program.szOf P t).map fun sz=>(q,some sz)
def resC (P:Program) (fn:Func):Option (List (Nat × Option (Option Nat))):=fn.results.toList.mapM (resC1 P)
def resL1 (S:Store) (σ:Fr):Nat × Option (Option Nat)→Option V
 | (t,none)=>some (σ.look t)
 | (t,some sz)=>Ji sz S (σ.look t)
def resL (S:Store) (σ:Fr):List (Nat × Option (Option Nat))→Option (List V)
 | []=>some []
 | r::rs=>match resL1 S σ r,resL S σ rs with
  | some x,some xs=>some (x::xs)
  | _,_=>none
def tupV:List V→V
 | [x]=>x
 | xs => .tuple xs
def bodyC (rs:List (Nat × Option (Option Nat))) (R:V→Store→Prop):Exit→Fr→Store→Prop
 | .normal,σ,S => ∃ xs,resL S σ rs=some xs∧R (tupV xs) S
 | .ret,σ,S => ∃ xs,resL S σ rs=some xs∧R (tupV xs) S
 | _,_,_=>False
theorem Yq {fn:Func} {rs:List (Nat × Option (Option Nat))} (h:resC P fn=some rs) (hS:Holds S m β w) (hF:FrameRep N m β σ a) {xs:List V} (hx:resL S σ rs=some xs) : ∃ v,(results fn a.tmps).run P w = .ok v w∧Rep m β (tupV xs) v:=by
 have gen : ∀ (l:List ResultVar) (rs:List (Nat × Option (Option Nat))) (xs:List V),l.mapM (resC1 P)=some rs→resL S σ rs=some xs →
   ∃ vs:List Value,(l.mapM fun r=>(match r with
    | .tmp t=>pure (a.tmps.getD t undef)
    | .cell q t=>do loadVar t (←asAddr (a.tmps.getD q undef)):Sem Value)).run P w = .ok vs w∧RepL m β xs vs:=by
  intro l
  induction l with
  | nil=>intro rs xs h hx; simp at h; subst h; simp only [resL,Option.some.injEq] at hx; subst hx; exact ⟨[],rfl,RepL.nil _ _⟩
  | cons r l ih =>
   intro rs xs h hx
   simp only [List.mapM_cons,Option.bind_eq_bind,Option.bind_eq_some_iff] at h
   obtain ⟨b,hb,r',hr',h⟩:=h
   simp at h; subst h
   simp only [resL] at hx
   split at hx
   ·rename_i x xs' h1 h2
    cases hx
    obtain ⟨vs,k1,k2⟩:=ih r' xs' hr' h2
    cases r with
    | tmp t =>
     simp only [resC1,Option.some.injEq] at hb
     subst hb
     simp only [resL1,Option.some.injEq] at h1
     subst h1
     refine ⟨a.tmps.getD t undef::vs, ?_, .cons (hF.rep t) k2⟩
     rw [List.mapM_cons,Sem.run_bind,Sem.run_pure,Result.andThen_ok,Sem.run_bind,k1]
     rfl
    | cell q t =>
     simp only [resC1] at hb
     obtain ⟨sz,hsz,e⟩:=Option.map_eq_some_iff.1 hb
     subst e
     simp only [resL1] at h1
     obtain ⟨ad,u,e1,e2,e3⟩:=load_run hsz hS hF h1
     refine ⟨u::vs, ?_, .cons e3 k2⟩
     have e4:((do loadVar t (←asAddr (a.tmps.getD q undef))):Sem Value).run P w = .ok u w:=by
      rw [e1,show asAddr (.pointer (some ad))=pure ad from rfl,pure_bind,e2]
     rw [List.mapM_cons,Sem.run_bind,e4,Result.andThen_ok,Sem.run_bind,k1]
     rfl
   ·cases hx
 obtain ⟨vs,h1,hl,h2⟩:=gen fn.results.toList rs xs h hx
 have hrun:(results fn a.tmps).run P w = .ok (if h:vs.toArray.size=1 then vs.toArray[0] else .tuple vs.toArray) w:=by
  unfold results
  rw [Sem.run_bind,Array.mapM_eq_mapM_toList,Sem.run_map]
  erw [h1]
  rfl
 refine ⟨_,hrun, ?_⟩
 match xs,vs,hl,h2 with
 | [x],[v],_,h2=>exact h2 0 x v rfl rfl
 | [],[],_,_=>exact zo m β
 | x::y::xs,u::v::vs,hl,h2 =>
  rw [dif_neg (by simp)]
  exact .tuple _ _ hl h2
theorem vcalls_bodyC {f:FuncId} {fn:Func} {c:Code} {rs:List (Nat × Option (Option Nat))} {args:List V} {R:V→Store→Prop} (hf:P.funcs[f]? = some fn) (hb:fn.body=some c) (ht:resC P fn=some rs) (hn:args.length≤fn.ntmps)
  (h:VWp P fn.ntmps S.nx c (bodyC rs R) (Kk 0 args) S):VCalls P f args S R:=by
 intro m β w vs hS hr
 refine calls_of_wp hf hb ?_
 have hF:FrameRep fn.ntmps m β (Kk 0 args) { tmps:=vs.toArray++Array.replicate (fn.ntmps-vs.toArray.size) undef,defers:=[] }:=by
  have hl:=hr.1
  refine ⟨by simp; omega,rfl,fun t => ?_⟩
  rw [KR]
  simp only [Nat.zero_le,if_true,Nat.sub_zero]
  cases hx:args[t]? with
  | none=>exact .junk _
  | some x =>
   have hlt:t<vs.length:=by rw [←hl]; exact (List.getElem?_eq_some_iff.1 hx).1
   have:(vs.toArray++Array.replicate (fn.ntmps-vs.toArray.size) undef).getD t undef=vs[t]:=by
    simp [Array.getD_eq_getD_getElem?,Array.getElem?_append,hlt]
   simp only [this,Option.getD_some]
   exact hr.2 t x _ hx (List.getElem?_eq_getElem hlt)
 refine wp_mono (h m β w _ hS hF) ?_
 rintro e a' w' ⟨σ',S',m',β',q,r1,r2,r3⟩
 have back:ExtB S.nx m β w m' β' w'→Ext m β w m' β' w':=fun h=>⟨h.imm,fun o ho=>h.step o (by
  rcases Nat.lt_or_ge o S.nx with hl | hl
  ·exact hl
  ·exact absurd ((hS.fresh o).2 hl) ho) ho,h.size,h.keep,h.os,h.tape,h.output⟩
 cases e with
 | normal =>
  obtain ⟨xs,q1,q2⟩:=q
  obtain ⟨v,hv,hrv⟩:=Yq (P:=P) ht r1 r2 q1
  exact ⟨r2.defers,v,hv,v,_,S',m',β',rfl,q2,hrv,r1,back r3⟩
 | ret =>
  obtain ⟨xs,q1,q2⟩:=q
  obtain ⟨v,hv,hrv⟩:=Yq (P:=P) ht r1 r2 q1
  exact ⟨r2.defers,v,hv,v,_,S',m',β',rfl,q2,hrv,r1,back r3⟩
 | _=>exact q.elim
theorem zm {f:FuncId} {fn:Func} {c:Code} {rs:List (Nat × Option (Option Nat))} {args:List V} {R:V→Store→Prop} (hf:P.funcs[f]? = some fn) (hb:fn.body=some c) (ht:resC P fn=some rs) (hn:args.length≤fn.ntmps)
  (h:S.Wf→VWp P fn.ntmps S.nx c (bodyC rs (YI S.nx R)) (Kk 0 args) (St S [] [])):VCalls P f args S R:=by
 refine Jy fun hwf=>zG (vcalls_bodyC hf hb ht hn ?_)
 have:=h hwf
 rw [qF hwf] at this
 exact this
theorem doneC {rs:List (Nat × Option (Option Nat))} {R:V→Store→Prop} {xs:List V} (h:resL S σ rs=some xs) (hR:R (tupV xs) S) : ∃ xs,resL S σ rs=some xs∧R (tupV xs) S:=⟨xs,h,hR⟩
end
theorem resL_nil (S:Store) (σ:Fr):resL S σ []=some []:=nr rfl
def consO:Option V→Option (List V)→Option (List V)
 | some x,some xs=>some (x::xs)
 | _,_=>none
theorem resL_cons (S:Store) (σ:Fr) (r) (rs):resL S σ (r::rs)=consO (resL1 S σ r) (resL S σ rs):=nr rfl
theorem consO_some (x:V) (xs:List V):consO (some x) (some xs)=some (x::xs):=nr rfl
theorem resL1_t (S:Store) (σ:Fr) (t:Nat):resL1 S σ (t,none)=some (σ.look t):=nr rfl
theorem resL1_c (S:Store) (σ:Fr) (t:Nat) (sz:Option Nat):resL1 S σ (t,some sz)=Ji sz S (σ.look t):=nr rfl
theorem tupV_1 (x:V):tupV [x]=x:=nr rfl
theorem tupV_2 (x y:V) (r:List V):tupV (x::y::r) = .tuple (x::y::r):=nr rfl
attribute [simp] resL_nil resL_cons consO_some resL1_t resL1_c tupV_1 tupV_2
theorem Ghost.refS {S:Store} {o s:Nat} {cs:List V} (hc:S.get o=some (s,cs)) (h1:cs.all V.closed1=true) (hne:cs≠[]):Ghost (.ptr o 0) S (.ref (.agg cs)) (S.del o):=by
 intro m β w v hS hr
 obtain ⟨b,base,s',n,hob,rfl⟩:=hr.inv_ptr (hS.alive hc)
 obtain ⟨_,arr,T,e1,e2,e3,e4⟩:=hS.cells_at hc hob
 obtain ⟨k1,k2⟩:=hS.freeze hc hob e1
 obtain ⟨vs,hl,hcs,hrl,hone⟩:=Jc e4 0 cs.length (by simp)
 simp only [List.drop_zero,List.take_length] at hrl
 have hall : ∀ x∈cs,x.closed1=true:=by simpa using h1
 refine ⟨_,_,k1,k2, .imm (.ref (.agg cs) (.agg vs.toArray) b (base+0) arr T (0,0) (by simp [Imm.set]) (.agg cs vs hrl.1 (fun i x u hx hu=>((hrl.2 i x u hx hu).closed1 (hall x (List.mem_of_getElem? hx))).mono k2.imm) hone) fun j c hj => ?_)⟩
 exact hcs j c (by simpa [Value.cells] using hj)
theorem JU {B:Store} {u:Upds} {l:List (Option (Nat × List V))} {k s:Nat} {cs:List V} (hk:k<l.length) (hc:(l[k]?).join=some (s,cs)) (hcl:cs.all V.closed1=true) (hne:cs≠[]) :
  Ghost (.ptr (lid B.nx k) 0) (St B u l) (.ref (.agg cs)) (St B u (l.set k none)):=by
 rw [←St_del hk]
 exact Ghost.refS (by rw [jL]; exact hc) hcl hne
end Go.Vw
