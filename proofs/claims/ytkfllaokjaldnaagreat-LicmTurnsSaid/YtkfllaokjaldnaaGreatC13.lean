import Derived.Test.YtkfllaokjaldnaaGreatC11
import Derived.Test.YtkfllaokjaldnaaGreatC12
/-
  Part of the proof (texts VTwo, VCell, SKinds).
-/
set_option linter.unusedVariables false
set_option linter.unusedSimpArgs false
/-
  Regions that draw, with two allocations that stand in no order: a walk for each of the two orders.
-/
namespace Go.Vw
open Go.RowKit
def jF (ops:Array Oper) (j i:Nat):Array Oper:=ops.modify j fun o=>{ o with after:=o.after.push ⟨i, .data⟩ }
theorem qY (ops:Array Oper) (j i:Nat):(jF ops j i).size=ops.size:=by simp [jF]
theorem JN (ops:Array Oper) {j i k:Nat} (h:k≠j):(jF ops j i)[k]? = ops[k]? := by
  simp only [jF,Array.getElem?_modify];rw [if_neg (Ne.symm h)]
theorem jaN (ops:Array Oper) {j i:Nat} {o:Oper} (h:ops[j]? = some o):(jF ops j i)[j]? = some { o with after:=o.after.push ⟨i, .data⟩ }:=by
  simp only [jF,Array.getElem?_modify,if_true,h,Option.map_some]
theorem ZY {ops:Array Oper} {i j k:Nat} {listed:Array Bool} (h:k∈Region.ready .any (jF ops j i) listed):k∈Region.ready .any ops listed:=by
  obtain ⟨h1,o,ho,hall⟩:=mem_ready.1 h
  by_cases e:k=j
  ·subst e
   cases hk:ops[k]? with
   | none =>
     have:(jF ops k i).size≤k:=by rw [qY]; exact Array.getElem?_eq_none_iff.1 hk
     rw [Array.getElem?_eq_none this] at ho; cases ho
   | some o' =>
     rw [jaN ops hk] at ho
     cases ho
     exact mem_ready.2 ⟨h1,o',hk,fun e he=>hall e (by simp [he])⟩
  ·rw [JN ops e] at ho;exact mem_ready.2 ⟨h1,o,ho,hall⟩
theorem qO {ops:Array Oper} {i j k:Nat} {listed:Array Bool} (h:k∈Region.ready .any ops listed) (hk:k≠j∨listed.getD i false=true):k∈Region.ready .any (jF ops j i) listed:=by
  obtain ⟨h1,o,ho,hall⟩:=mem_ready.1 h
  by_cases e:k=j
  ·subst e;have hi:=hk.resolve_left (fun h=>h rfl);refine mem_ready.2 ⟨h1,_,jaN ops ho,fun e he hb => ?_⟩;simp only [Array.mem_push] at he;rcases he with he | rfl
   ·exact hall e he hb
   ·exact hi
  ·exact mem_ready.2 ⟨h1,o,by rw [JN ops e]; exact ho,hall⟩
section
variable {P:Program} {Z:ZZ} {ops:Array Oper} {cs:List CO} {Q:Ff→Store→Prop}
theorem set_true_i {listed:Array Bool} {i k:Nat} (h:listed.getD i false=true):(listed.setIfInBounds k true).getD i false=true:=by
  by_cases e:k=i
  ·subst e;have:k<listed.size:=by
     rcases Nat.lt_or_ge k listed.size with h' | h'
     ·exact h'
     ·simp [Array.getElem?_eq_none h'] at h
   simp [this]
  ·rw [getD_set_ne false e]; exact h
theorem KE {i j:Nat} : ∀ (n:Nat) (listed:Array Bool) (τ:Ff) (S:Store),listed.getD i false=true→anyZ P Z (jF ops j i) cs Q n listed τ S→anyZ P Z ops cs Q n listed τ S
  | 0,listed,τ,S,hi,h=>⟨List.eq_nil_iff_forall_not_mem.2 fun k hk=>(by have:=qO (i:=i) (j:=j) hk (.inr hi); rw [h.1] at this; cases this),h.2⟩
  | n+1,listed,τ,S,hi,h=>by
    refine ⟨fun h0=>h.1 (List.eq_nil_iff_forall_not_mem.2 fun k hk=>by have:=ZY hk; rw [h0] at this; cases this),fun k hk => ?_⟩;exact Ya (fun τ S=>KE n _ τ S (set_true_i hi)) (h.2 k (qO hk (.inr hi)))
theorem jbc {o:CO} {v v':V} {τ:Ff} {S S1 S1':Store} (hc:o.op.isCall=false) (h:KT P Z o v τ S S1) (h':KT P Z o v' τ S S1'):v=v'∧S1=S1':=by
  have rd : ∀ {Y:Store} {v v':V},Jv P Y τ o.op v→Jv P Y τ o.op v'→v=v':=by
    intro Y v v' h h'
    cases hop:o.op with
    | call f a=>rw [hop] at hc; simp [COp.isCall] at hc
    | callv f a=>rw [hop] at hc; simp [COp.isCall] at hc
    | _ =>
      rw [hop] at h h';simp only [Jv] at h h';obtain ⟨Z1,e1⟩:=h;obtain ⟨Z2,e2⟩:=h';rw [e1] at e2;exact (Prod.mk.inj (Option.some.inj e2)).1
  rcases h with ⟨w1,h⟩ | ⟨w1,rfl,rfl⟩
  ·rcases h' with ⟨w2,h'⟩ | ⟨w2,_,_⟩
   ·rcases h with ⟨r1,rfl,k1⟩ | ⟨r1,k1,_⟩
    ·rcases h' with ⟨r2,rfl,k2⟩ | ⟨r2,k2,_⟩
     ·exact ⟨rd k1 k2,rfl⟩
     ·rw [r1] at r2; cases r2
    ·rcases h' with ⟨r2,rfl,k2⟩ | ⟨r2,k2,_⟩
     ·rw [r1] at r2; cases r2
     ·have wv : ∀ {v:V} {S1:Store},zH P (trnL Z.es o.dst) τ S o.op v S1→js (evf τ) S o.op=some (v,S1):=by
        intro v S1 h
        cases hop:o.op with
        | call f a=>rw [hop] at hc; simp [COp.isCall] at hc
        | callv f a=>rw [hop] at hc; simp [COp.isCall] at hc
        | _=>rw [hop] at h; exact h
      have e1:=wv k1;have e2:=wv k2;rw [e1] at e2; cases e2; exact ⟨rfl,rfl⟩
   ·rw [w1] at w2; cases w2
  ·rcases h' with ⟨w2,h'⟩ | ⟨w2,rfl,rfl⟩
   ·rw [w1] at w2; cases w2
   ·exact ⟨rfl,rfl⟩
theorem anyZ_two {i j:Nat} (hij:i≠j) (hdet : ∀ (k:Nat) o,cs[k]? = some o→o.op.isCall=false) (hlen:cs.length=ops.size) : ∀ (n:Nat) (listed:Array Bool) (τ:Ff) (S:Store),listed.getD i true=false→listed.getD j true=false →
    anyZ P Z (jF ops j i) cs Q n listed τ S→anyZ P Z (jF ops i j) cs Q n listed τ S→anyZ P Z ops cs Q n listed τ S
  | 0,listed,τ,S,hi,hj,h1,h2=>⟨List.eq_nil_iff_forall_not_mem.2 fun k hk=>(by
      by_cases e:k=j
      ·have:=qO (i:=j) (j:=i) hk (.inl (by omega)); rw [h2.1] at this; cases this
      ·have:=qO (i:=i) (j:=j) hk (.inl e); rw [h1.1] at this; cases this),h1.2⟩
  | n+1,listed,τ,S,hi,hj,h1,h2=>by
    have lt : ∀ {k:Nat},listed.getD k true=false→(listed.setIfInBounds k true).getD k false=true:=by
      intro k hk;have:k<listed.size:=by
        rcases Nat.lt_or_ge k listed.size with h' | h'
        ·exact h'
        ·simp [Array.getElem?_eq_none h'] at hk
      simp [this]
    refine ⟨fun h0=>h1.1 (List.eq_nil_iff_forall_not_mem.2 fun k hk=>by have:=ZY hk; rw [h0] at this; cases this),fun k hk => ?_⟩
    by_cases ei:k=i
    ·subst ei;exact Ya (fun τ S=>KE n _ τ S (lt hi)) (h1.2 k (qO hk (.inl hij)))
    by_cases ej:k=j
    ·subst ej;exact Ya (fun τ S=>KE n _ τ S (lt hj)) (h2.2 k (qO hk (.inl ei)))
    have k1:=h1.2 k (qO hk (.inl ej));have k2:=h2.2 k (qO hk (.inl ei));obtain ⟨_,o',ho',_⟩:=mem_ready.1 hk;have hlt:k<cs.length:=by rw [hlen]; exact (Array.getElem?_eq_some_iff.1 ho').1
    have hok:cs[k]? = some cs[k]:=List.getElem?_eq_getElem hlt;simp only [atZ,hok] at k1 k2 ⊢;rw [qR] at k1 k2 ⊢;obtain ⟨v,S1,y1,n1⟩:=k1;obtain ⟨v',S1',y2,n2⟩:=k2;obtain ⟨rfl,rfl⟩:=jbc (hdet k _ hok) y1 y2;exact ⟨v,S1,y1,anyZ_two hij hdet hlen n _ _ _ (by rw [getD_set_ne true ei]; exact hi) (by rw [getD_set_ne true ej]; exact hj) n1 n2⟩
theorem Jq {Q':Ff→Store→Prop} (hq : ∀ τ S,Q τ S→Q' τ S) : ∀ {l:List CO} {τ:Ff} {S:Store},Ko P Z Q l τ S→Ko P Z Q' l τ S
  | [],τ,S,h=>hq τ S h
  | o::r,τ,S,h=>by
    simp only [Ko] at h ⊢;rw [qR] at h ⊢;obtain ⟨v,S1,h1,h2⟩:=h;exact ⟨v,S1,h1,Jq hq h2⟩
def lexO (es ms:List Nat) (ops:Array Oper) (cs:List CO):List Nat→Array Bool→Bool
  | [],listed=>(Region.ready .any ops listed).isEmpty
  | k::ord,listed=>(Region.ready .any ops listed).contains k &&
      (match cs[k]? with
       | some oi=>(List.range cs.length).all fun j=>j==k||listed.getD j true||ZG ms k j||(match cs[j]? with
          | some oj=>oi.apart oj&&(isRd es oi||isRd es oj)
          | none=>true)
       | none=>false)&&lexO es ms ops cs ord (listed.setIfInBounds k true)
def Zk (cs:List CO) (ord:List Nat):List CO:=ord.filterMap fun k=>cs[k]?
theorem Yb (hlen:cs.length=ops.size) : ∀ (ord:List Nat) (listed:Array Bool) (τ:Ff) (S:Store),zn ops listed→lexO Z.es (zj ops) ops cs ord listed=true→Ko P Z Q (Zk cs ord) τ S→anyZ P Z ops cs Q ord.length listed τ S
  | [],_,_,_,_,hB,h=>⟨by simpa [lexO] using hB,h⟩
  | k::ord,listed,τ,S,hcl,hB,h=>by
    simp only [lexO,Bool.and_eq_true] at hB;obtain ⟨⟨hr,hf⟩,hB'⟩:=hB
    cases h0:cs[k]? with
    | none=>rw [h0] at hf; cases hf
    | some o =>
    have hp:Zk cs (k::ord)=o::Zk cs ord:=by simp [Zk,h0]
    rw [hp] at h;simp only [Ko] at h;rw [qR] at h;obtain ⟨v,S1,hy,hK⟩:=h;have hr':k∈Region.ready .any ops listed:=by simpa using hr
    refine YJ h0 hlen ord.length listed τ S S1 hcl (fun j oj hj hne hun hno => ?_) hr' hy (Yb hlen ord _ _ _ (zZ hcl hr') hB' hK);simp only [h0,List.all_eq_true,List.mem_range] at hf;have h1:=hf j (List.getElem?_eq_some_iff.1 hj).1;have hnm:ZG (zj ops) k j=false:=by
      cases hm:ZG (zj ops) k j with
      | false=>rfl
      | true=>obtain ⟨n,hn⟩:=JT hm; rw [hno n] at hn; cases hn
    simp only [hj,Bool.or_eq_true,beq_iff_eq,hne,false_or,hun,Bool.false_eq_true,hnm,Bool.and_eq_true] at h1;exact h1
end
section
variable {P:Program} {N b:Nat} {Q:Exit→Fr→Store→Prop} {σ:Fr} {S:Store}
theorem jbK {id:Nat} {ops:Array Oper} {cs:List CO} {Z:ZZ} {i j:Nat} {ord1 ord2:List Nat} (hm:P.follows .mixedOrders=true) (hc:qE P N ops=some cs) (hnc:cs.all (fun o => !o.op.isCall)=true) (hij:i≠j) (hi:i<ops.size) (hj:j<ops.size)
    (hB1:lexO Z.es (zj (jF ops j i)) (jF ops j i) cs ord1 (Array.replicate ops.size false)=true) (hB2:lexO Z.es (zj (jF ops i j)) (jF ops i j) cs ord2 (Array.replicate ops.size false)=true)
    (hn1:ord1.length=ops.size) (hn2:ord2.length=ops.size) (hE:zY (zj ops) cs Z.es=true) (hz:Z.ok S) (h0:Z.z0.Sub S)
    (H1:Ko P Z (fun τ S => ∃ σ':Fr,σ'.look=τ∧Q .normal σ' S) (Zk cs ord1) σ.look S) (H2:Ko P Z (fun τ S => ∃ σ':Fr,σ'.look=τ∧Q .normal σ' S) (Zk cs ord2) σ.look S):VWp P N b (.region id ops true) Q σ S:=by
  intro m β w a hS hF;obtain ⟨hlen,_⟩:=jct hc;refine wp_region_any hm ?_;have hcl : ∀ ops':Array Oper,ops'.size=ops.size→zn ops' (Array.replicate ops.size false):=by
    intro ops' he i o ho hi;have:i<ops'.size:=(Array.getElem?_eq_some_iff.1 ho).1;rw [he] at this;simp [this] at hi
  have a1:=Yb (P:=P) (Z:=Z) (ops:=jF ops j i) (by rw [qY]; exact hlen) ord1 _ σ.look S (hcl _ (qY _ _ _)) hB1 H1;have a2:=Yb (P:=P) (Z:=Z) (ops:=jF ops i j) (by rw [qY]; exact hlen) ord2 _ σ.look S (hcl _ (qY _ _ _)) hB2 H2;rw [hn1] at a1;rw [hn2] at a2;have:=anyZ_two hij (fun k o hk=>by
    simp only [List.all_eq_true] at hnc;have:=hnc o (List.mem_of_getElem? hk);simpa using this) hlen ops.size _ σ.look S (by simp [hi]) (by simp [hj]) a1 a2
  exact YI hc hE ops.size _ σ S m β _ a this (hcl ops rfl) hz (fun _=>h0) hS.drew hF ((Ext.drew m β w).toB b)
theorem KG {c c2:Code} {cs:List CO} {Q2:Exit→Fr→Store→Prop} {σm:Fr} {Sm:Store} (Z:ZZ) (i j:Nat) (ord1 ord2:List Nat) (h:Code.kind c=2) (hm:P.follows .mixedOrders=true) (hc:qE P N (Code.ops c)=some cs) (hnc:cs.all (fun o => !o.op.isCall)=true) (hij:i≠j)
    (hi:decide (i<(Code.ops c).size)=true) (hj:decide (j<(Code.ops c).size)=true)
    (hB1:lexO Z.es (zj (jF (Code.ops c) j i)) (jF (Code.ops c) j i) cs ord1 (Array.replicate (Code.ops c).size false)=true) (hB2:lexO Z.es (zj (jF (Code.ops c) i j)) (jF (Code.ops c) i j) cs ord2 (Array.replicate (Code.ops c).size false)=true)
    (hn1:ord1.length=(Code.ops c).size) (hn2:ord2.length=(Code.ops c).size) (hes:Z.es=[]) (hz:Z.ok S) (h0:Z.z0.Sub S)
    {cs1 cs2:List CO} (hp1:Zk cs ord1=cs1) (hp2:Zk cs ord2=cs2)
    (H1:jW P (some Z) cs1 (fun σ S=>Reach N b σ S σm Sm) σ S) (H2:jW P (some Z) cs2 (fun σ S=>Reach N b σ S σm Sm) σ S) (H:VWp P N b c2 Q2 σm Sm):VWp P N b c (Ks (VWp P N b c2 Q2) Q) σ S:=by
  subst hp1;subst hp2
  cases c with
  | region id ops d =>
    cases d
    ·simp [Code.kind] at h
    ·refine jbK hm hc hnc hij (of_decide_eq_true hi) (of_decide_eq_true hj) hB1 hB2 hn1 hn2 (by rw [hes]; exact jaF _ _) hz h0 ?_ ?_
     ·exact Jq (fun τ S=>fun ⟨σ',e,hr⟩=>⟨σ',e,ju hr H⟩) (zq _ σ S H1)
     ·exact Jq (fun τ S=>fun ⟨σ',e,hr⟩=>⟨σ',e,ju hr H⟩) (zq _ σ S H2)
  | _=>simp [Code.kind] at h
end
/-! ### .. behind a part that stands in the order of the text -/
section
variable {P:Program} {Z:ZZ} {ops:Array Oper} {cs:List CO} {Q:Ff→Store→Prop}
def jaq (es ms:List Nat) (ops:Array Oper) (cs:List CO):Nat→Nat→Array Bool→Bool
  | 0,_,_=>true
  | n+1,k,listed=>(Region.ready .any ops listed).contains k &&
      (match cs[k]? with
       | some oi=>(List.range cs.length).all fun j=>j==k||listed.getD j true||ZG ms k j||(match cs[j]? with
          | some oj=>oi.apart oj&&(isRd es oi||isRd es oj)
          | none=>true)
       | none=>false)&&jaq es ms ops cs n (k+1) (listed.setIfInBounds k true)
def zJ:Nat→Nat→Array Bool→Array Bool
  | 0,_,l=>l
  | n+1,k,l=>zJ n (k+1) (l.setIfInBounds k true)
theorem anyZ_pre (hlen:cs.length=ops.size) {fuel:Nat} : ∀ (l:List CO) (k:Nat) (listed:Array Bool) (τ:Ff) (S:Store),(∀ j<l.length,l[j]? = cs[k+j]?)→zn ops listed→jaq Z.es (zj ops) ops cs l.length k listed=true →
    Ko P Z (fun τ S=>anyZ P Z ops cs Q fuel (zJ l.length k listed) τ S) l τ S→anyZ P Z ops cs Q (fuel+l.length) listed τ S
  | [],_,_,_,_,_,_,_,h=>h
  | o::l,k,listed,τ,S,hl,hcl,hB,h=>by
    have h0:cs[k]? = some o:=by simpa using (hl 0 (by simp)).symm
    simp only [List.length_cons,jaq,Bool.and_eq_true,h0] at hB;obtain ⟨⟨hr,hf⟩,hB'⟩:=hB;simp only [Ko] at h;rw [qR] at h;obtain ⟨v,S1,hy,hK⟩:=h;have hr':k∈Region.ready .any ops listed:=by simpa using hr
    refine YJ h0 hlen (fuel+l.length) listed τ S S1 hcl (fun j oj hj hne hun hno => ?_) hr' hy (anyZ_pre hlen l (k+1) _ _ _ (fun j hj=>by have:=hl (j+1) (by simp; omega); simpa [Nat.add_assoc,Nat.add_comm 1 j] using this) (zZ hcl hr') hB' hK);simp only [List.all_eq_true,List.mem_range] at hf;have h1:=hf j (List.getElem?_eq_some_iff.1 hj).1;have hnm:ZG (zj ops) k j=false:=by
      cases hm:ZG (zj ops) k j with
      | false=>rfl
      | true=>obtain ⟨n,hn⟩:=JT hm; rw [hno n] at hn; cases hn
    simp only [hj,Bool.or_eq_true,beq_iff_eq,hne,false_or,hun,Bool.false_eq_true,hnm,Bool.and_eq_true] at h1;exact h1
theorem Ze (hlen:cs.length=ops.size) {es:List Nat} : ∀ (n k:Nat) (listed:Array Bool),zn ops listed→jaq es (zj ops) ops cs n k listed=true→zn ops (zJ n k listed)
  | 0,_,_,h,_=>h
  | n+1,k,listed,h,hB=>by
    simp only [jaq,Bool.and_eq_true] at hB;exact Ze hlen n (k+1) _ (zZ h (by simpa using hB.1.1)) hB.2
theorem WX {listed:Array Bool} {i j:Nat} (h:zn ops listed) (hj:listed.getD j true=false):zn (jF ops j i) listed:=by
  intro k o ho hk
  by_cases e:k=j
  ·subst e; rw [hj] at hk; cases hk
  ·rw [JN ops e] at ho;exact h k o ho hk
theorem anyZ_twoL {i j:Nat} (hij:i≠j) (hlen:cs.length=ops.size) : ∀ (n:Nat) (listed:Array Bool) (τ:Ff) (S:Store),(∀ (k:Nat) o,cs[k]? = some o→k≠i→k≠j→listed.getD k true=false→o.op.isCall=false)→listed.getD i true=false→listed.getD j true=false →
    anyZ P Z (jF ops j i) cs Q n listed τ S→anyZ P Z (jF ops i j) cs Q n listed τ S→anyZ P Z ops cs Q n listed τ S
  | 0,listed,τ,S,_,hi,hj,h1,h2=>⟨List.eq_nil_iff_forall_not_mem.2 fun k hk=>(by
      by_cases e:k=j
      ·have:=qO (i:=j) (j:=i) hk (.inl (by omega)); rw [h2.1] at this; cases this
      ·have:=qO (i:=i) (j:=j) hk (.inl e); rw [h1.1] at this; cases this),h1.2⟩
  | n+1,listed,τ,S,hdet,hi,hj,h1,h2=>by
    have lt : ∀ {k:Nat},listed.getD k true=false→(listed.setIfInBounds k true).getD k false=true:=by
      intro k hk;have:k<listed.size:=by
        rcases Nat.lt_or_ge k listed.size with h' | h'
        ·exact h'
        ·simp [Array.getElem?_eq_none h'] at hk
      simp [this]
    refine ⟨fun h0=>h1.1 (List.eq_nil_iff_forall_not_mem.2 fun k hk=>by have:=ZY hk; rw [h0] at this; cases this),fun k hk => ?_⟩
    by_cases ei:k=i
    ·subst ei;exact Ya (fun τ S=>KE n _ τ S (lt hi)) (h1.2 k (qO hk (.inl hij)))
    by_cases ej:k=j
    ·subst ej;exact Ya (fun τ S=>KE n _ τ S (lt hj)) (h2.2 k (qO hk (.inl ei)))
    have k1:=h1.2 k (qO hk (.inl ej));have k2:=h2.2 k (qO hk (.inl ei));obtain ⟨hun,o',ho',_⟩:=mem_ready.1 hk;have hlt:k<cs.length:=by rw [hlen]; exact (Array.getElem?_eq_some_iff.1 ho').1
    have hok:cs[k]? = some cs[k]:=List.getElem?_eq_getElem hlt;simp only [atZ,hok] at k1 k2 ⊢;rw [qR] at k1 k2 ⊢;obtain ⟨v,S1,y1,n1⟩:=k1;obtain ⟨v',S1',y2,n2⟩:=k2;obtain ⟨rfl,rfl⟩:=jbc (hdet k _ hok ei ej hun) y1 y2;refine ⟨v,S1,y1,anyZ_twoL hij hlen n _ _ _ (fun k' o hk' h3 h4 h5=>hdet k' o hk' h3 h4 ?_) (by rw [getD_set_ne true ei]; exact hi) (by rw [getD_set_ne true ej]; exact hj) n1 n2⟩
    by_cases e:k=k'
    ·subst e; exact hun
    ·rw [getD_set_ne true e] at h5; exact h5
end
section
variable {P:Program} {N b:Nat} {Q:Exit→Fr→Store→Prop} {σ:Fr} {S:Store}
def callsOk (cs:List CO) (i j n0:Nat):Bool:=(List.range cs.length).all fun k=>decide (k<n0)||k==i||k==j||(match cs[k]? with | some o => !o.op.isCall | none=>true)
theorem vw_drawSplit {c c2:Code} {cs:List CO} {Q2:Exit→Fr→Store→Prop} (Z:ZZ) (n0 i j:Nat) (ord1 ord2:List Nat) (h:Code.kind c=2) (hm:P.follows .mixedOrders=true) (hc:qE P N (Code.ops c)=some cs) (hnc:callsOk cs i j n0=true) (hij:i≠j)
    (hp:jaq Z.es (zj (Code.ops c)) (Code.ops c) cs n0 0 (Array.replicate (Code.ops c).size false)=true)
    (hi:(zJ n0 0 (Array.replicate (Code.ops c).size false)).getD i true=false) (hj:(zJ n0 0 (Array.replicate (Code.ops c).size false)).getD j true=false)
    (hu:(List.range n0).all (fun k=>(zJ n0 0 (Array.replicate (Code.ops c).size false)).getD k true)=true)
    (hB1:lexO Z.es (zj (jF (Code.ops c) j i)) (jF (Code.ops c) j i) cs ord1 (zJ n0 0 (Array.replicate (Code.ops c).size false))=true) (hB2:lexO Z.es (zj (jF (Code.ops c) i j)) (jF (Code.ops c) i j) cs ord2 (zJ n0 0 (Array.replicate (Code.ops c).size false))=true)
    (hn0:decide (n0≤(Code.ops c).size)=true) (hn1:ord1.length+n0=(Code.ops c).size) (hn2:ord2.length+n0=(Code.ops c).size) (hE:zY (zj (Code.ops c)) cs Z.es=true) (hz:Z.ok S) (h0:Z.z0.Sub S)
    {cs0 cs1 cs2:List CO} (hp0:cs.take n0=cs0) (hp1:Zk cs ord1=cs1) (hp2:Zk cs ord2=cs2)
    (H:jW P (some Z) cs0 (fun σ S => ∃ σm Sm,VWp P N b c2 Q2 σm Sm∧jW P (some Z) cs1 (fun σ S=>Reach N b σ S σm Sm) σ S∧jW P (some Z) cs2 (fun σ S=>Reach N b σ S σm Sm) σ S) σ S):VWp P N b c (Ks (VWp P N b c2 Q2) Q) σ S:=by
  subst hp0;subst hp1;subst hp2
  cases c with
  | region id ops d =>
    cases d
    ·simp [Code.kind] at h
    ·intro m β w a hS hF;simp only [Code.ops] at *
     obtain ⟨hlen,_⟩:=jct hc;refine wp_region_any hm ?_;have hcl:zn ops (Array.replicate ops.size false):=by
       intro i o ho hi;have:i<ops.size:=(Array.getElem?_eq_some_iff.1 ho).1;simp [this] at hi
     have hle:n0≤cs.length:=by rw [hlen]; exact of_decide_eq_true hn0
     have hl0:(cs.take n0).length=n0:=by rw [List.length_take,Nat.min_eq_left hle]
     have hcl1:=Ze hlen n0 0 _ hcl hp;have key:Ko P Z (fun τ S=>anyZ P Z ops cs (fun τ S => ∃ σ':Fr,σ'.look=τ∧(Ks (VWp P N b c2 Q2) Q) .normal σ' S) ord1.length (zJ n0 0 (Array.replicate ops.size false)) τ S) (cs.take n0) σ.look S:=by
       refine Jq (fun τ S => ?_) (zq _ σ S H);rintro ⟨σ1,rfl,σm,Sm,hQ,H1,H2⟩;have a1:=Yb (P:=P) (Z:=Z) (Q:=fun τ S => ∃ σ':Fr,σ'.look=τ∧(Ks (VWp P N b c2 Q2) Q) .normal σ' S) (ops:=jF ops j i) (by rw [qY]; exact hlen) ord1 _ σ1.look S (WX hcl1 hj) hB1 (Jq (fun τ S=>fun ⟨σ',e,hr⟩=>⟨σ',e,ju hr hQ⟩) (zq _ σ1 S H1));have a2:=Yb (P:=P) (Z:=Z) (Q:=fun τ S => ∃ σ':Fr,σ'.look=τ∧(Ks (VWp P N b c2 Q2) Q) .normal σ' S) (ops:=jF ops i j) (by rw [qY]; exact hlen) ord2 _ σ1.look S (WX hcl1 hi) hB2 (Jq (fun τ S=>fun ⟨σ',e,hr⟩=>⟨σ',e,ju hr hQ⟩) (zq _ σ1 S H2));rw [show ord2.length=ord1.length by omega] at a2;refine anyZ_twoL hij hlen ord1.length _ σ1.look S (fun k o hk h3 h4 h5 => ?_) hi hj a1 a2;simp only [callsOk,List.all_eq_true,List.mem_range] at hnc;have hh:=hnc k (List.getElem?_eq_some_iff.1 hk).1
       have h6 : ¬ k<n0:=fun h6=>by
         simp only [List.all_eq_true,List.mem_range] at hu;rw [hu k h6] at h5; cases h5
       simpa [h6,h3,h4,hk] using hh
     have:=anyZ_pre (P:=P) (Z:=Z) hlen (cs.take n0) 0 (Array.replicate ops.size false) σ.look S (fun q hq=>by rw [Nat.zero_add,List.getElem?_take,if_pos (by omega)]) hcl (by rw [hl0]; exact hp) (by rw [hl0]; exact key);rw [hl0,hn1] at this;exact YI hc hE ops.size _ σ S m β _ a this hcl hz (fun _=>h0) hS.drew hF ((Ext.drew m β w).toB b)
  | _=>simp [Code.kind] at h
end
theorem zD {N b:Nat} {σ σ':Fr} {S:Store} (ks:List Nat) (h:σ.only ks=σ'):Reach N b σ S σ' S:=by subst h; exact Reach.only ks
theorem zV {N:Nat} {σ σ1 σ':Fr} {B:Store} {u u':Upds} {l l':List (Option (Nat × List V))} (ks gs:List Nat) (hσ1:σ.only ks=σ1) (hw:B.Wf) (h1:gs.Nodup) (h2:(KA B.nx gs u&&Zl B.nx gs l gs&&idsF (gcP B.nx gs) σ1)=true)
    (hu:gcU B.nx gs u=u') (hl:gcL B.nx gs l gs=l') (hσ:renF (gcTo B.nx gs) σ1=σ'):Reach N B.nx σ (St B u l) σ' (St B u' l') :=
  (zD ks hσ1).trans (Reach.gc gs hw h1 h2 hu hl hσ)
end Go.Vw

/-
 Functions whose results lie in cells; objects of one's own that become immutable.
-/
namespace Go.Vw
open Go.RowKit
section
variable {P:Program} {N:Nat} {S:Store} {m:Imm} {β:Objs} {w:World} {σ:Fr} {a:Act}
theorem load_run {t:TypeId} {q:Nat} {sz:Option Nat} {x:V} (hsz:Program.szOf P t=some sz) (hS:Holds S m β w) (hF:FrameRep N m β σ a) (he:Jx sz S (σ.look q)=some x) :
  ∃ ad u,a.tmps.getD q undef = .pointer (some ad)∧(loadVar t ad).run P w = .ok u w∧Rep m β x u:=by
 have hr:=hF.rep q;generalize σ.look q=p at he hr
 cases p with
 | ref x' =>
  simp only [Jx] at he;split at he
  ·rename_i hok
   cases he
   obtain ⟨u,b,off,arr,T,fz,e,hm,hu,hc⟩:=hr.inv_ref;refine ⟨_,u,e,qH hsz (hS.imm _ _ hm) u ?_ hc, .imm hu⟩;refine ⟨fun n hn => ?_,fun hn => ?_⟩
   ·subst hn
    cases x<;>simp [okSz] at hok
    cases hu with | agg xs vs hl _ _=>exact ⟨vs,rfl,by omega⟩
   ·subst hn;simp only [okSz] at hok;have:=(Rep.imm (β:=β) hu).oneCell hok
    cases u<;>first | rfl | simp [Value.oneCell'] at this
  ·cases he
 | ptr o' off =>
  simp only [Jx] at he
  cases hc:S.get o' with
  | none=>simp [hc] at he
  | some c =>
   simp only [hc] at he;obtain ⟨b,base,s,n,hob,e⟩:=hr.inv_ptr (hS.alive hc);obtain ⟨_,arr,T,h1,h2,h3,h4⟩:=hS.cells_at hc hob
   cases sz with
   | none =>
    simp only [WJ] at he;obtain ⟨v,hv,hrv,hone⟩:=h4 off x he;have ec:v.cells = #[v]:=by cases v<;>first | rfl | simp [Value.oneCell'] at hone
    refine ⟨_,v,e,qH hsz h1 v ⟨(by intro n hn; cases hn),fun _=>ec⟩ fun j c' hj => ?_,hrv⟩;rw [ec] at hj
    cases j with
    | zero=>simp at hj; subst hj; simpa using hv
    | succ j=>simp at hj
   | some k =>
    simp only [WJ] at he;split at he
    ·rename_i hle
     cases he
     obtain ⟨vs,hl,hcs,hrl,hone⟩:=Js h4 off k hle;refine ⟨_, .agg vs.toArray,e,qH hsz h1 _ ⟨(by intro n hn; cases hn; exact ⟨vs,rfl,hl⟩),(by intro hn; cases hn)⟩ fun j c' hj => ?_, .agg _ vs hrl.1 hrl.2 hone⟩;exact hcs j c' (by simpa [Value.cells] using hj)
    ·cases he
 | _=>simp [Jx] at he
def resC1 (P:Program):ResultVar→Option (Nat × Option (Option Nat))
 | .tmp t=>some (t,none)
 | .cell q t=>(Program.szOf P t).map fun sz=>(q,some sz)
def resC (P:Program) (fn:Func):Option (List (Nat × Option (Option Nat))):=fn.results.toList.mapM (resC1 P)
def resL1 (S:Store) (σ:Fr):Nat × Option (Option Nat)→Option V
 | (t,none)=>some (σ.look t)
 | (t,some sz)=>Jx sz S (σ.look t)
def resL (S:Store) (σ:Fr):List (Nat × Option (Option Nat))→Option (List V)
 | []=>some []
 | r::rs=>match resL1 S σ r,resL S σ rs with
  | some x,some xs=>some (x::xs)
  | _,_=>none
def tupV:List V→V
 | [x]=>x
 | xs => .tuple xs
def bodyC (rs:List (Nat × Option (Option Nat))) (R:V→Store→Prop):Exit→Fr→Store→Prop
 | .normal,σ,S => ∃ xs,resL S σ rs=some xs∧R (tupV xs) S
 | .ret,σ,S => ∃ xs,resL S σ rs=some xs∧R (tupV xs) S
 | _,_,_=>False
theorem YS {fn:Func} {rs:List (Nat × Option (Option Nat))} (h:resC P fn=some rs) (hS:Holds S m β w) (hF:FrameRep N m β σ a) {xs:List V} (hx:resL S σ rs=some xs) : ∃ v,(results fn a.tmps).run P w = .ok v w∧Rep m β (tupV xs) v:=by
 have gen : ∀ (l:List ResultVar) (rs:List (Nat × Option (Option Nat))) (xs:List V),l.mapM (resC1 P)=some rs→resL S σ rs=some xs →
   ∃ vs:List Value,(l.mapM fun r=>(match r with
    | .tmp t=>pure (a.tmps.getD t undef)
    | .cell q t=>do loadVar t (←asAddr (a.tmps.getD q undef)):Sem Value)).run P w = .ok vs w∧RepL m β xs vs:=by
  intro l
  induction l with
  | nil=>intro rs xs h hx; simp at h; subst h; simp only [resL,Option.some.injEq] at hx; subst hx; exact ⟨[],rfl,RepL.nil _ _⟩
  | cons r l ih =>
   intro rs xs h hx;simp only [List.mapM_cons,Option.bind_eq_bind,Option.bind_eq_some_iff] at h;obtain ⟨b,hb,r',hr',h⟩:=h;simp at h; subst h;simp only [resL] at hx;split at hx
   ·rename_i x xs' h1 h2
    cases hx
    obtain ⟨vs,k1,k2⟩:=ih r' xs' hr' h2
    cases r with
    | tmp t =>
     simp only [resC1,Option.some.injEq] at hb;subst hb;simp only [resL1,Option.some.injEq] at h1;subst h1;refine ⟨a.tmps.getD t undef::vs, ?_, .cons (hF.rep t) k2⟩;rw [List.mapM_cons,Sem.run_bind,Sem.run_pure,Result.andThen_ok,Sem.run_bind,k1]
     rfl
    | cell q t =>
     simp only [resC1] at hb;obtain ⟨sz,hsz,e⟩:=Option.map_eq_some_iff.1 hb;subst e;simp only [resL1] at h1;obtain ⟨ad,u,e1,e2,e3⟩:=load_run hsz hS hF h1;refine ⟨u::vs, ?_, .cons e3 k2⟩;have e4:((do loadVar t (←asAddr (a.tmps.getD q undef))):Sem Value).run P w = .ok u w:=by
      rw [e1,show asAddr (.pointer (some ad))=pure ad from rfl,pure_bind,e2]
     rw [List.mapM_cons,Sem.run_bind,e4,Result.andThen_ok,Sem.run_bind,k1]
     rfl
   ·cases hx
 obtain ⟨vs,h1,hl,h2⟩:=gen fn.results.toList rs xs h hx;have hrun:(results fn a.tmps).run P w = .ok (if h:vs.toArray.size=1 then vs.toArray[0] else .tuple vs.toArray) w:=by
  unfold results;rw [Sem.run_bind,Array.mapM_eq_mapM_toList,Sem.run_map]
  erw [h1]
  rfl
 refine ⟨_,hrun, ?_⟩
 match xs,vs,hl,h2 with
 | [x],[v],_,h2=>exact h2 0 x v rfl rfl
 | [],[],_,_=>exact zM m β
 | x::y::xs,u::v::vs,hl,h2 =>
  rw [dif_neg (by simp)];exact .tuple _ _ hl h2
theorem vcalls_bodyC {f:FuncId} {fn:Func} {c:Code} {rs:List (Nat × Option (Option Nat))} {args:List V} {R:V→Store→Prop} (hf:P.funcs[f]? = some fn) (hb:fn.body=some c) (ht:resC P fn=some rs) (hn:args.length≤fn.ntmps)
  (h:VWp P fn.ntmps S.nx c (bodyC rs R) (KB 0 args) S):VCalls P f args S R:=by
 intro m β w vs hS hr;refine calls_of_wp hf hb ?_;have hF:FrameRep fn.ntmps m β (KB 0 args) { tmps:=vs.toArray++Array.replicate (fn.ntmps-vs.toArray.size) undef,defers:=[] }:=by
  have hl:=hr.1;refine ⟨by simp; omega,rfl,fun t => ?_⟩;rw [Wk];simp only [Nat.zero_le,if_true,Nat.sub_zero]
  cases hx:args[t]? with
  | none=>exact .junk _
  | some x =>
   have hlt:t<vs.length:=by rw [←hl]; exact (List.getElem?_eq_some_iff.1 hx).1
   have:(vs.toArray++Array.replicate (fn.ntmps-vs.toArray.size) undef).getD t undef=vs[t]:=by
    simp [Array.getD_eq_getD_getElem?,Array.getElem?_append,hlt]
   simp only [this,Option.getD_some];exact hr.2 t x _ hx (List.getElem?_eq_getElem hlt)
 refine wp_mono (h m β w _ hS hF) ?_;rintro e a' w' ⟨σ',S',m',β',q,r1,r2,r3⟩;have back:ExtB S.nx m β w m' β' w'→Ext m β w m' β' w':=fun h=>⟨h.imm,fun o ho=>h.step o (by
  rcases Nat.lt_or_ge o S.nx with hl | hl
  ·exact hl
  ·exact absurd ((hS.fresh o).2 hl) ho) ho,h.size,h.keep,h.os,h.tape,h.output⟩
 cases e with
 | normal =>
  obtain ⟨xs,q1,q2⟩:=q;obtain ⟨v,hv,hrv⟩:=YS (P:=P) ht r1 r2 q1;exact ⟨r2.defers,v,hv,v,_,S',m',β',rfl,q2,hrv,r1,back r3⟩
 | ret =>
  obtain ⟨xs,q1,q2⟩:=q;obtain ⟨v,hv,hrv⟩:=YS (P:=P) ht r1 r2 q1;exact ⟨r2.defers,v,hv,v,_,S',m',β',rfl,q2,hrv,r1,back r3⟩
 | _=>exact q.elim
theorem qw {f:FuncId} {fn:Func} {c:Code} {rs:List (Nat × Option (Option Nat))} {args:List V} {R:V→Store→Prop} (hf:P.funcs[f]? = some fn) (hb:fn.body=some c) (ht:resC P fn=some rs) (hn:args.length≤fn.ntmps)
  (h:S.Wf→VWp P fn.ntmps S.nx c (bodyC rs (Zn S.nx R)) (KB 0 args) (St S [] [])):VCalls P f args S R:=by
 refine Jb fun hwf=>zk (vcalls_bodyC hf hb ht hn ?_)
 have:=h hwf;rw [qM hwf] at this;exact this
theorem jaY {rs:List (Nat × Option (Option Nat))} {R:V→Store→Prop} {xs:List V} (h:resL S σ rs=some xs) (hR:R (tupV xs) S) : ∃ xs,resL S σ rs=some xs∧R (tupV xs) S:=⟨xs,h,hR⟩
end
theorem resL_nil (S:Store) (σ:Fr):resL S σ []=some []:=nr rfl
def consO:Option V→Option (List V)→Option (List V)
 | some x,some xs=>some (x::xs)
 | _,_=>none
theorem resL_cons (S:Store) (σ:Fr) (r) (rs):resL S σ (r::rs)=consO (resL1 S σ r) (resL S σ rs):=nr rfl
theorem consO_some (x:V) (xs:List V):consO (some x) (some xs)=some (x::xs):=nr rfl
theorem resL1_t (S:Store) (σ:Fr) (t:Nat):resL1 S σ (t,none)=some (σ.look t):=nr rfl
theorem resL1_c (S:Store) (σ:Fr) (t:Nat) (sz:Option Nat):resL1 S σ (t,some sz)=Jx sz S (σ.look t):=nr rfl
theorem tupV_1 (x:V):tupV [x]=x:=nr rfl
theorem tupV_2 (x y:V) (r:List V):tupV (x::y::r) = .tuple (x::y::r):=nr rfl
attribute [simp] resL_nil resL_cons consO_some resL1_t resL1_c tupV_1 tupV_2
theorem Ghost.refS {S:Store} {o s:Nat} {cs:List V} (hc:S.get o=some (s,cs)) (h1:cs.all V.closed1=true) (hne:cs≠[]):Ghost (.ptr o 0) S (.ref (.agg cs)) (S.del o):=by
 intro m β w v hS hr;obtain ⟨b,base,s',n,hob,rfl⟩:=hr.inv_ptr (hS.alive hc);obtain ⟨_,arr,T,e1,e2,e3,e4⟩:=hS.cells_at hc hob;obtain ⟨k1,k2⟩:=hS.freeze hc hob e1;obtain ⟨vs,hl,hcs,hrl,hone⟩:=Js e4 0 cs.length (by simp);simp only [List.drop_zero,List.take_length] at hrl;have hall : ∀ x∈cs,x.closed1=true:=by simpa using h1
 refine ⟨_,_,k1,k2, .imm (.ref (.agg cs) (.agg vs.toArray) b (base+0) arr T (0,0) (by simp [Imm.set]) (.agg cs vs hrl.1 (fun i x u hx hu=>((hrl.2 i x u hx hu).closed1 (hall x (List.mem_of_getElem? hx))).mono k2.imm) hone) fun j c hj => ?_)⟩;exact hcs j c (by simpa [Value.cells] using hj)
theorem refSt {B:Store} {u:Upds} {l:List (Option (Nat × List V))} {k s:Nat} {cs:List V} (hk:k<l.length) (hc:(l[k]?).join=some (s,cs)) (hcl:cs.all V.closed1=true) (hne:cs≠[]) :
  Ghost (.ptr (lid B.nx k) 0) (St B u l) (.ref (.agg cs)) (St B u (l.set k none)):=by
 rw [←jbI hk];exact Ghost.refS (by rw [jC]; exact hc) hcl hne
theorem QH {P:Program} {N b:Nat} {Q:Exit→Fr→Store→Prop} {σ σ':Fr} {B:Store} {u:Upds} {l l':List (Option (Nat × List V))} {c:Code} {s:Nat} {cs:List V} (t k:Nat) (H:VWp P N b c Q σ' (St B u l')) (hx:σ.look t=.ptr (lid B.nx k) 0:=by exact rfl) (hk:k<l.length:=by simp) (hc:(l[k]?).join=some (s,cs):=by exact rfl) (hcl:cs.all V.closed1=true:=by exact rfl) (hne:cs≠[]:=by simp) (hs:σ.set t (.ref (.agg cs))=σ':=by conv=>lhs; simp [Fr.set]) (hl:l.set k none=l':=by conv=>lhs; simp only [List.set_cons_succ,List.set_cons_zero]):VWp P N b c Q σ (St B u l):=jz t hx (refSt hk hc hcl hne) hs (by rw [hl]; exact H)
end Go.Vw

namespace Ss
def isKind (t:Int):Bool:=decide (t=127)||decide (t=126)
def kinds (most:Nat) (l:List Int):Bool:=decide (l.length≤most)&&l.all isKind
def Sig.right (s:Sig):Bool:=kinds 8 s.inn&&kinds 8 s.out
def Env.right (e:Env):Bool:=decide (0≤e.imports)&&decide (e.imports≤e.sigs.length)&&decide (e.sigs.length≤64)&&decide (e.muts.length=e.globals.length)&&kinds 32 e.globals&&e.sigs.all Sig.right
end Ss
namespace Go.Vw
open Go.Proofs Go.RowKit
set_option maxRecDepth 10000
set_option maxHeartbeats 1000000
theorem isKind_v (t:Int):VPure Tryz.prog 101 [vint t] (.bool (Ss.isKind t)):=by
 intro S;refine jb (c:=jg Tryz.f101) Tryz.func101 rfl rfl (by simp [Tryz.ntmps101]) ?_;rw [Tryz.ntmps101];intro hwf
 by_cases h:t=127
 ·repeat first|refine QG ?_|refine QY ?_ (r:=by conv=>lhs;simp[-List.map_set,QV,h])
  exact ja hwf (by simp [Ss.isKind,h]) rfl
 ·repeat first|refine QG ?_|refine QY ?_ (r:=by conv=>lhs;simp[-List.map_set,QV,h])
  exact ja hwf (by simp [Ss.isKind,h]) rfl
theorem kinds1_v (t:Int):VPure Tryz.prog 100 ([vint t]++[]) (.bool (!Ss.isKind t)):=by
 intro S;refine jb (c:=jg Tryz.f100) Tryz.func100 rfl rfl (by simp [Tryz.ntmps100]) ?_;rw [Tryz.ntmps100];intro hwf
 repeat first|refine QG ?_|refine QY ?_
 repeat refine QS ?_
 refine QP ?_;refine jc (isKind_v t) (by rfl) ?_;refine QW ?_
 repeat first|refine QG ?_|refine QY ?_
 exact ja hwf rfl rfl
theorem jcl (most:Nat) (l:List Int) (hl:l.length<2^63):VPure Tryz.prog 65 [vnat most,vl vint l] (.bool (Ss.kinds most l)):=by
 intro S;have e:(!l.any fun t => !Ss.isKind t)=l.all Ss.isKind:=by
  rw [List.not_any_eq_all_not]; congr 1; funext t; simp
 by_cases h:l.length≤most
 ·have h':(l.length:Int)≤(most:Int):=by omega
  have hX:Ss.kinds most l = !l.any fun t => !Ss.isKind t:=by rw [e]; simp [Ss.kinds,h]
  rw [hX];refine jb (c:=jg Tryz.f65) Tryz.func65 rfl rfl (by simp [Tryz.ntmps65]) ?_;rw [Tryz.ntmps65];intro hwf
  repeat first|refine QG ?_|refine QY ?_ (r:=by conv=>lhs;simp[-List.map_set,QV,h,h'])
  repeat refine QS ?_
  refine QP ?_ (r:=by conv=>lhs;simp[-List.map_set,QV,h,h']);refine jc (AnyI_v l (fun t => !Ss.isKind t) _ [] rfl hl (fun t _=>kinds1_v t)) (by rfl) ?_;refine QW ?_
  repeat first|refine QG ?_|refine QY ?_
  exact ja hwf (by simp) rfl
 ·have h' : ¬ (l.length:Int)≤(most:Int):=by omega
  have hX:Ss.kinds most l=false:=by simp [Ss.kinds,h]
  rw [hX];refine jb (c:=jg Tryz.f65) Tryz.func65 rfl rfl (by simp [Tryz.ntmps65]) ?_;rw [Tryz.ntmps65];intro hwf
  repeat first|refine QG ?_|refine QY ?_ (r:=by conv=>lhs;simp[-List.map_set,QV,h,h'])
  exact ja hwf rfl rfl
theorem jbg (s:Ss.Sig) (hs:s.Fits):VPure Tryz.prog 66 [jR s] (.bool s.right):=by
 intro S;obtain ⟨⟨h1,_⟩,⟨h2,_⟩⟩:=hs;obtain ⟨a,b⟩:=s;simp only at h1 h2;have hX:Ss.Sig.right ⟨a,b⟩=(Ss.kinds 8 a&&Ss.kinds 8 b):=rfl;rw [hX];have c1:VPure Tryz.prog 65 [.int .i64 8,vl vint a] (.bool (Ss.kinds 8 a)):=jcl 8 a (by omega);have c2:VPure Tryz.prog 65 [.int .i64 8,vl vint b] (.bool (Ss.kinds 8 b)):=jcl 8 b (by omega);generalize Ss.kinds 8 a=x at *
 generalize Ss.kinds 8 b=y at *
 refine jb (c:=jg Tryz.f66) Tryz.func66 rfl rfl (by simp [Tryz.ntmps66]) ?_;rw [Tryz.ntmps66];intro hwf
 repeat first|refine QG ?_|refine QY ?_
 repeat refine QS ?_
 refine QP ?_;refine jc (c1) (by rfl) ?_
 by_cases hx:x=true
 ·refine QM (by conv=>lhs;simp[-List.map_set,QV,hx]) ?_;refine jc (c2) (by rfl) ?_;refine QW ?_
  repeat first|refine QG ?_|refine QY ?_
  exact ja hwf (by simp [hx]) rfl
 ·have hx':x=false:=by simpa using hx
  refine QM (by conv=>lhs;simp[-List.map_set,QV,hx']) ?_;refine QN ?_
  repeat first|refine QG ?_|refine QY ?_
  exact ja hwf (by simp [hx']) rfl
theorem envRight1_v (s:Ss.Sig) (hs:s.Fits):VPure Tryz.prog 98 ([jR s]++[]) (.bool (!s.right)):=by
 intro S;have c1:=jbg s hs;obtain ⟨a,b⟩:=s;have c1':VPure Tryz.prog 66 [.agg [vl vint a,vl vint b]] (.bool (Ss.Sig.right ⟨a,b⟩)):=c1;refine jb (c:=jg Tryz.f98) Tryz.func98 rfl rfl (by simp [Tryz.ntmps98]) ?_;rw [Tryz.ntmps98];intro hwf
 repeat first|refine QG ?_|refine QY ?_
 repeat refine QS ?_
 refine QP ?_;refine jc (c1') (by rfl) ?_;refine QW ?_
 repeat first|refine QG ?_|refine QY ?_
 exact ja hwf rfl rfl
theorem EnvRight_v (e:Ss.Env) (he:e.Fits):VPure Tryz.prog 63 [zl e] (.bool e.right):=by
 intro S;obtain ⟨⟨h1,h2⟩,_,⟨h4,_⟩,h5⟩:=he;obtain ⟨sg,im,gl,mu,me⟩:=e;simp only at h1 h2 h4 h5;have ea:(!sg.any fun s => !s.right)=sg.all Ss.Sig.right:=by
  rw [List.not_any_eq_all_not]; congr 1; funext t; simp
 have hX:Ss.Env.right ⟨sg,im,gl,mu,me⟩=(decide (0≤im)&&decide (im≤sg.length)&&decide (sg.length≤64)&&decide (mu.length=gl.length)&&Ss.kinds 32 gl && !sg.any fun s => !s.right):=by rw [ea]; rfl
 rw [hX];have c1:VPure Tryz.prog 65 [.int .i64 32,vl vint gl] (.bool (Ss.kinds 32 gl)):=jcl 32 gl (by omega);have c2:=AnyS_v sg (fun s => !s.right) 98 [] rfl (by omega) (fun s hs=>envRight1_v s (h2 s hs));generalize Ss.kinds 32 gl=x at *
 generalize (sg.any fun s => !s.right)=y at *
 refine jb (c:=jg Tryz.f63) Tryz.func63 rfl rfl (by simp [Tryz.ntmps63]) ?_;rw [Tryz.ntmps63];intro hwf
 by_cases k1:im<0
 ·repeat first|refine QG ?_|refine QY ?_ (r:=by conv=>lhs;simp[-List.map_set,QV,k1])
  exact ja hwf (by simp; omega) rfl
 by_cases k2:(sg.length:Int)<im
 ·repeat first|refine QG ?_|refine QY ?_ (r:=by conv=>lhs;simp[-List.map_set,QV,k1,k2])
  exact ja hwf (by simp; omega) rfl
 by_cases k3:(64:Int)<(sg.length:Int)
 ·repeat first|refine QG ?_|refine QY ?_ (r:=by conv=>lhs;simp[-List.map_set,QV,k1,k2,k3])
  exact ja hwf (by simp; omega) rfl
 by_cases k4:mu.length=gl.length
 case neg =>
  have k4' : ¬ (mu.length:Int)=(gl.length:Int):=by omega
  repeat first|refine QG ?_|refine QY ?_ (r:=by conv=>lhs;simp[-List.map_set,QV,k1,k2,k3,k4,k4'])
  exact ja hwf (by simp [k4]) rfl
 have k4':(mu.length:Int)=(gl.length:Int):=by omega
 have hp:(decide (0≤im)&&decide (im≤sg.length)&&decide (sg.length≤64)&&decide (mu.length=gl.length))=true:=by simp [k4]; omega
 rw [hp]
 repeat first|refine QG ?_|refine QY ?_ (r:=by conv=>lhs;simp[-List.map_set,QV,k1,k2,k3,k4,k4'])
 repeat refine QS ?_
 refine QP ?_;refine jc (c1) (by rfl) ?_
 by_cases hx:x=true
 ·refine QM (by conv=>lhs;simp[-List.map_set,QV,hx]) ?_;refine jc (c2) (by rfl) ?_;refine QW ?_
  repeat first|refine QG ?_|refine QY ?_
  exact ja hwf (by simp [hx]) rfl
 ·have hx':x=false:=by simpa using hx
  refine QM (by conv=>lhs;simp[-List.map_set,QV,hx']) ?_;refine QN ?_
  repeat first|refine QG ?_|refine QY ?_
  exact ja hwf (by simp [hx']) rfl
theorem check1_v (b:Ss.Block):VPure Tryz.prog 68 ([jd b]++[]) (.bool (decide (256<b.params.length))):=by
 intro S;obtain ⟨ps,c,t⟩:=b;refine jb (c:=jg Tryz.f68) Tryz.func68 rfl rfl (by simp [Tryz.ntmps68]) ?_;rw [Tryz.ntmps68];intro hwf
 repeat first|refine QG ?_|refine QY ?_
 exact ja hwf (by simp; omega) rfl
end Go.Vw
