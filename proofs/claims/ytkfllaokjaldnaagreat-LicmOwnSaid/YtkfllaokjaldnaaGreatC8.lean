import Derived.Test.YtkfllaokjaldnaaGreatC7
/- Part of the proof. -/
set_option linter.unusedVariables false
set_option linter.unusedSimpArgs false
set_option maxRecDepth 10000
set_option maxHeartbeats 4000000
/-
  Regions that draw, with two allocations that stand in no order: a walk for each of the two orders.
-/
namespace Go.Vw
open Go.RowKit
def jD (ops:Array Oper) (j i:Nat):Array Oper:=ops.modify j fun o=>{ o with after:=o.after.push ⟨i, .data⟩ }
theorem za (ops:Array Oper) (j i:Nat):(jD ops j i).size=ops.size:=by simp [jD]
theorem JJ (ops:Array Oper) {j i k:Nat} (h:k≠j):(jD ops j i)[k]? = ops[k]? := by
  simp only [jD,Array.getElem?_modify];rw [if_neg (Ne.symm h)]
theorem jaS (ops:Array Oper) {j i:Nat} {o:Oper} (h:ops[j]? = some o):(jD ops j i)[j]? = some { o with after:=o.after.push ⟨i, .data⟩ }:=by
  simp only [jD,Array.getElem?_modify,if_true,h,Option.map_some]
theorem jae {ops:Array Oper} {i j k:Nat} {listed:Array Bool} (h:k∈Region.ready .any (jD ops j i) listed):k∈Region.ready .any ops listed:=by
  obtain ⟨h1,o,ho,hall⟩:=mem_ready.1 h
  by_cases e:k=j
  ·subst e
   cases hk:ops[k]? with
   | none =>
     have:(jD ops k i).size≤k:=by rw [za]; exact Array.getElem?_eq_none_iff.1 hk
     rw [Array.getElem?_eq_none this] at ho; cases ho
   | some o' =>
     rw [jaS ops hk] at ho
     cases ho
     exact mem_ready.2 ⟨h1,o',hk,fun e he=>hall e (by simp [he])⟩
  ·rw [JJ ops e] at ho;exact mem_ready.2 ⟨h1,o,ho,hall⟩
theorem qM {ops:Array Oper} {i j k:Nat} {listed:Array Bool} (h:k∈Region.ready .any ops listed) (hk:k≠j∨listed.getD i false=true):k∈Region.ready .any (jD ops j i) listed:=by
  obtain ⟨h1,o,ho,hall⟩:=mem_ready.1 h
  by_cases e:k=j
  ·subst e;have hi:=hk.resolve_left (fun h=>h rfl);refine mem_ready.2 ⟨h1,_,jaS ops ho,fun e he hb => ?_⟩;simp only [Array.mem_push] at he;rcases he with he | rfl
   ·exact hall e he hb
   ·exact hi
  ·exact mem_ready.2 ⟨h1,o,by rw [JJ ops e]; exact ho,hall⟩
section
variable {P:Program} {Z:ZZ} {ops:Array Oper} {cs:List CO} {Q:Ff→Store→Prop}
theorem set_true_i {listed:Array Bool} {i k:Nat} (h:listed.getD i false=true):(listed.setIfInBounds k true).getD i false=true:=by
  by_cases e:k=i
  ·subst e;have:k<listed.size:=by
     rcases Nat.lt_or_ge k listed.size with h' | h'
     ·exact h'
     ·simp [Array.getElem?_eq_none h'] at h
   simp [this]
  ·rw [getD_set_ne false e]; exact h
theorem KG {i j:Nat} : ∀ (n:Nat) (listed:Array Bool) (τ:Ff) (S:Store),listed.getD i false=true→anyZ P Z (jD ops j i) cs Q n listed τ S→anyZ P Z ops cs Q n listed τ S
  | 0,listed,τ,S,hi,h=>⟨List.eq_nil_iff_forall_not_mem.2 fun k hk=>(by have:=qM (i:=i) (j:=j) hk (.inr hi); rw [h.1] at this; cases this),h.2⟩
  | n+1,listed,τ,S,hi,h=>by
    refine ⟨fun h0=>h.1 (List.eq_nil_iff_forall_not_mem.2 fun k hk=>by have:=jae hk; rw [h0] at this; cases this),fun k hk => ?_⟩;exact Yc (fun τ S=>KG n _ τ S (set_true_i hi)) (h.2 k (qM hk (.inr hi)))
theorem jbh {o:CO} {v v':V} {τ:Ff} {S S1 S1':Store} (hc:o.op.isCall=false) (h:KU P Z o v τ S S1) (h':KU P Z o v' τ S S1'):v=v'∧S1=S1':=by
  have rd : ∀ {Y:Store} {v v':V},Ju P Y τ o.op v→Ju P Y τ o.op v'→v=v':=by
    intro Y v v' h h'
    cases hop:o.op with
    | call f a=>rw [hop] at hc; simp [COp.isCall] at hc
    | callv f a=>rw [hop] at hc; simp [COp.isCall] at hc
    | _ =>
      rw [hop] at h h';simp only [Ju] at h h';obtain ⟨Z1,e1⟩:=h;obtain ⟨Z2,e2⟩:=h';rw [e1] at e2;exact (Prod.mk.inj (Option.some.inj e2)).1
  rcases h with ⟨w1,h⟩ | ⟨w1,rfl,rfl⟩
  ·rcases h' with ⟨w2,h'⟩ | ⟨w2,_,_⟩
   ·rcases h with ⟨r1,rfl,k1⟩ | ⟨r1,k1,_⟩
    ·rcases h' with ⟨r2,rfl,k2⟩ | ⟨r2,k2,_⟩
     ·exact ⟨rd k1 k2,rfl⟩
     ·rw [r1] at r2; cases r2
    ·rcases h' with ⟨r2,rfl,k2⟩ | ⟨r2,k2,_⟩
     ·rw [r1] at r2; cases r2
     ·have wv : ∀ {v:V} {S1:Store},zF P (trnL Z.es o.dst) τ S o.op v S1→jn (evf τ) S o.op=some (v,S1):=by
        intro v S1 h
        cases hop:o.op with
        | call f a=>rw [hop] at hc; simp [COp.isCall] at hc
        | callv f a=>rw [hop] at hc; simp [COp.isCall] at hc
        | _=>rw [hop] at h; exact h
      have e1:=wv k1;have e2:=wv k2;rw [e1] at e2; cases e2; exact ⟨rfl,rfl⟩
   ·rw [w1] at w2; cases w2
  ·rcases h' with ⟨w2,h'⟩ | ⟨w2,rfl,rfl⟩
   ·rw [w1] at w2; cases w2
   ·exact ⟨rfl,rfl⟩
theorem anyZ_two {i j:Nat} (hij:i≠j) (hdet : ∀ (k:Nat) o,cs[k]? = some o→o.op.isCall=false) (hlen:cs.length=ops.size) : ∀ (n:Nat) (listed:Array Bool) (τ:Ff) (S:Store),listed.getD i true=false→listed.getD j true=false →
    anyZ P Z (jD ops j i) cs Q n listed τ S→anyZ P Z (jD ops i j) cs Q n listed τ S→anyZ P Z ops cs Q n listed τ S
  | 0,listed,τ,S,hi,hj,h1,h2=>⟨List.eq_nil_iff_forall_not_mem.2 fun k hk=>(by
      by_cases e:k=j
      ·have:=qM (i:=j) (j:=i) hk (.inl (by omega)); rw [h2.1] at this; cases this
      ·have:=qM (i:=i) (j:=j) hk (.inl e); rw [h1.1] at this; cases this),h1.2⟩
  | n+1,listed,τ,S,hi,hj,h1,h2=>by
    have lt : ∀ {k:Nat},listed.getD k true=false→(listed.setIfInBounds k true).getD k false=true:=by
      intro k hk;have:k<listed.size:=by
        rcases Nat.lt_or_ge k listed.size with h' | h'
        ·exact h'
        ·simp [Array.getElem?_eq_none h'] at hk
      simp [this]
    refine ⟨fun h0=>h1.1 (List.eq_nil_iff_forall_not_mem.2 fun k hk=>by have:=jae hk; rw [h0] at this; cases this),fun k hk => ?_⟩
    by_cases ei:k=i
    ·subst ei;exact Yc (fun τ S=>KG n _ τ S (lt hi)) (h1.2 k (qM hk (.inl hij)))
    by_cases ej:k=j
    ·subst ej;exact Yc (fun τ S=>KG n _ τ S (lt hj)) (h2.2 k (qM hk (.inl ei)))
    have k1:=h1.2 k (qM hk (.inl ej));have k2:=h2.2 k (qM hk (.inl ei));obtain ⟨_,o',ho',_⟩:=mem_ready.1 hk;have hlt:k<cs.length:=by rw [hlen]; exact (Array.getElem?_eq_some_iff.1 ho').1
    have hok:cs[k]? = some cs[k]:=List.getElem?_eq_getElem hlt;simp only [atZ,hok] at k1 k2 ⊢;rw [qP] at k1 k2 ⊢;obtain ⟨v,S1,y1,n1⟩:=k1;obtain ⟨v',S1',y2,n2⟩:=k2;obtain ⟨rfl,rfl⟩:=jbh (hdet k _ hok) y1 y2;exact ⟨v,S1,y1,anyZ_two hij hdet hlen n _ _ _ (by rw [getD_set_ne true ei]; exact hi) (by rw [getD_set_ne true ej]; exact hj) n1 n2⟩
theorem Jp {Q':Ff→Store→Prop} (hq : ∀ τ S,Q τ S→Q' τ S) : ∀ {l:List CO} {τ:Ff} {S:Store},Kq P Z Q l τ S→Kq P Z Q' l τ S
  | [],τ,S,h=>hq τ S h
  | o::r,τ,S,h=>by
    simp only [Kq] at h ⊢;rw [qP] at h ⊢;obtain ⟨v,S1,h1,h2⟩:=h;exact ⟨v,S1,h1,Jp hq h2⟩
def lexO (es ms:List Nat) (ops:Array Oper) (cs:List CO):List Nat→Array Bool→Bool
  | [],listed=>(Region.ready .any ops listed).isEmpty
  | k::ord,listed=>(Region.ready .any ops listed).contains k &&
      (match cs[k]? with
       | some oi=>(List.range cs.length).all fun j=>j==k||listed.getD j true||ZM ms k j||(match cs[j]? with
          | some oj=>oi.apart oj&&(isRd es oi||isRd es oj)
          | none=>true)
       | none=>false)&&lexO es ms ops cs ord (listed.setIfInBounds k true)
def Zo (cs:List CO) (ord:List Nat):List CO:=ord.filterMap fun k=>cs[k]?
theorem Yd (hlen:cs.length=ops.size) : ∀ (ord:List Nat) (listed:Array Bool) (τ:Ff) (S:Store),zn ops listed→lexO Z.es (zh ops) ops cs ord listed=true→Kq P Z Q (Zo cs ord) τ S→anyZ P Z ops cs Q ord.length listed τ S
  | [],_,_,_,_,hB,h=>⟨by simpa [lexO] using hB,h⟩
  | k::ord,listed,τ,S,hcl,hB,h=>by
    simp only [lexO,Bool.and_eq_true] at hB;obtain ⟨⟨hr,hf⟩,hB'⟩:=hB
    cases h0:cs[k]? with
    | none=>rw [h0] at hf; cases hf
    | some o =>
    have hp:Zo cs (k::ord)=o::Zo cs ord:=by simp [Zo,h0]
    rw [hp] at h;simp only [Kq] at h;rw [qP] at h;obtain ⟨v,S1,hy,hK⟩:=h;have hr':k∈Region.ready .any ops listed:=by simpa using hr
    refine YM h0 hlen ord.length listed τ S S1 hcl (fun j oj hj hne hun hno => ?_) hr' hy (Yd hlen ord _ _ _ (zU hcl hr') hB' hK);simp only [h0,List.all_eq_true,List.mem_range] at hf;have h1:=hf j (List.getElem?_eq_some_iff.1 hj).1;have hnm:ZM (zh ops) k j=false:=by
      cases hm:ZM (zh ops) k j with
      | false=>rfl
      | true=>obtain ⟨n,hn⟩:=JQ hm; rw [hno n] at hn; cases hn
    simp only [hj,Bool.or_eq_true,beq_iff_eq,hne,false_or,hun,Bool.false_eq_true,hnm,Bool.and_eq_true] at h1;exact h1
end
section
variable {P:Program} {N b:Nat} {Q:Exit→Fr→Store→Prop} {σ:Fr} {S:Store}
theorem jbR {id:Nat} {ops:Array Oper} {cs:List CO} {Z:ZZ} {i j:Nat} {ord1 ord2:List Nat} (hm:P.follows .mixedOrders=true) (hc:qv P N ops=some cs) (hnc:cs.all (fun o => !o.op.isCall)=true) (hij:i≠j) (hi:i<ops.size) (hj:j<ops.size)
    (hB1:lexO Z.es (zh (jD ops j i)) (jD ops j i) cs ord1 (Array.replicate ops.size false)=true) (hB2:lexO Z.es (zh (jD ops i j)) (jD ops i j) cs ord2 (Array.replicate ops.size false)=true)
    (hn1:ord1.length=ops.size) (hn2:ord2.length=ops.size) (hE:zN (zh ops) cs Z.es=true) (hz:Z.ok S) (h0:Z.z0.Sub S)
    (H1:Kq P Z (fun τ S => ∃ σ':Fr,σ'.look=τ∧Q .normal σ' S) (Zo cs ord1) σ.look S) (H2:Kq P Z (fun τ S => ∃ σ':Fr,σ'.look=τ∧Q .normal σ' S) (Zo cs ord2) σ.look S):VWp P N b (.region id ops true) Q σ S:=by
  intro m β w a hS hF;obtain ⟨hlen,_⟩:=jcz hc;refine wp_region_any hm ?_;have hcl : ∀ ops':Array Oper,ops'.size=ops.size→zn ops' (Array.replicate ops.size false):=by
    intro ops' he i o ho hi;have:i<ops'.size:=(Array.getElem?_eq_some_iff.1 ho).1;rw [he] at this;simp [this] at hi
  have a1:=Yd (P:=P) (Z:=Z) (ops:=jD ops j i) (by rw [za]; exact hlen) ord1 _ σ.look S (hcl _ (za _ _ _)) hB1 H1;have a2:=Yd (P:=P) (Z:=Z) (ops:=jD ops i j) (by rw [za]; exact hlen) ord2 _ σ.look S (hcl _ (za _ _ _)) hB2 H2;rw [hn1] at a1;rw [hn2] at a2;have:=anyZ_two hij (fun k o hk=>by
    simp only [List.all_eq_true] at hnc;have:=hnc o (List.mem_of_getElem? hk);simpa using this) hlen ops.size _ σ.look S (by simp [hi]) (by simp [hj]) a1 a2
  exact YL hc hE ops.size _ σ S m β _ a this (hcl ops rfl) hz (fun _=>h0) hS.drew hF ((Ext.drew m β w).toB b)
theorem KI {c c2:Code} {cs:List CO} {Q2:Exit→Fr→Store→Prop} {σm:Fr} {Sm:Store} (Z:ZZ) (i j:Nat) (ord1 ord2:List Nat) (h:Code.kind c=2) (hm:P.follows .mixedOrders=true) (hc:qv P N (Code.ops c)=some cs) (hnc:cs.all (fun o => !o.op.isCall)=true) (hij:i≠j)
    (hi:decide (i<(Code.ops c).size)=true) (hj:decide (j<(Code.ops c).size)=true)
    (hB1:lexO Z.es (zh (jD (Code.ops c) j i)) (jD (Code.ops c) j i) cs ord1 (Array.replicate (Code.ops c).size false)=true) (hB2:lexO Z.es (zh (jD (Code.ops c) i j)) (jD (Code.ops c) i j) cs ord2 (Array.replicate (Code.ops c).size false)=true)
    (hn1:ord1.length=(Code.ops c).size) (hn2:ord2.length=(Code.ops c).size) (hes:Z.es=[]) (hz:Z.ok S) (h0:Z.z0.Sub S)
    {cs1 cs2:List CO} (hp1:Zo cs ord1=cs1) (hp2:Zo cs ord2=cs2)
    (H1:jP P (some Z) cs1 (fun σ S=>Reach N b σ S σm Sm) σ S) (H2:jP P (some Z) cs2 (fun σ S=>Reach N b σ S σm Sm) σ S) (H:VWp P N b c2 Q2 σm Sm):VWp P N b c (Km (VWp P N b c2 Q2) Q) σ S:=by
  subst hp1;subst hp2
  cases c with
  | region id ops d =>
    cases d
    ·simp [Code.kind] at h
    ·refine jbR hm hc hnc hij (of_decide_eq_true hi) (of_decide_eq_true hj) hB1 hB2 hn1 hn2 (by rw [hes]; exact jaL _ _) hz h0 ?_ ?_
     ·exact Jp (fun τ S=>fun ⟨σ',e,hr⟩=>⟨σ',e,jo hr H⟩) (zq _ σ S H1)
     ·exact Jp (fun τ S=>fun ⟨σ',e,hr⟩=>⟨σ',e,jo hr H⟩) (zq _ σ S H2)
  | _=>simp [Code.kind] at h
end
/-! ### .. behind a part that stands in the order of the text -/
section
variable {P:Program} {Z:ZZ} {ops:Array Oper} {cs:List CO} {Q:Ff→Store→Prop}
def jav (es ms:List Nat) (ops:Array Oper) (cs:List CO):Nat→Nat→Array Bool→Bool
  | 0,_,_=>true
  | n+1,k,listed=>(Region.ready .any ops listed).contains k &&
      (match cs[k]? with
       | some oi=>(List.range cs.length).all fun j=>j==k||listed.getD j true||ZM ms k j||(match cs[j]? with
          | some oj=>oi.apart oj&&(isRd es oi||isRd es oj)
          | none=>true)
       | none=>false)&&jav es ms ops cs n (k+1) (listed.setIfInBounds k true)
def zH:Nat→Nat→Array Bool→Array Bool
  | 0,_,l=>l
  | n+1,k,l=>zH n (k+1) (l.setIfInBounds k true)
theorem anyZ_pre (hlen:cs.length=ops.size) {fuel:Nat} : ∀ (l:List CO) (k:Nat) (listed:Array Bool) (τ:Ff) (S:Store),(∀ j<l.length,l[j]? = cs[k+j]?)→zn ops listed→jav Z.es (zh ops) ops cs l.length k listed=true →
    Kq P Z (fun τ S=>anyZ P Z ops cs Q fuel (zH l.length k listed) τ S) l τ S→anyZ P Z ops cs Q (fuel+l.length) listed τ S
  | [],_,_,_,_,_,_,_,h=>h
  | o::l,k,listed,τ,S,hl,hcl,hB,h=>by
    have h0:cs[k]? = some o:=by simpa using (hl 0 (by simp)).symm
    simp only [List.length_cons,jav,Bool.and_eq_true,h0] at hB;obtain ⟨⟨hr,hf⟩,hB'⟩:=hB;simp only [Kq] at h;rw [qP] at h;obtain ⟨v,S1,hy,hK⟩:=h;have hr':k∈Region.ready .any ops listed:=by simpa using hr
    refine YM h0 hlen (fuel+l.length) listed τ S S1 hcl (fun j oj hj hne hun hno => ?_) hr' hy (anyZ_pre hlen l (k+1) _ _ _ (fun j hj=>by have:=hl (j+1) (by simp; omega); simpa [Nat.add_assoc,Nat.add_comm 1 j] using this) (zU hcl hr') hB' hK);simp only [List.all_eq_true,List.mem_range] at hf;have h1:=hf j (List.getElem?_eq_some_iff.1 hj).1;have hnm:ZM (zh ops) k j=false:=by
      cases hm:ZM (zh ops) k j with
      | false=>rfl
      | true=>obtain ⟨n,hn⟩:=JQ hm; rw [hno n] at hn; cases hn
    simp only [hj,Bool.or_eq_true,beq_iff_eq,hne,false_or,hun,Bool.false_eq_true,hnm,Bool.and_eq_true] at h1;exact h1
theorem Zi (hlen:cs.length=ops.size) {es:List Nat} : ∀ (n k:Nat) (listed:Array Bool),zn ops listed→jav es (zh ops) ops cs n k listed=true→zn ops (zH n k listed)
  | 0,_,_,h,_=>h
  | n+1,k,listed,h,hB=>by
    simp only [jav,Bool.and_eq_true] at hB;exact Zi hlen n (k+1) _ (zU h (by simpa using hB.1.1)) hB.2
theorem WZ {listed:Array Bool} {i j:Nat} (h:zn ops listed) (hj:listed.getD j true=false):zn (jD ops j i) listed:=by
  intro k o ho hk
  by_cases e:k=j
  ·subst e; rw [hj] at hk; cases hk
  ·rw [JJ ops e] at ho;exact h k o ho hk
theorem anyZ_twoL {i j:Nat} (hij:i≠j) (hlen:cs.length=ops.size) : ∀ (n:Nat) (listed:Array Bool) (τ:Ff) (S:Store),(∀ (k:Nat) o,cs[k]? = some o→k≠i→k≠j→listed.getD k true=false→o.op.isCall=false)→listed.getD i true=false→listed.getD j true=false →
    anyZ P Z (jD ops j i) cs Q n listed τ S→anyZ P Z (jD ops i j) cs Q n listed τ S→anyZ P Z ops cs Q n listed τ S
  | 0,listed,τ,S,_,hi,hj,h1,h2=>⟨List.eq_nil_iff_forall_not_mem.2 fun k hk=>(by
      by_cases e:k=j
      ·have:=qM (i:=j) (j:=i) hk (.inl (by omega)); rw [h2.1] at this; cases this
      ·have:=qM (i:=i) (j:=j) hk (.inl e); rw [h1.1] at this; cases this),h1.2⟩
  | n+1,listed,τ,S,hdet,hi,hj,h1,h2=>by
    have lt : ∀ {k:Nat},listed.getD k true=false→(listed.setIfInBounds k true).getD k false=true:=by
      intro k hk;have:k<listed.size:=by
        rcases Nat.lt_or_ge k listed.size with h' | h'
        ·exact h'
        ·simp [Array.getElem?_eq_none h'] at hk
      simp [this]
    refine ⟨fun h0=>h1.1 (List.eq_nil_iff_forall_not_mem.2 fun k hk=>by have:=jae hk; rw [h0] at this; cases this),fun k hk => ?_⟩
    by_cases ei:k=i
    ·subst ei;exact Yc (fun τ S=>KG n _ τ S (lt hi)) (h1.2 k (qM hk (.inl hij)))
    by_cases ej:k=j
    ·subst ej;exact Yc (fun τ S=>KG n _ τ S (lt hj)) (h2.2 k (qM hk (.inl ei)))
    have k1:=h1.2 k (qM hk (.inl ej));have k2:=h2.2 k (qM hk (.inl ei));obtain ⟨hun,o',ho',_⟩:=mem_ready.1 hk;have hlt:k<cs.length:=by rw [hlen]; exact (Array.getElem?_eq_some_iff.1 ho').1
    have hok:cs[k]? = some cs[k]:=List.getElem?_eq_getElem hlt;simp only [atZ,hok] at k1 k2 ⊢;rw [qP] at k1 k2 ⊢;obtain ⟨v,S1,y1,n1⟩:=k1;obtain ⟨v',S1',y2,n2⟩:=k2;obtain ⟨rfl,rfl⟩:=jbh (hdet k _ hok ei ej hun) y1 y2;refine ⟨v,S1,y1,anyZ_twoL hij hlen n _ _ _ (fun k' o hk' h3 h4 h5=>hdet k' o hk' h3 h4 ?_) (by rw [getD_set_ne true ei]; exact hi) (by rw [getD_set_ne true ej]; exact hj) n1 n2⟩
    by_cases e:k=k'
    ·subst e; exact hun
    ·rw [getD_set_ne true e] at h5; exact h5
end
section
variable {P:Program} {N b:Nat} {Q:Exit→Fr→Store→Prop} {σ:Fr} {S:Store}
def callsOk (cs:List CO) (i j n0:Nat):Bool:=(List.range cs.length).all fun k=>decide (k<n0)||k==i||k==j||(match cs[k]? with | some o => !o.op.isCall | none=>true)
theorem vw_drawSplit {c c2:Code} {cs:List CO} {Q2:Exit→Fr→Store→Prop} (Z:ZZ) (n0 i j:Nat) (ord1 ord2:List Nat) (h:Code.kind c=2) (hm:P.follows .mixedOrders=true) (hc:qv P N (Code.ops c)=some cs) (hnc:callsOk cs i j n0=true) (hij:i≠j)
    (hp:jav Z.es (zh (Code.ops c)) (Code.ops c) cs n0 0 (Array.replicate (Code.ops c).size false)=true)
    (hi:(zH n0 0 (Array.replicate (Code.ops c).size false)).getD i true=false) (hj:(zH n0 0 (Array.replicate (Code.ops c).size false)).getD j true=false)
    (hu:(List.range n0).all (fun k=>(zH n0 0 (Array.replicate (Code.ops c).size false)).getD k true)=true)
    (hB1:lexO Z.es (zh (jD (Code.ops c) j i)) (jD (Code.ops c) j i) cs ord1 (zH n0 0 (Array.replicate (Code.ops c).size false))=true) (hB2:lexO Z.es (zh (jD (Code.ops c) i j)) (jD (Code.ops c) i j) cs ord2 (zH n0 0 (Array.replicate (Code.ops c).size false))=true)
    (hn0:decide (n0≤(Code.ops c).size)=true) (hn1:ord1.length+n0=(Code.ops c).size) (hn2:ord2.length+n0=(Code.ops c).size) (hE:zN (zh (Code.ops c)) cs Z.es=true) (hz:Z.ok S) (h0:Z.z0.Sub S)
    {cs0 cs1 cs2:List CO} (hp0:cs.take n0=cs0) (hp1:Zo cs ord1=cs1) (hp2:Zo cs ord2=cs2)
    (H:jP P (some Z) cs0 (fun σ S => ∃ σm Sm,VWp P N b c2 Q2 σm Sm∧jP P (some Z) cs1 (fun σ S=>Reach N b σ S σm Sm) σ S∧jP P (some Z) cs2 (fun σ S=>Reach N b σ S σm Sm) σ S) σ S):VWp P N b c (Km (VWp P N b c2 Q2) Q) σ S:=by
  subst hp0;subst hp1;subst hp2
  cases c with
  | region id ops d =>
    cases d
    ·simp [Code.kind] at h
    ·intro m β w a hS hF;simp only [Code.ops] at *
     obtain ⟨hlen,_⟩:=jcz hc;refine wp_region_any hm ?_;have hcl:zn ops (Array.replicate ops.size false):=by
       intro i o ho hi;have:i<ops.size:=(Array.getElem?_eq_some_iff.1 ho).1;simp [this] at hi
     have hle:n0≤cs.length:=by rw [hlen]; exact of_decide_eq_true hn0
     have hl0:(cs.take n0).length=n0:=by rw [List.length_take,Nat.min_eq_left hle]
     have hcl1:=Zi hlen n0 0 _ hcl hp;have key:Kq P Z (fun τ S=>anyZ P Z ops cs (fun τ S => ∃ σ':Fr,σ'.look=τ∧(Km (VWp P N b c2 Q2) Q) .normal σ' S) ord1.length (zH n0 0 (Array.replicate ops.size false)) τ S) (cs.take n0) σ.look S:=by
       refine Jp (fun τ S => ?_) (zq _ σ S H);rintro ⟨σ1,rfl,σm,Sm,hQ,H1,H2⟩;have a1:=Yd (P:=P) (Z:=Z) (Q:=fun τ S => ∃ σ':Fr,σ'.look=τ∧(Km (VWp P N b c2 Q2) Q) .normal σ' S) (ops:=jD ops j i) (by rw [za]; exact hlen) ord1 _ σ1.look S (WZ hcl1 hj) hB1 (Jp (fun τ S=>fun ⟨σ',e,hr⟩=>⟨σ',e,jo hr hQ⟩) (zq _ σ1 S H1));have a2:=Yd (P:=P) (Z:=Z) (Q:=fun τ S => ∃ σ':Fr,σ'.look=τ∧(Km (VWp P N b c2 Q2) Q) .normal σ' S) (ops:=jD ops i j) (by rw [za]; exact hlen) ord2 _ σ1.look S (WZ hcl1 hi) hB2 (Jp (fun τ S=>fun ⟨σ',e,hr⟩=>⟨σ',e,jo hr hQ⟩) (zq _ σ1 S H2));rw [show ord2.length=ord1.length by omega] at a2;refine anyZ_twoL hij hlen ord1.length _ σ1.look S (fun k o hk h3 h4 h5 => ?_) hi hj a1 a2;simp only [callsOk,List.all_eq_true,List.mem_range] at hnc;have hh:=hnc k (List.getElem?_eq_some_iff.1 hk).1
       have h6 : ¬ k<n0:=fun h6=>by
         simp only [List.all_eq_true,List.mem_range] at hu;rw [hu k h6] at h5; cases h5
       simpa [h6,h3,h4,hk] using hh
     have:=anyZ_pre (P:=P) (Z:=Z) hlen (cs.take n0) 0 (Array.replicate ops.size false) σ.look S (fun q hq=>by rw [Nat.zero_add,List.getElem?_take,if_pos (by omega)]) hcl (by rw [hl0]; exact hp) (by rw [hl0]; exact key);rw [hl0,hn1] at this;exact YL hc hE ops.size _ σ S m β _ a this hcl hz (fun _=>h0) hS.drew hF ((Ext.drew m β w).toB b)
  | _=>simp [Code.kind] at h
end
theorem zu {N b:Nat} {σ σ':Fr} {S:Store} (ks:List Nat) (h:σ.only ks=σ'):Reach N b σ S σ' S:=by subst h; exact Reach.only ks
theorem zD {N:Nat} {σ σ1 σ':Fr} {B:Store} {u u':Upds} {l l':List (Option (Nat × List V))} (ks gs:List Nat) (hσ1:σ.only ks=σ1) (hw:B.Wf) (h1:gs.Nodup) (h2:(Kn B.nx gs u&&YD B.nx gs l gs&&idsF (gcP B.nx gs) σ1)=true)
    (hu:gcU B.nx gs u=u') (hl:gcL B.nx gs l gs=l') (hσ:renF (gcTo B.nx gs) σ1=σ'):Reach N B.nx σ (St B u l) σ' (St B u' l') :=
  (zu ks hσ1).trans (Reach.gc gs hw h1 h2 hu hl hσ)
end Go.Vw
/-
 Functions whose results lie in cells; objects of one's own that become immutable.
-/
namespace Go.Vw
open Go.RowKit
section
variable {P:Program} {N:Nat} {S:Store} {m:Imm} {β:Objs} {w:World} {σ:Fr} {a:Act}
theorem load_run {t:TypeId} {q:Nat} {sz:Option Nat} {x:V} (hsz:Program.szOf P t=some sz) (hS:Holds S m β w) (hF:FrameRep N m β σ a) (he:Jw sz S (σ.look q)=some x) :
  ∃ ad u,a.tmps.getD q undef = .pointer (some ad)∧(loadVar t ad).run P w = .ok u w∧Rep m β x u:=by
 have hr:=hF.rep q;generalize σ.look q=p at he hr
 cases p with
 | ref x' =>
  simp only [Jw] at he;split at he
  ·rename_i hok
   cases he
   obtain ⟨u,b,off,arr,T,fz,e,hm,hu,hc⟩:=hr.inv_ref;refine ⟨_,u,e,qB hsz (hS.imm _ _ hm) u ?_ hc, .imm hu⟩;refine ⟨fun n hn => ?_,fun hn => ?_⟩
   ·subst hn
    cases x<;>simp [okSz] at hok
    cases hu with | agg xs vs hl _ _=>exact ⟨vs,rfl,by omega⟩
   ·subst hn;simp only [okSz] at hok;have:=(Rep.imm (β:=β) hu).oneCell hok
    cases u<;>first | rfl | simp [Value.oneCell'] at this
  ·cases he
 | ptr o' off =>
  simp only [Jw] at he
  cases hc:S.get o' with
  | none=>simp [hc] at he
  | some c =>
   simp only [hc] at he;obtain ⟨b,base,s,n,hob,e⟩:=hr.inv_ptr (hS.alive hc);obtain ⟨_,arr,T,h1,h2,h3,h4⟩:=hS.cells_at hc hob
   cases sz with
   | none =>
    simp only [WK] at he;obtain ⟨v,hv,hrv,hone⟩:=h4 off x he;have ec:v.cells = #[v]:=by cases v<;>first | rfl | simp [Value.oneCell'] at hone
    refine ⟨_,v,e,qB hsz h1 v ⟨(by intro n hn; cases hn),fun _=>ec⟩ fun j c' hj => ?_,hrv⟩;rw [ec] at hj
    cases j with
    | zero=>simp at hj; subst hj; simpa using hv
    | succ j=>simp at hj
   | some k =>
    simp only [WK] at he;split at he
    ·rename_i hle
     cases he
     obtain ⟨vs,hl,hcs,hrl,hone⟩:=Jr h4 off k hle;refine ⟨_, .agg vs.toArray,e,qB hsz h1 _ ⟨(by intro n hn; cases hn; exact ⟨vs,rfl,hl⟩),(by intro hn; cases hn)⟩ fun j c' hj => ?_, .agg _ vs hrl.1 hrl.2 hone⟩;exact hcs j c' (by simpa [Value.cells] using hj)
    ·cases he
 | _=>simp [Jw] at he
def resC1 (P:Program):ResultVar→Option (Nat × Option (Option Nat))
 | .tmp t=>some (t,none)
 | .cell q t=>(Program.szOf P t).map fun sz=>(q,some sz)
def resC (P:Program) (fn:Func):Option (List (Nat × Option (Option Nat))):=fn.results.toList.mapM (resC1 P)
def resL1 (S:Store) (σ:Fr):Nat × Option (Option Nat)→Option V
 | (t,none)=>some (σ.look t)
 | (t,some sz)=>Jw sz S (σ.look t)
def resL (S:Store) (σ:Fr):List (Nat × Option (Option Nat))→Option (List V)
 | []=>some []
 | r::rs=>match resL1 S σ r,resL S σ rs with
  | some x,some xs=>some (x::xs)
  | _,_=>none
def tupV:List V→V
 | [x]=>x
 | xs => .tuple xs
def bodyC (rs:List (Nat × Option (Option Nat))) (R:V→Store→Prop):Exit→Fr→Store→Prop
 | .normal,σ,S => ∃ xs,resL S σ rs=some xs∧R (tupV xs) S
 | .ret,σ,S => ∃ xs,resL S σ rs=some xs∧R (tupV xs) S
 | _,_,_=>False
theorem YW {fn:Func} {rs:List (Nat × Option (Option Nat))} (h:resC P fn=some rs) (hS:Holds S m β w) (hF:FrameRep N m β σ a) {xs:List V} (hx:resL S σ rs=some xs) : ∃ v,(results fn a.tmps).run P w = .ok v w∧Rep m β (tupV xs) v:=by
 have gen : ∀ (l:List ResultVar) (rs:List (Nat × Option (Option Nat))) (xs:List V),l.mapM (resC1 P)=some rs→resL S σ rs=some xs →
   ∃ vs:List Value,(l.mapM fun r=>(match r with
    | .tmp t=>pure (a.tmps.getD t undef)
    | .cell q t=>do loadVar t (←asAddr (a.tmps.getD q undef)):Sem Value)).run P w = .ok vs w∧RepL m β xs vs:=by
  intro l
  induction l with
  | nil=>intro rs xs h hx; simp at h; subst h; simp only [resL,Option.some.injEq] at hx; subst hx; exact ⟨[],rfl,RepL.nil _ _⟩
  | cons r l ih =>
   intro rs xs h hx;simp only [List.mapM_cons,Option.bind_eq_bind,Option.bind_eq_some_iff] at h;obtain ⟨b,hb,r',hr',h⟩:=h;simp at h; subst h;simp only [resL] at hx;split at hx
   ·rename_i x xs' h1 h2
    cases hx
    obtain ⟨vs,k1,k2⟩:=ih r' xs' hr' h2
    cases r with
    | tmp t =>
     simp only [resC1,Option.some.injEq] at hb;subst hb;simp only [resL1,Option.some.injEq] at h1;subst h1;refine ⟨a.tmps.getD t undef::vs, ?_, .cons (hF.rep t) k2⟩;rw [List.mapM_cons,Sem.run_bind,Sem.run_pure,Result.andThen_ok,Sem.run_bind,k1]
     rfl
    | cell q t =>
     simp only [resC1] at hb;obtain ⟨sz,hsz,e⟩:=Option.map_eq_some_iff.1 hb;subst e;simp only [resL1] at h1;obtain ⟨ad,u,e1,e2,e3⟩:=load_run hsz hS hF h1;refine ⟨u::vs, ?_, .cons e3 k2⟩;have e4:((do loadVar t (←asAddr (a.tmps.getD q undef))):Sem Value).run P w = .ok u w:=by
      rw [e1,show asAddr (.pointer (some ad))=pure ad from rfl,pure_bind,e2]
     rw [List.mapM_cons,Sem.run_bind,e4,Result.andThen_ok,Sem.run_bind,k1]
     rfl
   ·cases hx
 obtain ⟨vs,h1,hl,h2⟩:=gen fn.results.toList rs xs h hx;have hrun:(results fn a.tmps).run P w = .ok (if h:vs.toArray.size=1 then vs.toArray[0] else .tuple vs.toArray) w:=by
  unfold results;rw [Sem.run_bind,Array.mapM_eq_mapM_toList,Sem.run_map]
  erw [h1]
  rfl
 refine ⟨_,hrun, ?_⟩
 match xs,vs,hl,h2 with
 | [x],[v],_,h2=>exact h2 0 x v rfl rfl
 | [],[],_,_=>exact zJ m β
 | x::y::xs,u::v::vs,hl,h2 =>
  rw [dif_neg (by simp)];exact .tuple _ _ hl h2
theorem vcalls_bodyC {f:FuncId} {fn:Func} {c:Code} {rs:List (Nat × Option (Option Nat))} {args:List V} {R:V→Store→Prop} (hf:P.funcs[f]? = some fn) (hb:fn.body=some c) (ht:resC P fn=some rs) (hn:args.length≤fn.ntmps)
  (h:VWp P fn.ntmps S.nx c (bodyC rs R) (Ki 0 args) S):VCalls P f args S R:=by
 intro m β w vs hS hr;refine calls_of_wp hf hb ?_;have hF:FrameRep fn.ntmps m β (Ki 0 args) { tmps:=vs.toArray++Array.replicate (fn.ntmps-vs.toArray.size) undef,defers:=[] }:=by
  have hl:=hr.1;refine ⟨by simp; omega,rfl,fun t => ?_⟩;rw [Wk];simp only [Nat.zero_le,if_true,Nat.sub_zero]
  cases hx:args[t]? with
  | none=>exact .junk _
  | some x =>
   have hlt:t<vs.length:=by rw [←hl]; exact (List.getElem?_eq_some_iff.1 hx).1
   have:(vs.toArray++Array.replicate (fn.ntmps-vs.toArray.size) undef).getD t undef=vs[t]:=by
    simp [Array.getD_eq_getD_getElem?,Array.getElem?_append,hlt]
   simp only [this,Option.getD_some];exact hr.2 t x _ hx (List.getElem?_eq_getElem hlt)
 refine wp_mono (h m β w _ hS hF) ?_;rintro e a' w' ⟨σ',S',m',β',q,r1,r2,r3⟩;have back:ExtB S.nx m β w m' β' w'→Ext m β w m' β' w':=fun h=>⟨h.imm,fun o ho=>h.step o (by
  rcases Nat.lt_or_ge o S.nx with hl | hl
  ·exact hl
  ·exact absurd ((hS.fresh o).2 hl) ho) ho,h.size,h.keep,h.os,h.tape,h.output⟩
 cases e with
 | normal =>
  obtain ⟨xs,q1,q2⟩:=q;obtain ⟨v,hv,hrv⟩:=YW (P:=P) ht r1 r2 q1;exact ⟨r2.defers,v,hv,v,_,S',m',β',rfl,q2,hrv,r1,back r3⟩
 | ret =>
  obtain ⟨xs,q1,q2⟩:=q;obtain ⟨v,hv,hrv⟩:=YW (P:=P) ht r1 r2 q1;exact ⟨r2.defers,v,hv,v,_,S',m',β',rfl,q2,hrv,r1,back r3⟩
 | _=>exact q.elim
theorem qd {f:FuncId} {fn:Func} {c:Code} {rs:List (Nat × Option (Option Nat))} {args:List V} {R:V→Store→Prop} (hf:P.funcs[f]? = some fn) (hb:fn.body=some c) (ht:resC P fn=some rs) (hn:args.length≤fn.ntmps)
  (h:S.Wf→VWp P fn.ntmps S.nx c (bodyC rs (Yg S.nx R)) (Ki 0 args) (St S [] [])):VCalls P f args S R:=by
 refine zG fun hwf=>qT (vcalls_bodyC hf hb ht hn ?_)
 have:=h hwf;rw [qF hwf] at this;exact this
theorem Zp {rs:List (Nat × Option (Option Nat))} {R:V→Store→Prop} {xs:List V} (h:resL S σ rs=some xs) (hR:R (tupV xs) S) : ∃ xs,resL S σ rs=some xs∧R (tupV xs) S:=⟨xs,h,hR⟩
end
theorem resL_nil (S:Store) (σ:Fr):resL S σ []=some []:=nr rfl
def consO:Option V→Option (List V)→Option (List V)
 | some x,some xs=>some (x::xs)
 | _,_=>none
theorem resL_cons (S:Store) (σ:Fr) (r) (rs):resL S σ (r::rs)=consO (resL1 S σ r) (resL S σ rs):=nr rfl
theorem consO_some (x:V) (xs:List V):consO (some x) (some xs)=some (x::xs):=nr rfl
theorem resL1_t (S:Store) (σ:Fr) (t:Nat):resL1 S σ (t,none)=some (σ.look t):=nr rfl
theorem resL1_c (S:Store) (σ:Fr) (t:Nat) (sz:Option Nat):resL1 S σ (t,some sz)=Jw sz S (σ.look t):=nr rfl
theorem jbl (x:V):tupV [x]=x:=nr rfl
theorem tupV_2 (x y:V) (r:List V):tupV (x::y::r) = .tuple (x::y::r):=nr rfl
attribute [simp] resL_nil resL_cons consO_some resL1_t resL1_c jbl tupV_2
theorem Ghost.refS {S:Store} {o s:Nat} {cs:List V} (hc:S.get o=some (s,cs)) (h1:cs.all V.closed1=true) (hne:cs≠[]):Ghost (.ptr o 0) S (.ref (.agg cs)) (S.del o):=by
 intro m β w v hS hr;obtain ⟨b,base,s',n,hob,rfl⟩:=hr.inv_ptr (hS.alive hc);obtain ⟨_,arr,T,e1,e2,e3,e4⟩:=hS.cells_at hc hob;obtain ⟨k1,k2⟩:=hS.freeze hc hob e1;obtain ⟨vs,hl,hcs,hrl,hone⟩:=Jr e4 0 cs.length (by simp);simp only [List.drop_zero,List.take_length] at hrl;have hall : ∀ x∈cs,x.closed1=true:=by simpa using h1
 refine ⟨_,_,k1,k2, .imm (.ref (.agg cs) (.agg vs.toArray) b (base+0) arr T (0,0) (by simp [Imm.set]) (.agg cs vs hrl.1 (fun i x u hx hu=>((hrl.2 i x u hx hu).closed1 (hall x (List.mem_of_getElem? hx))).mono k2.imm) hone) fun j c hj => ?_)⟩;exact hcs j c (by simpa [Value.cells] using hj)
theorem refSt {B:Store} {u:Upds} {l:List (Option (Nat × List V))} {k s:Nat} {cs:List V} (hk:k<l.length) (hc:(l[k]?).join=some (s,cs)) (hcl:cs.all V.closed1=true) (hne:cs≠[]) :
  Ghost (.ptr (lid B.nx k) 0) (St B u l) (.ref (.agg cs)) (St B u (l.set k none)):=by
 rw [←jbP hk];exact Ghost.refS (by rw [jv]; exact hc) hcl hne
theorem QH {P:Program} {N b:Nat} {Q:Exit→Fr→Store→Prop} {σ σ':Fr} {B:Store} {u:Upds} {l l':List (Option (Nat × List V))} {c:Code} {s:Nat} {cs:List V} (t k:Nat) (H:VWp P N b c Q σ' (St B u l')) (hx:σ.look t=.ptr (lid B.nx k) 0:=by exact rfl) (hk:k<l.length:=by simp) (hc:(l[k]?).join=some (s,cs):=by exact rfl) (hcl:cs.all V.closed1=true:=by exact rfl) (hne:cs≠[]:=by simp) (hs:σ.set t (.ref (.agg cs))=σ':=by conv=>lhs; simp [Fr.set]) (hl:l.set k none=l':=by conv=>lhs; simp only [List.set_cons_succ,List.set_cons_zero]):VWp P N b c Q σ (St B u l):=jx t hx (refSt hk hc hcl hne) hs (by rw [hl]; exact H)
end Go.Vw
namespace Ss
def isKind (t:Int):Bool:=decide (t=127)||decide (t=126)
def kinds (most:Nat) (l:List Int):Bool:=decide (l.length≤most)&&l.all isKind
def Sig.right (s:Sig):Bool:=kinds 8 s.inn&&kinds 8 s.out
def Env.right (e:Env):Bool:=decide (0≤e.imports)&&decide (e.imports≤e.sigs.length)&&decide (e.sigs.length≤64)&&decide (e.muts.length=e.globals.length)&&kinds 32 e.globals&&e.sigs.all Sig.right
end Ss
namespace Go.Vw
open Go.Proofs Go.RowKit
attribute [-simp] List.map_set
theorem isKind_v (t:Int):VPure Tryz.prog 101 [vint t] (.bool (Ss.isKind t)):=by
 intro S;refine QB (c:=jd Tryz.f101) Tryz.func101 Tryz.ntmps101 fun hwf=>?_
 by_cases h:t=127
 ·repeat first|refine QG ?_|refine QY ?_ (r:=by conv=>lhs;simp[QV,h])
  exact ja hwf (by simp [Ss.isKind,h]) rfl
 ·repeat first|refine QG ?_|refine QY ?_ (r:=by conv=>lhs;simp[QV,h])
  exact ja hwf (by simp [Ss.isKind,h]) rfl
theorem kinds1_v (t:Int):VPure Tryz.prog 100 ([vint t]++[]) (.bool (!Ss.isKind t)):=by
 intro S;refine QB (c:=jd Tryz.f100) Tryz.func100 Tryz.ntmps100 fun hwf=>?_
 repeat first|refine QG ?_|refine QY ?_
 refine QT ?_;refine QP ?_;refine QL (isKind_v t) ?_;refine QW ?_
 repeat first|refine QG ?_|refine QY ?_
 exact ja hwf rfl rfl
theorem jcr (most:Nat) (l:List Int) (hl:l.length<2^63):VPure Tryz.prog 65 [vnat most,vl vint l] (.bool (Ss.kinds most l)):=by
 intro S;have e:(!l.any fun t => !Ss.isKind t)=l.all Ss.isKind:=by
  rw [List.not_any_eq_all_not]; congr 1; funext t; simp
 by_cases h:l.length≤most
 ·have h':(l.length:Int)≤(most:Int):=by omega
  have hX:Ss.kinds most l = !l.any fun t => !Ss.isKind t:=by rw [e]; simp [Ss.kinds,h]
  rw [hX];refine QB (c:=jd Tryz.f65) Tryz.func65 Tryz.ntmps65 fun hwf=>?_
  repeat first|refine QG ?_|refine QY ?_ (r:=by conv=>lhs;simp[QV,h,h'])
  refine QT ?_;refine QP ?_ (r:=by conv=>lhs;simp[QV,h,h']);refine QL (AnyI_v l (fun t => !Ss.isKind t) _ [] rfl hl (fun t _=>kinds1_v t)) ?_;refine QW ?_
  repeat first|refine QG ?_|refine QY ?_
  exact ja hwf (by simp) rfl
 ·have h' : ¬ (l.length:Int)≤(most:Int):=by omega
  have hX:Ss.kinds most l=false:=by simp [Ss.kinds,h]
  rw [hX];refine QB (c:=jd Tryz.f65) Tryz.func65 Tryz.ntmps65 fun hwf=>?_
  repeat first|refine QG ?_|refine QY ?_ (r:=by conv=>lhs;simp[QV,h,h'])
  exact ja hwf rfl rfl
theorem jbn (s:Ss.Sig) (hs:s.Fits):VPure Tryz.prog 66 [jC s] (.bool s.right):=by
 intro S;obtain ⟨⟨h1,_⟩,⟨h2,_⟩⟩:=hs;obtain ⟨a,b⟩:=s;simp only at h1 h2;have hX:Ss.Sig.right ⟨a,b⟩=(Ss.kinds 8 a&&Ss.kinds 8 b):=rfl;rw [hX];have c1:VPure Tryz.prog 65 [.int .i64 8,vl vint a] (.bool (Ss.kinds 8 a)):=jcr 8 a (by omega);have c2:VPure Tryz.prog 65 [.int .i64 8,vl vint b] (.bool (Ss.kinds 8 b)):=jcr 8 b (by omega);generalize Ss.kinds 8 a=x at *
 generalize Ss.kinds 8 b=y at *
 refine QB (c:=jd Tryz.f66) Tryz.func66 Tryz.ntmps66 fun hwf=>?_
 repeat first|refine QG ?_|refine QY ?_
 refine QT ?_;refine QP ?_;refine QL (c1) ?_
 by_cases hx:x=true
 ·refine QM (by conv=>lhs;simp[QV,hx]) ?_;refine QL (c2) ?_;refine QW ?_
  repeat first|refine QG ?_|refine QY ?_
  exact ja hwf (by simp [hx]) rfl
 ·have hx':x=false:=by simpa using hx
  refine QM (by conv=>lhs;simp[QV,hx']) ?_;refine QN ?_
  repeat first|refine QG ?_|refine QY ?_
  exact ja hwf (by simp [hx']) rfl
theorem envRight1_v (s:Ss.Sig) (hs:s.Fits):VPure Tryz.prog 98 ([jC s]++[]) (.bool (!s.right)):=by
 intro S;have c1:=jbn s hs;obtain ⟨a,b⟩:=s;have c1':VPure Tryz.prog 66 [.agg [vl vint a,vl vint b]] (.bool (Ss.Sig.right ⟨a,b⟩)):=c1;refine QB (c:=jd Tryz.f98) Tryz.func98 Tryz.ntmps98 fun hwf=>?_
 repeat first|refine QG ?_|refine QY ?_
 refine QT ?_;refine QP ?_;refine QL (c1') ?_;refine QW ?_
 repeat first|refine QG ?_|refine QY ?_
 exact ja hwf rfl rfl
theorem EnvRight_v (e:Ss.Env) (he:e.Fits):VPure Tryz.prog 63 [zk e] (.bool e.right):=by
 intro S;obtain ⟨⟨h1,h2⟩,_,⟨h4,_⟩,h5⟩:=he;obtain ⟨sg,im,gl,mu,me⟩:=e;simp only at h1 h2 h4 h5;have ea:(!sg.any fun s => !s.right)=sg.all Ss.Sig.right:=by
  rw [List.not_any_eq_all_not]; congr 1; funext t; simp
 have hX:Ss.Env.right ⟨sg,im,gl,mu,me⟩=(decide (0≤im)&&decide (im≤sg.length)&&decide (sg.length≤64)&&decide (mu.length=gl.length)&&Ss.kinds 32 gl && !sg.any fun s => !s.right):=by rw [ea]; rfl
 rw [hX];have c1:VPure Tryz.prog 65 [.int .i64 32,vl vint gl] (.bool (Ss.kinds 32 gl)):=jcr 32 gl (by omega);have c2:=AnyS_v sg (fun s => !s.right) 98 [] rfl (by omega) (fun s hs=>envRight1_v s (h2 s hs));generalize Ss.kinds 32 gl=x at *
 generalize (sg.any fun s => !s.right)=y at *
 refine QB (c:=jd Tryz.f63) Tryz.func63 Tryz.ntmps63 fun hwf=>?_
 by_cases k1:im<0
 ·repeat first|refine QG ?_|refine QY ?_ (r:=by conv=>lhs;simp[QV,k1])
  exact ja hwf (by simp; omega) rfl
 by_cases k2:(sg.length:Int)<im
 ·repeat first|refine QG ?_|refine QY ?_ (r:=by conv=>lhs;simp[QV,k1,k2])
  exact ja hwf (by simp; omega) rfl
 by_cases k3:(64:Int)<(sg.length:Int)
 ·repeat first|refine QG ?_|refine QY ?_ (r:=by conv=>lhs;simp[QV,k1,k2,k3])
  exact ja hwf (by simp; omega) rfl
 by_cases k4:mu.length=gl.length
 case neg =>
  have k4' : ¬ (mu.length:Int)=(gl.length:Int):=by omega
  repeat first|refine QG ?_|refine QY ?_ (r:=by conv=>lhs;simp[QV,k1,k2,k3,k4,k4'])
  exact ja hwf (by simp [k4]) rfl
 have k4':(mu.length:Int)=(gl.length:Int):=by omega
 have hp:(decide (0≤im)&&decide (im≤sg.length)&&decide (sg.length≤64)&&decide (mu.length=gl.length))=true:=by simp [k4]; omega
 rw [hp]
 repeat first|refine QG ?_|refine QY ?_ (r:=by conv=>lhs;simp[QV,k1,k2,k3,k4,k4'])
 refine QT ?_;refine QP ?_;refine QL (c1) ?_
 by_cases hx:x=true
 ·refine QM (by conv=>lhs;simp[QV,hx]) ?_;refine QL (c2) ?_;refine QW ?_
  repeat first|refine QG ?_|refine QY ?_
  exact ja hwf (by simp [hx]) rfl
 ·have hx':x=false:=by simpa using hx
  refine QM (by conv=>lhs;simp[QV,hx']) ?_;refine QN ?_
  repeat first|refine QG ?_|refine QY ?_
  exact ja hwf (by simp [hx']) rfl
theorem check1_v (b:Ss.Block):VPure Tryz.prog 68 ([jb b]++[]) (.bool (decide (256<b.params.length))):=by
 intro S;obtain ⟨ps,c,t⟩:=b;refine QB (c:=jd Tryz.f68) Tryz.func68 Tryz.ntmps68 fun hwf=>?_
 repeat first|refine QG ?_|refine QY ?_
 exact ja hwf (by simp; omega) rfl
end Go.Vw
namespace Ss
def rowOf (b:Block):List Int:=b.term.to.map Edge.to
def succs (bs:List Block):List (List Int):=bs.map rowOf
end Ss
namespace Go.Vw
open Go.Proofs Go.RowKit
attribute [-simp] List.map_set
theorem count_mem : ∀ {bs:List Ss.Block} {b:Ss.Block},b∈bs→b.code.length≤Ss.count bs
 | x::bs,b,h=>by
  simp only [Ss.count,List.map_cons,List.sum_cons];rcases List.mem_cons.1 h with rfl | h
  ·omega
  ·have:=count_mem h;simp only [Ss.count] at this;omega
theorem jX {f:Ss.Fn} (h:f.small=true):f.types.length≤4096∧f.blocks.length≤4096∧(∀ b∈f.blocks,b.params.length≤4096∧b.term.to.length≤4096∧b.term.args.length≤4096∧b.code.length≤4096)∧Ss.count f.blocks≤4096:=by
 obtain ⟨h1,h2,h3⟩:=(Ss.small_iff f).1 h;simp only [Ss.Fn.heads,Bool.and_eq_true,decide_eq_true_eq] at h1;refine ⟨h1.1.1.1,h1.1.1.2,fun b hb => ?_,h3⟩;have:=h2 b hb;simp only [Ss.Block.small,Bool.and_eq_true,decide_eq_true_eq] at this;refine ⟨this.1.1.1.1,this.1.1.1.2,this.1.1.2, ?_⟩;exact Nat.le_trans (count_mem hb) h3
theorem Succ_v (f:Ss.Fn) (hf:f.Fits):VPure Tryz.prog 26 [ql f] (vl (vl vint) (if f.small then Ss.succs f.blocks else [])):=by
 intro S;have cs:=jbV f hf;have hsb := @jX f;generalize f.small=sm at *
 obtain ⟨⟨fi,fo⟩,ts,bs⟩:=f;have cs':VPure Tryz.prog 64 [.agg [vl vint fi,vl vint fo,vl vint ts,vl jb bs]] (.bool sm):=cs
 by_cases hs:sm=true
 case neg =>
  rw [if_neg hs];have hs':sm=false:=by simpa using hs
  refine QB (c:=jd Tryz.f26) Tryz.func26 Tryz.ntmps26 fun hwf=>?_
  repeat first|refine QG ?_|refine QY ?_
  refine QT ?_;refine QP ?_;refine QL (cs') ?_;refine QM (by conv=>lhs;simp[QV,hs']) ?_;refine QN ?_
  repeat first|refine QG ?_|refine QY ?_
  exact jh (l:=[_]) hwf (Ghost.toB (Ghost.nils_list _) _) rfl
 rw [if_pos hs];obtain ⟨_,hbl,hbf,_⟩:=hsb hs;simp only at hbl hbf ⊢;refine QB (c:=jd Tryz.f26) Tryz.func26 Tryz.ntmps26 fun hwf=>?_
 repeat first|refine QG ?_|refine QY ?_
 refine QT ?_;refine QP ?_;refine QL (cs') ?_;refine QM (by conv=>lhs;simp[QV,hs]) ?_;refine QN ?_;refine QT ?_;refine jH rfl rfl rfl ?_;refine QT ?_;refine jB rfl ?_;refine QT ?_;refine QY ?_;refine qW 3 1 rfl (by conv=>lhs; simp [Fr.set]) ?_
 repeat first|refine QG ?_|refine QY ?_
 refine QO [3,13,14,15] ?_;refine QK [1] ?_;refine QT ?_;refine jc [3,13,14,15] rfl (fun c σ S' => ∃ (k:Nat) (out:List (List Int)),k≤bs.length∧c=bs.length-k∧out.length=k∧out=(bs.take k).map Ss.rowOf∧σ=[(3, .slice (lid S.nx 0) 0 k),(13,vl jb bs),(14,vnat bs.length),(15,vnat k)]∧S'=St S [] [some (1,out.map (vl vint))]) bs.length ?_ ?_
 ·exact ⟨0,[],by omega,rfl,rfl,by simp,by simp [Fr.only],by simp⟩
 ·rintro c σ T ⟨k,out,hk,rfl,hol,ho,rfl,rfl⟩
  by_cases hkt:k<bs.length
  ·have hw:=ji hkt (by omega);obtain ⟨_,htl,_,_⟩:=hbf _ (List.getElem_mem hkt);obtain ⟨⟨ps,code,⟨tk,ta,to,az⟩⟩,hx⟩ : ∃ b,bs[k]=b:=⟨_,rfl⟩
   rw [hx] at htl;simp only at htl;have htk:bs.take (k+1)=bs.take k++[⟨ps,code,⟨tk,ta,to,az⟩⟩]:=by rw [List.take_add_one,List.getElem?_eq_getElem hkt,hx]; rfl
   refine QT ?_;refine QY ?_ (r:=by conv=>lhs;simp[QV,hkt]);refine QT ?_;refine jG rfl rfl rfl ?_;refine QT ?_;refine jB rfl ?_;refine QT ?_;refine jK 1 rfl rfl ?_;refine QT ?_;refine QY ?_ (r:=by conv=>lhs;simp[QV,hkt,hx]);refine QT ?_;refine QY ?_;refine qW 6 1 rfl (by conv=>lhs; simp [Fr.set]) ?_
   repeat first|refine QG ?_|refine QY ?_
   refine QO [3,6,13,14,15,21,22,23] ?_;refine QK [0,2] ?_;refine QT ?_;refine jc [3,6,13,14,15,21,22,23] rfl (fun c σ S' => ∃ (j:Nat) (r:List Int),j≤to.length∧c=to.length-j∧r.length=j∧r=(to.take j).map Ss.Edge.to∧σ=[(3, .slice (lid S.nx 0) 0 k),(6, .slice (lid S.nx 1) 0 j),(13,vl jb bs),(14,vnat bs.length),(15,vnat k),(21,vl jf to),(22,vnat to.length),(23,vnat j)]∧S'=St S [] [some (1,out.map (vl vint)),some (1,r.map vint)]) to.length ?_ ?_
   ·exact ⟨0,[],by omega,rfl,rfl,by simp,by simp [Fr.only],by simp⟩
   ·rintro c σ T ⟨j,r,hj,rfl,hrl,hr,rfl,rfl⟩
    by_cases hjt:j<to.length
    ·have hwj:=ji hjt (by omega);have hb:(j+1)*8≤140737488355328:=by omega
     have hb':j+1≤140737488355328:=by omega
     obtain ⟨⟨xt,xa⟩,hx2⟩ : ∃ b,to[j]=b:=⟨_,rfl⟩
     have htj:to.take (j+1)=to.take j++[⟨xt,xa⟩]:=by rw [List.take_add_one,List.getElem?_eq_getElem hjt,hx2]; rfl
     repeat first|refine QG ?_|refine QY ?_ (r:=by conv=>lhs;simp[QV,hjt,hx2,hb,hb',hrl])
     refine QA [0,4] (h:=⟨?_,j+1,r++[xt],hjt,rfl,by simp [hrl],by rw [htj,List.map_append,hr]; rfl,by simp [hwj],by simp⟩);omega
    ·have hje:j=to.length:=by omega
     subst hje;rw [List.take_length] at hr;have hb:(k+1)*24≤140737488355328:=by omega
     have hb':k+1≤140737488355328:=by omega
     refine QT ?_;refine QY ?_ (r:=by conv=>lhs;simp[QV,hjt]);refine QT ?_;refine jH rfl rfl rfl ?_;refine QT ?_;refine jQ 2 rfl rfl ?_;refine jx 6 rfl ((frz1 (k:=1) (len:=to.length) (by simp) (by rfl) (jF vint (fun _=>rfl) _) (by simpa using hrl))) (by conv=>lhs; simp [Fr.set]) ?_;simp only [List.set_cons_succ,List.set_cons_zero]
     repeat first|refine QG ?_|refine QY ?_ (r:=by conv=>lhs;simp[QV,hb,hb',hol])
     refine QA [3] (h:=⟨?_,k+1,out++[r],hkt,rfl,by simp [hol],by rw [htk,List.map_append, ←ho,hr]; rfl,by simp [hw],by simp [vl]⟩);omega
  ·have hke:k=bs.length:=by omega
   subst hke;rw [List.take_length] at ho
   repeat first|refine QG ?_|refine QY ?_ (r:=by conv=>lhs;simp[QV,hkt])
   rw [Ss.succs, ←ho];exact jh hwf ((frz1 (by simp) (by rfl) (jF (vl vint) (fun _=>rfl) _) (by simpa using hol)).toB _) rfl
end Go.Vw
/-
 What is owned in depth: values of one's own that read as immutable ones; stores that become the base of others.
-/
namespace Go.Vw
open Go.RowKit
section
variable {P:Program} {N b b':Nat} {Q:Exit→Fr→Store→Prop} {σ σ':Fr} {S S':Store}
theorem ExtB.weak {m m':Imm} {β β':Objs} {w w':World} (h:b≤b') (k:ExtB b' m β w m' β' w'):ExtB b m β w m' β' w' :=
 ⟨k.imm,fun o ho=>k.step o (Nat.lt_of_lt_of_le ho h),k.size,k.keep,k.os,k.tape,k.output⟩
theorem zy {c:Code} (h:b≤b') (k:VWp P N b' c Q σ S):VWp P N b c Q σ S :=
 fun m β w a hS hF=>wp_mono (k m β w a hS hF) fun e a' w' ⟨σ',S',m',β',q,r1,r2,r3⟩=>⟨σ',S',m',β',q,r1,r2,r3.weak h⟩
theorem Reach.weak (h:b≤b') (k:Reach N b' σ S σ' S'):Reach N b σ S σ' S':=fun m β w a hS hF=>by
 obtain ⟨m',β',h1,h2,h3⟩:=k m β w a hS hF;exact ⟨m',β',h1,h2,h3.weak h⟩
theorem JO {I:Nat→Fr→Store→Prop} {ks:List Nat} {n:Nat} (h:b≤b') (k:jp N b' I ks n σ S):jp N b I ks n σ S:=by
 obtain ⟨n',h1,σc,Sc,h2,h3⟩:=k;exact ⟨n',h1,σc,Sc,h2.weak h,h3⟩
end
theorem jZ (b j k:Nat):lid (lid b j) k=lid b (j+k):=by simp [lid]; omega
theorem Jf {B:Store} {u:Upds} {l m:List (Option (Nat × List V))}:St B u (l++m)=St (St B u l) [] m:=by
 refine Store.ext' (funext fun o => ?_) ?_
 ·have e:(St B u l).nx=B.nx+l.length:=by rw [jE,lid]
  rw [zV,zV,e,zV];simp only [uGet]
  by_cases h1:o<B.nx
  ·rw [if_pos h1,if_pos (by omega),if_pos h1]
  ·rw [if_neg h1]
   by_cases h2:o<B.nx+l.length
   ·rw [if_pos h2,if_neg h1,List.getElem?_append_left (by omega)]
   ·rw [if_neg h2,List.getElem?_append_right (by omega)]
    congr 2; omega
 ·rw [jE,jE,jE,jZ]; simp
theorem ZE {B:Store} {u:Upds} {c:Option (Nat × List V)} {m:List (Option (Nat × List V))}:St B u (c::m)=St (St B u [c]) [] m:=Jf (l:=[c])
mutual
theorem ids_mono {p q:Nat→Bool} (h : ∀ o,p o=true→q o=true) : ∀ x:V,x.ids p=true→x.ids q=true
 | .agg xs,hx=>by simp only [V.ids] at hx ⊢; exact WQ h xs hx
 | .tuple xs,hx=>by simp only [V.ids] at hx ⊢; exact WQ h xs hx
 | .func _ xs,hx=>by simp only [V.ids] at hx ⊢; exact WQ h xs hx
 | .slice o _ _,hx=>by simp only [V.ids] at hx ⊢; exact h o hx
 | .ptr o _,hx=>by simp only [V.ids] at hx ⊢; exact h o hx
 | .map o,hx=>by simp only [V.ids] at hx ⊢; exact h o hx
 | .junk,_=>by simp [V.ids]
 | .bool _,_ | .int _ _,_ | .str _,_ | .nils,_ | .nilp,_ | .nilf,_ | .nilm,_ | .list _,_ | .ref _,_=>by simp [V.ids]
theorem WQ {p q:Nat→Bool} (h : ∀ o,p o=true→q o=true) : ∀ xs:List V,V.idsL p xs=true→V.idsL q xs=true
 | [],_=>by simp [V.idsL]
 | x::xs,hx=>by
  simp only [V.idsL,Bool.and_eq_true] at hx ⊢;exact ⟨ids_mono h x hx.1,WQ h xs hx.2⟩
end
theorem jaU {B:Store} (hw:B.Wf) {l:List (Option (Nat × List V))} (h:l.all (fun c=>match c with | some c=>V.idsL (fun o=>decide (o<lid B.nx l.length)) c.2 | none=>true)=true):(St B [] l).Wf:=by
 refine ⟨fun o ho => ?_,fun o c hc => ?_⟩
 ·rw [jE] at ho;simp only [lid] at ho;rw [zV,if_neg (by omega),List.getElem?_eq_none (by omega)]; rfl
 ·rw [zV] at hc;rw [jE]
  by_cases h1:o<B.nx
  ·rw [if_pos h1] at hc;have:=hw.ids o c hc;simp only [qS,List.all_eq_true] at this ⊢;intro x hx;have h2:=this x hx;have hle:B.nx≤lid B.nx l.length:=by rw [lid]; omega
   exact ids_mono (fun o ho=>by rw [decide_eq_true_eq] at ho ⊢; exact Nat.lt_of_lt_of_le ho hle) x h2
  ·rw [if_neg h1] at hc;have hm:some c∈l:=by
    cases hl:l[o-B.nx]? with
    | none=>rw [hl] at hc; cases hc
    | some d=>rw [hl] at hc; simp only [Option.join_some] at hc; subst hc; exact List.mem_of_getElem? hl
   simp only [List.all_eq_true] at h;exact h _ hm
/-! ### Ownership -/
inductive Ty
 | c
 | s (tys:List Ty)
def reps (n:Nat) (tys:List Ty):List Ty:=(List.replicate n tys).flatten
theorem reps_zero (tys:List Ty):reps 0 tys=[]:=rfl
theorem zI (n:Nat) (tys:List Ty):reps (n+1) tys=tys++reps n tys:=by simp [reps,List.replicate_succ]
theorem Kx (n:Nat) (tys:List Ty):reps (n+1) tys=reps n tys++tys:=by simp [reps,List.replicate_succ',List.flatten_append]
theorem jch (n m:Nat) (tys:List Ty):reps (n+m) tys=reps n tys++reps m tys:=by
 induction n with
 | zero=>simp [reps]
 | succ n ih=>rw [Nat.add_right_comm,zI,zI,ih,List.append_assoc]
theorem qL (n:Nat) (tys:List Ty):(reps n tys).length=n*tys.length:=by
 induction n with
 | zero=>simp [reps]
 | succ n ih=>rw [zI,List.length_append,ih,Nat.succ_mul]; omega
inductive OwL (S:Store):List Ty→List V→List V→List Nat→Prop
 | nil:OwL S [] [] [] []
 | c {ts:List Ty} {rs xs:List V} {j:List Nat} {x:V} (h:x.closed1=true) (t:OwL S ts rs xs j):OwL S (.c::ts) (x::rs) (x::xs) j
 | s {tys ts:List Ty} {rs xs cells ys:List V} {i j:List Nat} {o:Nat} (h:S.get o=some (tys.length,cells)) (hs : ∀ y∈ys,y.cells.length=tys.length∧y.closed=true) (d:OwL S (reps ys.length tys) cells (ys.flatMap V.cells) i) (t:OwL S ts rs xs j) :
   OwL S (.s tys::ts) (.slice o 0 ys.length::rs) (.list ys::xs) (o::(i++j))
theorem OwL.len {S:Store} {ts:List Ty} {rs xs:List V} {ids:List Nat} (h:OwL S ts rs xs ids):rs.length=ts.length∧xs.length=ts.length:=by
 induction h with
 | nil=>exact ⟨rfl,rfl⟩
 | c _ _ ih=>simp [ih]
 | s _ _ _ _ _ ih=>simp [ih]
theorem OwL.mono {S S':Store} {ts:List Ty} {rs xs:List V} {ids:List Nat} (h:OwL S ts rs xs ids):(∀ o∈ids,S'.get o=S.get o)→OwL S' ts rs xs ids:=by
 induction h with
 | nil=>exact fun _ => .nil
 | c h _ ih=>exact fun hk => .c h (ih hk)
 | s h hs _ _ ih1 ih2=>exact fun hk => .s ((hk _ (by simp)).trans h) hs (ih1 fun o ho=>hk o (by simp [ho])) (ih2 fun o ho=>hk o (by simp [ho]))
theorem OwL.append {S:Store} {ts us:List Ty} {rs xs ps qs:List V} {i j:List Nat} (h:OwL S ts rs xs i) (k:OwL S us ps qs j):OwL S (ts++us) (rs++ps) (xs++qs) (i++j):=by
 induction h with
 | nil=>exact k
 | c h _ ih=>exact .c h ih
 | s h hs d _ _ ih=>simpa [List.append_assoc] using OwL.s h hs d ih
theorem OwL.split {S:Store} {us:List Ty} : ∀ {ts:List Ty} {rs xs:List V} {ids:List Nat},OwL S (ts++us) rs xs ids → ∃ r1 r2 x1 x2 i1 i2,rs=r1++r2∧xs=x1++x2∧ids=i1++i2∧OwL S ts r1 x1 i1∧OwL S us r2 x2 i2
 | [],rs,xs,ids,h=>⟨[],rs,[],xs,[],ids,rfl,rfl,rfl, .nil,h⟩
 | t::ts,rs,xs,ids,h=>by
  cases h with
  | c hc k =>
   obtain ⟨r1,r2,x1,x2,i1,i2,rfl,rfl,rfl,k1,k2⟩:=OwL.split k;exact ⟨_::r1,r2,_::x1,x2,i1,i2,rfl,rfl,rfl, .c hc k1,k2⟩
  | s ho hs d k =>
   obtain ⟨r1,r2,x1,x2,i1,i2,rfl,rfl,rfl,k1,k2⟩:=OwL.split k;exact ⟨_::r1,r2,_::x1,x2,_::(_++i1),i2,rfl,rfl,by simp, .s ho hs d k1,k2⟩
theorem OwL.closed {S:Store} {ts:List Ty} {rs xs:List V} {ids:List Nat} (h:OwL S ts rs xs ids) : ∀ x∈xs,x.closed1=true:=by
 induction h with
 | nil=>simp
 | c h _ ih=>intro x hx; rcases List.mem_cons.1 hx with rfl | hx; exact h; exact ih x hx
 | s _ _ _ _ _ ih=>intro x hx; rcases List.mem_cons.1 hx with rfl | hx; rfl; exact ih x hx
theorem OwL.alive {S:Store} {ts:List Ty} {rs xs:List V} {ids:List Nat} (h:OwL S ts rs xs ids) : ∀ o∈ids,(S.get o).isSome=true:=by
 induction h with
 | nil=>simp
 | c h _ ih=>exact ih
 | s h _ _ _ ih1 ih2 =>
  intro o ho;rcases List.mem_cons.1 ho with rfl | ho
  ·rw [h]; rfl
  ·rcases List.mem_append.1 ho with ho | ho
   ·exact ih1 o ho
   ·exact ih2 o ho
theorem OwL.cells {S:Store} {ts:List Ty} {rs xs:List V} {ids:List Nat} (h:OwL S ts rs xs ids) : ∀ r∈rs,r.closed1=true ∨ ∃ o n,r = .slice o 0 n:=by
 induction h with
 | nil=>simp
 | c h _ ih=>intro x hx; rcases List.mem_cons.1 hx with rfl | hx; exact .inl h; exact ih x hx
 | s _ _ _ _ _ ih=>intro x hx; rcases List.mem_cons.1 hx with rfl | hx; exact .inr ⟨_,_,rfl⟩; exact ih x hx
theorem OwL.all_c {S:Store} : ∀ {xs:List V},(∀ x∈xs,x.closed1=true)→OwL S (List.replicate xs.length .c) xs xs []
 | [],_ => .nil
 | x::xs,h => .c (h x (by simp)) (OwL.all_c fun y hy=>h y (by simp [hy]))
theorem repL_cons {m:Imm} {β:Objs} {x:V} {xs:List V} {vs:List Value} (h:RepL m β (x::xs) vs) : ∃ v r,vs=v::r∧Rep m β x v∧RepL m β xs r:=by
 cases vs with
 | nil=>have:=h.1; simp at this
 | cons v r=>exact ⟨v,r,rfl,h.2 0 x v rfl rfl,by have:=h.1; simpa using this,fun i y u hy hu=>h.2 (i+1) y u (by simpa using hy) (by simpa using hu)⟩
theorem jcx {S:Store} {o:Nat} {i:List Nat} {c:Nat × List V}:((S.dels i).upd o c).del o=S.dels (o::i):=by
 refine Store.ext' (funext fun o' => ?_) (by simp only [Store.del,Store.upd]; rw [YH,YH]);rw [zO,qn,KE,KE]
 by_cases h:o'=o<;>simp [h]
theorem dels_app (S:Store) (i j:List Nat):S.dels (i++j)=(S.dels i).dels j:=by simp [Store.dels,List.foldl_append]
theorem OwL.freeze {S0:Store} {ts:List Ty} {rs xs:List V} {ids:List Nat} (h:OwL S0 ts rs xs ids):ids.Nodup → ∀ S:Store,(∀ o∈ids,S.get o=S0.get o)→GhostArgs rs S xs (S.dels ids):=by
 induction h with
 | nil=>exact fun _ S _ m β w vs hS hr=>⟨m,β,hS,Ext.refl _ _ _,hr⟩
 | @c ts rs xs j x h _ ih =>
  intro hn S hk m β w vs hS hr;obtain ⟨v,r,rfl,h1,h2⟩:=repL_cons hr;obtain ⟨m',β',k1,k2,k3⟩:=ih hn S hk m β w r hS h2;exact ⟨m',β',k1,k2,k3.cons (k2.rep h1)⟩
 | @s tys ts rs xs cells ys i j o h hs d t ih1 ih2 =>
  intro hn S hk m β w vs hS hr;obtain ⟨v,r,rfl,h1,h2⟩:=repL_cons hr;obtain ⟨hno,hnij⟩:=List.nodup_cons.1 hn;obtain ⟨hni,hnj,hd⟩:=List.nodup_append.1 hnij;have hoi:o∉i:=fun h=>hno (by simp [h])
  have hoj:o∉j:=fun h=>hno (by simp [h])
  have hget:S.get o=some (tys.length,cells):=(hk o (by simp)).trans h
  -- the object's cells become immutable
  have step1 : ∃ m1 β1,Holds ((S.dels i).upd o (tys.length,ys.flatMap V.cells)) m1 β1 w∧Ext m β w m1 β1 w:=by
   have hl:=hS.live o _ hget;have hlen:cells.length=(ys.flatMap V.cells).length:=by rw [d.len.1,d.len.2]
   have hgi:(S.dels i).get o=some (tys.length,cells):=by rw [KE,if_neg hoi]; exact hget
   cases hβ:β o with
   | fresh=>rw [hβ] at hl; exact hl.elim
   | dead=>rw [hβ] at hl; exact hl.elim
   | void =>
    rw [hβ] at hl;simp only [Live] at hl;subst hl;obtain ⟨m1,β1,k1,k2,_⟩:=ih1 hni S (fun o ho=>hk o (by simp [ho])) m β w [] hS (RepL.nil _ _);have e:ys.flatMap V.cells=[]:=List.eq_nil_of_length_eq_zero (by rw [←hlen]; rfl);rw [e];refine ⟨m1,β1, ?_,k2⟩;have:(S.dels i).upd o (tys.length,[])=S.dels i:=by
     refine Store.ext' (funext fun o' => ?_) rfl;rw [qn];split
     ·rename_i e'; subst e'; exact hgi.symm
     ·rfl
    rw [this]; exact k1
   | mp b' =>
    rw [hβ] at hl;obtain ⟨es,clock,e1,e2,e3⟩:=hl;have hz:cells=[]:=by
     cases cells with
     | nil=>rfl
     | cons c0 cr =>
      exfalso
      have hi2:0<es.size:=by simp only [List.length_cons] at e2; omega
      obtain ⟨k,v,e4,_⟩:=e3 0 c0 es[0] rfl (Array.getElem?_eq_getElem hi2);subst e4;rcases d.cells _ (List.mem_cons_self) with h | ⟨_,_,h⟩
      ·simp [V.closed1] at h
      ·cases h
    subst hz;obtain ⟨m1,β1,k1,k2,_⟩:=ih1 hni S (fun o ho=>hk o (by simp [ho])) m β w [] hS (RepL.nil _ _);have e:ys.flatMap V.cells=[]:=List.eq_nil_of_length_eq_zero (by rw [←hlen]; rfl);rw [e];refine ⟨m1,β1, ?_,k2⟩;have:(S.dels i).upd o (tys.length,[])=S.dels i:=by
     refine Store.ext' (funext fun o' => ?_) rfl;rw [qn];split
     ·rename_i e'; subst e'; exact hgi.symm
     ·rfl
    rw [this]; exact k1
   | lies b base s n =>
    rw [hβ] at hl;obtain ⟨h0,arr,T,e1,e2,e3,e4⟩:=hl;simp only at e3 e4;have hvs:RepL m β cells ((List.range cells.length).map fun q=>arr.getD (base+q) undef):=by
     refine ⟨by simp,fun q x u hx hu => ?_⟩;obtain ⟨u',f1,f2,_⟩:=e4 q x hx;have hq:q<cells.length:=(List.getElem?_eq_some_iff.1 hx).1;simp only [List.getElem?_map,List.getElem?_range hq,Option.map_some,Option.some.injEq] at hu;subst hu;have:arr.getD (base+q) undef=u':=by rw [Array.getD_eq_getD_getElem?,f1]; rfl
     rw [this]; exact f2
    obtain ⟨m1,β1,k1,k2,k3⟩:=ih1 hni S (fun o ho=>hk o (by simp [ho])) m β w _ hS hvs;have hb':β1 o = .lies b base s n:=by
     rcases k2.step o (by rw [hβ]; exact Loc.noConfusion) with h' | h'
     ·rw [h',hβ]
     ·have:=k1.live o _ hgi;rw [h'] at this; exact this.elim
    refine ⟨m1,β1, ?_,k2⟩;refine k1.reseen hgi hb' e1 _ hlen.symm fun q x u hx hu => ?_
    have hq:q<cells.length:=by rw [hlen]; exact (List.getElem?_eq_some_iff.1 hx).1
    refine k3.2 q x u hx ?_;simp only [List.getElem?_map,List.getElem?_range hq,Option.map_some,Option.some.injEq];rw [Array.getD_eq_getD_getElem?,hu]; rfl
  obtain ⟨m1,β1,k1,k2⟩:=step1
  -- the slice becomes a list
  have hg:Ghost (.slice o 0 ys.length) ((S.dels i).upd o (tys.length,ys.flatMap V.cells)) (.list ys) (S.dels (o::i)):=by
   rw [←jcx (c:=(tys.length,ys.flatMap V.cells))]
   let enc:{y // y∈ys}→V:=fun y=>y.1
   have e1:je enc ys.attach=ys.flatMap V.cells:=by
    have:ys.attach.map enc=ys:=List.attach_map_subtype_val ys
    calc je enc ys.attach=(ys.attach.map enc).flatMap V.cells:=by simp [je,List.flatMap_map]
     _=_:=by rw [this]
   have e2:vl enc ys.attach = .list ys:=by
    show V.list _=_;rw [List.attach_map_subtype_val]
   have:=frzS (enc:=enc) (s:=tys.length) (fun y=>(hs y.1 y.2).1) (fun y=>(hs y.1 y.2).2) (S:=(S.dels i).upd o (tys.length,ys.flatMap V.cells)) (o:=o) ys.attach (by rw [e1]; exact zl);rw [e2,List.length_attach] at this;exact this
  obtain ⟨m2,β2,q1,q2,q3⟩:=hg m1 β1 w v k1 (k2.rep h1);have hkj : ∀ o'∈j,(S.dels (o::i)).get o'=S0.get o':=by
   intro o' ho';have hm : ¬ o'∈o::i:=by
    intro hm;rcases List.mem_cons.1 hm with rfl | hm
    ·exact hoj ho'
    ·exact hd o' hm o' ho' rfl
   rw [KE,if_neg hm];exact hk o' (by simp [ho'])
  obtain ⟨m3,β3,p1,p2,p3⟩:=ih2 hnj (S.dels (o::i)) hkj m2 β2 w r q1 ⟨h2.1,fun a x u hx hu=>q2.rep (k2.rep (h2.2 a x u hx hu))⟩;refine ⟨m3,β3, ?_,(k2.trans q2).trans p2,p3.cons (p2.rep q3)⟩;rw [show o::(i++j)=(o::i)++j from rfl,dels_app];exact p1
theorem KW (n s:Nat):reps n (List.replicate s .c)=List.replicate (n*s) .c:=by
 induction n with
 | zero=>simp [reps]
 | succ n ih=>rw [zI,ih,List.replicate_append_replicate,Nat.succ_mul,Nat.add_comm]
theorem qN {α:Type} (enc:α→V) (ls:List α):(ls.map enc).flatMap V.cells=je enc ls:=by simp [je,List.flatMap_map]
theorem OwL.flat {α:Type} {enc:α→V} {s:Nat} (hs : ∀ a,(enc a).cells.length=s) (hc : ∀ a,(enc a).closed=true) {S:Store} (ls:List α):OwL S (reps ls.length (List.replicate s .c)) (je enc ls) (je enc ls) []:=by
 have h:=OwL.all_c (S:=S) (xs:=je enc ls) (by simpa using Zc hc ls)
 rwa [zm hs, ←KW] at h
theorem OwL.slice {α:Type} {enc:α→V} {s:Nat} (hs : ∀ a,(enc a).cells.length=s) (hc : ∀ a,(enc a).closed=true) {S:Store} {o:Nat} (ls:List α) (hg:S.get o=some (s,je enc ls)) {ts:List Ty} {rs xs:List V} {j:List Nat} (t:OwL S ts rs xs j) :
  OwL S (.s (List.replicate s .c)::ts) (.slice o 0 ls.length::rs) (vl enc ls::xs) (o::j):=by
 have:=OwL.s (S:=S) (o:=o) (tys:=List.replicate s .c) (cells:=je enc ls) (ys:=ls.map enc) (i:=[]) (by rw [List.length_replicate]; exact hg)
  (fun y hy=>by obtain ⟨a,_,rfl⟩:=List.mem_map.1 hy; exact ⟨by rw [hs,List.length_replicate],hc a⟩) (by rw [List.length_map,qN]; exact OwL.flat hs hc ls) t
 rw [List.length_map] at this;exact this
theorem OwL.old {S:Store} {n:Nat} {ts:List Ty} {rs xs:List V} {ids:List Nat} (h:OwL S ts rs xs ids) (hn : ∀ o∈ids,o<n) (ks:List Nat):V.idsL (gcP n ks) rs=true∧V.renL (gcTo n ks) rs=rs:=by
 induction h with
 | nil=>exact ⟨by simp [V.idsL],by simp [V.renL]⟩
 | @c ts rs xs j x h _ ih =>
  obtain ⟨h1,h2⟩:=ih hn;have e1:x.ids (gcP n ks)=true:=by cases x<;>first | (simp [V.ids]; done) | (simp [V.closed1] at h)
  have e2:x.ren (gcTo n ks)=x:=by cases x<;>first | (simp [V.ren]; done) | (simp [V.closed1] at h)
  exact ⟨by simp [V.idsL,e1,h1],by simp [V.renL,e2,h2]⟩
 | @s tys ts rs xs cells ys i j o h hs d t ih1 ih2 =>
  obtain ⟨h1,h2⟩:=ih2 fun o ho=>hn o (by simp [ho])
  have ho:=hn o (by simp);exact ⟨by simp [V.idsL,V.ids,zz ks ho,h1],by simp [V.renL,V.ren,qX ks ho,h2]⟩
theorem Wr {x:V} (h:x.closed1=true) (p:Nat→Bool):x.ids p=true:=by cases x<;>first | (simp [V.ids]; done) | (simp [V.closed1] at h)
theorem OwL.ids_lt {S:Store} {p:Nat→Bool} {ts:List Ty} {rs xs:List V} {ids:List Nat} (h:OwL S ts rs xs ids) (hn : ∀ o∈ids,p o=true):V.idsL p rs=true:=by
 induction h with
 | nil=>simp [V.idsL]
 | c h _ ih=>simp [V.idsL,Wr h,ih hn]
 | @s tys ts rs xs cells ys i j o h hs d t ih1 ih2=>simp [V.idsL,V.ids,hn o (by simp),ih2 fun o ho=>hn o (by simp [ho])]
theorem Wy {P:Program} {z:Option ZZ} {r:List CO} {K:Fr→Store→Prop} {σ:Fr} {T:Store} (h:T.Wf) (k:jP P z r K σ (St T [] [])):jP P z r K σ T:=by rwa [qF h] at k
theorem YT {P:Program} {N b:Nat} {Q:Exit→Fr→Store→Prop} {σ:Fr} {T:Store} {c:Code} (h:T.Wf) (k:VWp P N b c Q σ (St T [] [])):VWp P N b c Q σ T:=by rwa [qF h] at k
theorem lid_lt (b j k:Nat):(lid b j<lid b k)=(j<k):=by simp [lid]
theorem jbk {S:Store} (h:S.Wf) {o:Nat} {c:Nat × List V} (ho:o<S.nx) (hc:V.idsL (fun o=>decide (o<S.nx)) c.2=true):(S.upd o c).Wf:=by
 refine ⟨fun o' ho' => ?_,fun o' c' hc' => ?_⟩
 ·have h1:S.nx≤o':=ho';rw [qn,if_neg (by omega)]; exact h.gone o' h1
 ·rw [qn] at hc';split at hc'
  ·cases hc'; exact hc
  ·exact h.ids o' c' hc'
theorem done_gc {S:Store} {l l':List (Option (Nat × List V))} {r r':V} {R:V→Store→Prop} (ks:List Nat) (hw:S.Wf) (h1:ks.Nodup) (h2:(YD S.nx ks l ks&&r.ids (gcP S.nx ks))=true) (hl:gcL S.nx ks l ks=l') (hr:r.ren (gcTo S.nx ks)=r') (hR:R r' (St S [] l')):Yg S.nx R r (St S [] l):=by
 obtain ⟨h3,h4⟩:=Bool.and_eq_true_iff.1 h2;have h:=gc_ren (u:=[]) hw h1 rfl h3;subst hl;subst hr;exact ⟨_,_,GhostB.ren h (JU (fun o ho=>gc_back o ho) r h4).symm,hR⟩
theorem zf {S:Store} : ∀ {n:Nat} {rs xs:List V} {ids:List Nat},OwL S (List.replicate n .c) rs xs ids→rs=xs∧ids=[]
 | 0,rs,xs,ids,h=>by
  generalize hr:List.replicate 0 Ty.c=ts at h
  cases h with
  | nil=>exact ⟨rfl,rfl⟩
  | c _ _=>cases hr
  | s _ _ _ _=>cases hr
 | n+1,rs,xs,ids,h=>by
  rw [List.replicate_succ] at h
  cases h with
  | c h t =>
   obtain ⟨rfl,rfl⟩:=zf t;exact ⟨rfl,rfl⟩
theorem jaD {rs xs:List V} {S S':Store} (h:GhostArgs rs S xs S'):Ghost (.agg rs) S (.agg xs) S':=by
 intro m β w v hS hr;obtain ⟨vs,rfl,hl,hr,hone⟩:=hr.inv_agg;obtain ⟨m',β',h1,h2,h3⟩:=h m β w vs hS ⟨hl,hr⟩;exact ⟨m',β',h1,h2, .agg xs vs h3.1 h3.2 hone⟩
end Go.Vw
