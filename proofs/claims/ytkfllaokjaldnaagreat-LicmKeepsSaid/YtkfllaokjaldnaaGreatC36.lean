import Derived.Test.YtkfllaokjaldnaaGreatC16
import Derived.Test.YtkfllaokjaldnaaGreatC17
import Derived.Test.YtkfllaokjaldnaaGreatC15
import Derived.Test.YtkfllaokjaldnaaGreatC18
import Derived.Test.YtkfllaokjaldnaaGreatC21
/-
  Part of the proof (texts KDraw, CKinds, CDefs, CAsk).
-/
set_option linter.unusedVariables false
set_option linter.unusedSimpArgs false
namespace Go.Vw
open Go.RowKit
set_option maxRecDepth 10000
/-! ### A region that draws, order by order -/
section
variable {P:Program} {Z:ZZ} {ops:Array Oper} {cs:List CO} {Q:Ff→Store→Prop} {n:Nat} {listed:Array Bool} {τ:Ff} {S:Store}
theorem jaw (rs:List Nat) (hr:Region.ready .any ops listed=rs) (hne:rs≠[]) (h : ∀ i∈rs,atZ P Z cs i (anyZ P Z ops cs Q n (listed.setIfInBounds i true)) τ S):anyZ P Z ops cs Q (n+1) listed τ S :=
 ⟨fun h0=>absurd (hr.symm.trans h0) hne,by rw [hr]; exact h⟩
theorem jM (i:Nat) (hr:Region.ready .any ops listed=[i]) (h:atZ P Z cs i (anyZ P Z ops cs Q n (listed.setIfInBounds i true)) τ S):anyZ P Z ops cs Q (n+1) listed τ S :=
 jaw [i] hr (by simp) fun k hk=>by
  rw [List.mem_singleton] at hk;subst hk; exact h
theorem Wp (i j:Nat) (hr:Region.ready .any ops listed=[i,j]) (h:atZ P Z cs i (anyZ P Z ops cs Q n (listed.setIfInBounds i true)) τ S) (h2:atZ P Z cs j (anyZ P Z ops cs Q n (listed.setIfInBounds j true)) τ S):anyZ P Z ops cs Q (n+1) listed τ S :=
 jaw [i,j] hr (by simp) fun k hk=>by
  simp only [List.mem_cons,List.not_mem_nil,or_false] at hk;rcases hk with rfl | rfl
  ·exact h
  ·exact h2
theorem anyZ_n3 (i j l:Nat) (hr:Region.ready .any ops listed=[i,j,l]) (h:atZ P Z cs i (anyZ P Z ops cs Q n (listed.setIfInBounds i true)) τ S) (h2:atZ P Z cs j (anyZ P Z ops cs Q n (listed.setIfInBounds j true)) τ S) (h3:atZ P Z cs l (anyZ P Z ops cs Q n (listed.setIfInBounds l true)) τ S):anyZ P Z ops cs Q (n+1) listed τ S :=
 jaw [i,j,l] hr (by simp) fun k hk=>by
  simp only [List.mem_cons,List.not_mem_nil,or_false] at hk;rcases hk with rfl | rfl | rfl
  ·exact h
  ·exact h2
  ·exact h3
theorem anyZ_mono {Q':Ff→Store→Prop} (hq : ∀ τ S,Q τ S→Q' τ S) : ∀ (n:Nat) (listed:Array Bool) (τ:Ff) (S:Store),anyZ P Z ops cs Q n listed τ S→anyZ P Z ops cs Q' n listed τ S
 | 0,_,_,_,h=>⟨h.1,hq _ _ h.2⟩
 | n+1,listed,τ,S,h=>⟨fun h0=>hq _ _ (h.1 h0),fun i hi=>KO (fun τ S=>anyZ_mono hq n _ τ S) (h.2 i hi)⟩
theorem zy (hr:Region.ready .any ops listed=[]) (h:Q τ S):anyZ P Z ops cs Q 0 listed τ S:=⟨hr,h⟩
def lexP (es ms:List Nat) (ops:Array Oper) (cs:List CO):List Nat→Array Bool→Bool
 | [],_=>true
 | k::ord,listed=>(Region.ready .any ops listed).contains k &&
   (match cs[k]? with
    | some oi=>(List.range cs.length).all fun j=>j==k||listed.getD j true||Ws ms k j||(match cs[j]? with
     | some oj=>oi.apart oj&&(isRd es oi||isRd es oj)
     | none=>true)
    | none=>false)&&lexP es ms ops cs ord (listed.setIfInBounds k true)
def setL:List Nat→Array Bool→Array Bool
 | [],l=>l
 | k::ord,l=>setL ord (l.setIfInBounds k true)
theorem anyZ_ordP (hlen:cs.length=ops.size) {fuel:Nat} : ∀ (ord:List Nat) (listed:Array Bool) (τ:Ff) (S:Store),zb ops listed→lexP Z.es (qU ops) ops cs ord listed=true→JU P Z (fun τ S=>anyZ P Z ops cs Q fuel (setL ord listed) τ S) (Kt cs ord) τ S→anyZ P Z ops cs Q (fuel+ord.length) listed τ S
 | [],_,_,_,_,_,h=>h
 | k::ord,listed,τ,S,hcl,hB,h=>by
  simp only [lexP,Bool.and_eq_true] at hB;obtain ⟨⟨hr,hf⟩,hB'⟩:=hB
  cases h0:cs[k]? with
  | none=>rw [h0] at hf; cases hf
  | some o =>
  have hp:Kt cs (k::ord)=o::Kt cs ord:=by simp [Kt,h0]
  rw [hp] at h;simp only [JU] at h;rw [qA] at h;obtain ⟨v,S1,hy,hK⟩:=h;have hr':k∈Region.ready .any ops listed:=by simpa using hr
  refine KQ h0 hlen (fuel+ord.length) listed τ S S1 hcl (fun j oj hj hne hun hno => ?_) hr' hy (anyZ_ordP hlen ord _ _ _ (zB hcl hr') hB' hK);simp only [h0,List.all_eq_true,List.mem_range] at hf;have h1:=hf j (List.getElem?_eq_some_iff.1 hj).1;have hnm:Ws (qU ops) k j=false:=by
   cases hm:Ws (qU ops) k j with
   | false=>rfl
   | true=>obtain ⟨n,hn⟩:=Jr hm; rw [hno n] at hn; cases hn
  simp only [hj,Bool.or_eq_true,beq_iff_eq,hne,false_or,hun,Bool.false_eq_true,hnm,Bool.and_eq_true] at h1;exact h1
variable {K:Ff→Store→Prop} {σ:Fr} {i:Nat}
theorem atF_op {d:Option Nat} {op:COp} {v:V} {S1:Store} (ho:cs[i]? = some ⟨d,none,op⟩) (hrd:isRd Z.es ⟨d,none,op⟩=false) (h:zt P (trnL Z.es d) σ.look S op v S1) (hz:Z.ok S1) (k:K (σ.put d v).look S1):atZ P Z cs i K σ.look S:=by
 simp only [atZ,ho,stepZ,CO.wants];rw [Kc] at k;exact .inr ⟨hrd,v,S1,h,hz,k⟩
theorem qT {d:Option Nat} {f:FuncId} {args:List Arg} {xs:List V} {v:V} {S1:Store} (ho:cs[i]? = some ⟨d,none, .call f args⟩) (hrd:isRd Z.es ⟨d,none, .call f args⟩=false) (ha:args.map (ev σ)=xs) (hs:S.Sub S1) (h:VCalls P f xs S fun r T=>r=v∧T=S1) (hz:Z.ok S1) (k:K (σ.put d v).look S1):atZ P Z cs i K σ.look S :=
 atF_op ho hrd ⟨.inr hs,by rw [qS,ha]; exact h⟩ hz k
theorem jZ {d:Option Nat} {op:COp} {v:V} {S1:Store} (ho:cs[i]? = some ⟨d,none,op⟩) (hrd:isRd Z.es ⟨d,none,op⟩=false) (hc:zt P (trnL Z.es d) σ.look S op v S1=(jh (evf σ.look) S op=some (v,S1))) (h:jh (ev σ) S op=some (v,S1)) (hz:Z.ok S1) (k:K (σ.put d v).look S1):atZ P Z cs i K σ.look S :=
 atF_op ho hrd (by rw [hc,qS]; exact h) hz k
end
section
variable {P:Program} {N b:Nat} {Q:Exit→Fr→Store→Prop} {σ:Fr} {S:Store}
theorem vw_drawAll {c c2:Code} {cs:List CO} {Q2:Exit→Fr→Store→Prop} (Z:ZZ) (h:Code.kind c=2) (hm:P.follows .mixedOrders=true) (hc:qu P N (Code.ops c)=some cs) (hE:zN (qU (Code.ops c)) cs Z.es=true) (hz:Z.ok S) (h0:Z.z0.Sub S) {sz:Nat} (hn:(Code.ops c).size=sz) (ord0:List Nat) (hB:lexP Z.es (qU (Code.ops c)) (Code.ops c) cs ord0 (Array.replicate sz false)=true) {cs0:List CO} (hp0:Kt cs ord0=cs0) {fuel:Nat} (hf:fuel+ord0.length=sz) (σm:Fr) (Sm:Store)
  (K:VWp P N b c2 Q2 σm Sm) (H:jQ P (some Z) cs0 (fun σ S=>anyZ P Z (Code.ops c) cs (fun τ S => ∃ σ':Fr,σ'.look=τ∧Reach N b σ' S σm Sm) fuel (setL ord0 (Array.replicate sz false)) σ.look S) σ S):VWp P N b c (JX (VWp P N b c2 Q2) Q) σ S:=by
 subst hn
 cases c with
 | region id ops d =>
  cases d
  ·simp [Code.kind] at h
  ·intro m β w a hS hF;simp only [Code.ops] at *
   obtain ⟨hlen,_⟩:=jaq hc;refine wp_region_any hm ?_;have hcl:zb ops (Array.replicate ops.size false):=by
    intro i o ho hi;have:i<ops.size:=(Array.getElem?_eq_some_iff.1 ho).1;simp [this] at hi
   have H0:=zh _ σ S H;rw [←hp0] at H0;have H1:=anyZ_ordP (P:=P) (Z:=Z) hlen ord0 _ σ.look S hcl hB (zR (fun τ S h=>by
    obtain ⟨σ1,e,h⟩:=h;subst e; exact h) H0)
   rw [hf] at H1;have H':anyZ P Z ops cs (fun τ S => ∃ σ':Fr,σ'.look=τ∧(JX (VWp P N b c2 Q2) Q) .normal σ' S) ops.size (Array.replicate ops.size false) σ.look S:=anyZ_mono (fun τ S ⟨σ',e,hr⟩=>⟨σ',e,js hr K⟩) _ _ _ _ H1;exact KP hc hE ops.size _ σ S m β _ a H' hcl hz (fun _=>h0) hS.drew hF ((Ext.drew m β w).toB b)
 | _=>simp [Code.kind] at h
end
end Go.Vw

namespace Go.Vw
open Go.Proofs Go.RowKit
set_option maxRecDepth 10000
set_option maxHeartbeats 2000000
theorem rkind_v (t:Int):VPure Tryz.prog 85 [vint t] (.bool (Ss.isKind t)):=by
 intro S;refine jb (c:=jg Tryz.f85) Tryz.func85 rfl rfl (by simp [Tryz.ntmps85]) ?_;rw [Tryz.ntmps85];intro hwf
 by_cases h:t=127
 ·repeat first|refine QG ?_|refine QY ?_ (r:=by conv=>lhs;simp[-List.map_set,QV,h])
  exact ja hwf (by simp [Ss.isKind,h]) rfl
 ·repeat first|refine QG ?_|refine QY ?_ (r:=by conv=>lhs;simp[-List.map_set,QV,h])
  exact ja hwf (by simp [Ss.isKind,h]) rfl
theorem Zc (most:Nat) (l:List Int) (hl:l.length<2^63):VPure Tryz.prog 42 [vl vint l,vnat most] (.bool (Ss.kinds most l)):=by
 intro S
 by_cases h:l.length≤most
 case neg =>
  have h':(most:Int)<(l.length:Int):=by omega
  have hX:Ss.kinds most l=false:=by simp [Ss.kinds,h]
  rw [hX];refine jb (c:=jg Tryz.f42) Tryz.func42 rfl rfl (by simp [Tryz.ntmps42]) ?_;rw [Tryz.ntmps42];intro hwf
  repeat first|refine QG ?_|refine QY ?_ (r:=by conv=>lhs;simp[-List.map_set,QV,h,h'])
  exact ja hwf rfl rfl
 have h' : ¬ (most:Int)<(l.length:Int):=by omega
 have hX:Ss.kinds most l=l.all Ss.isKind:=by simp [Ss.kinds,h]
 rw [hX];refine jb (c:=jg Tryz.f42) Tryz.func42 rfl rfl (by simp [Tryz.ntmps42]) ?_;rw [Tryz.ntmps42];intro hwf
 repeat first|refine QG ?_|refine QY ?_ (r:=by conv=>lhs;simp[-List.map_set,QV,h,h'])
 repeat refine QS ?_
 refine je [0,5] rfl (fun c σ S' => ∃ (k:Nat),k≤l.length∧c=l.length-k∧(l.drop k).all Ss.isKind=l.all Ss.isKind∧σ=[(0,vl vint l),(5,vnat k)]∧S'=St S [] []) l.length ?_ ?_
 ·exact ⟨0,by omega,rfl,rfl,by simp [Fr.only],rfl⟩
 ·rintro c σ T ⟨k,hk,rfl,hd,rfl,rfl⟩
  by_cases hkt:k<l.length
  ·have hst:=Ss.drop_all Ss.isKind hkt;have hw:=jn hkt hl
   repeat first|refine QG ?_|refine QY ?_ (r:=by conv=>lhs;simp[-List.map_set,QV,hkt])
   repeat refine QS ?_
   refine QP ?_ (r:=by conv=>lhs;simp[-List.map_set,QV,hkt]);refine jc (rkind_v l[k]) (by rfl) ?_;generalize Ss.isKind l[k]=z at *
   by_cases hz:z=true
   ·refine QM (by conv=>lhs;simp[-List.map_set,QV,hz]) ?_;refine QN ?_
    repeat first|refine QG ?_|refine QY ?_ (r:=by conv=>lhs;simp[-List.map_set,QV,hw,hkt])
    show jz _ _ _ _ _ _ _;exact again ⟨by omega,k+1,by omega,rfl,by rw [←hd,hst,hz,Bool.true_and],by simp [Fr.only],rfl⟩
   ·have hz':z=false:=by simpa using hz
    refine QM (by conv=>lhs;simp[-List.map_set,QV,hz']) ?_;refine QN ?_
    repeat first|refine QG ?_|refine QY ?_
    rw [←hd,hst,hz',Bool.false_and];exact ja hwf rfl rfl
  ·repeat first|refine QG ?_|refine QY ?_ (r:=by conv=>lhs;simp[-List.map_set,QV,hkt])
   rw [←hd,Ss.drop_all_end _ hkt];exact ja hwf rfl rfl
theorem rsig_v (s:Ss.Sig) (hs:s.Fits):VPure Tryz.prog 43 [jS s] (.bool s.right):=by
 intro S;obtain ⟨⟨h1,_⟩,⟨h2,_⟩⟩:=hs;obtain ⟨a,b⟩:=s;simp only at h1 h2;have hX:Ss.Sig.right ⟨a,b⟩=(Ss.kinds 8 a&&Ss.kinds 8 b):=rfl;rw [hX];have c1:VPure Tryz.prog 42 [vl vint a, .int .i64 8] (.bool (Ss.kinds 8 a)):=Zc 8 a (by omega);have c2:VPure Tryz.prog 42 [vl vint b, .int .i64 8] (.bool (Ss.kinds 8 b)):=Zc 8 b (by omega);generalize Ss.kinds 8 a=x at *
 generalize Ss.kinds 8 b=y at *
 refine jb (c:=jg Tryz.f43) Tryz.func43 rfl rfl (by simp [Tryz.ntmps43]) ?_;rw [Tryz.ntmps43];intro hwf
 repeat first|refine QG ?_|refine QY ?_
 repeat refine QS ?_
 refine QP ?_;refine jc (c1) (by rfl) ?_
 by_cases hx:x=true
 ·refine QM (by conv=>lhs;simp[-List.map_set,QV,hx]) ?_;refine jc (c2) (by rfl) ?_;refine QW ?_
  repeat first|refine QG ?_|refine QY ?_
  exact ja hwf (by simp [hx]) rfl
 ·have hx':x=false:=by simpa using hx
  refine QM (by conv=>lhs;simp[-List.map_set,QV,hx']) ?_;refine QN ?_
  repeat first|refine QG ?_|refine QY ?_
  exact ja hwf (by simp [hx']) rfl
theorem REnvRight_v (e:Ss.Env) (he:e.Fits):VPure Tryz.prog 41 [zG e] (.bool e.right):=by
 intro S;obtain ⟨⟨h1,h2⟩,_,⟨h4,_⟩,h5⟩:=he;obtain ⟨sg,im,gl,mu,me⟩:=e;simp only at h1 h2 h4 h5;have hX:Ss.Env.right ⟨sg,im,gl,mu,me⟩=(decide (0≤im)&&decide (im≤sg.length)&&decide (sg.length≤64)&&decide (mu.length=gl.length)&&Ss.kinds 32 gl&&sg.all Ss.Sig.right):=rfl;rw [hX];have c1:VPure Tryz.prog 42 [vl vint gl, .int .i64 32] (.bool (Ss.kinds 32 gl)):=Zc 32 gl (by omega);generalize Ss.kinds 32 gl=x at *
 refine jb (c:=jg Tryz.f41) Tryz.func41 rfl rfl (by simp [Tryz.ntmps41]) ?_;rw [Tryz.ntmps41];intro hwf
 by_cases k3:(64:Int)<(sg.length:Int)
 ·repeat first|refine QG ?_|refine QY ?_ (r:=by conv=>lhs;simp[-List.map_set,QV,k3])
  exact ja hwf (by simp; omega) rfl
 by_cases k1:im<0
 ·repeat first|refine QG ?_|refine QY ?_ (r:=by conv=>lhs;simp[-List.map_set,QV,k1,k3])
  exact ja hwf (by simp; omega) rfl
 by_cases k2:(sg.length:Int)<im
 ·repeat first|refine QG ?_|refine QY ?_ (r:=by conv=>lhs;simp[-List.map_set,QV,k1,k2,k3])
  exact ja hwf (by simp; omega) rfl
 repeat first|refine QG ?_|refine QY ?_ (r:=by conv=>lhs;simp[-List.map_set,QV,k1,k2,k3])
 repeat refine QS ?_
 refine QP ?_ (r:=by conv=>lhs;simp[-List.map_set,QV,k1,k2,k3]);refine jc (c1) (by rfl) ?_
 by_cases hx:x=true
 case neg =>
  have hx':x=false:=by simpa using hx
  refine QM (by conv=>lhs;simp[-List.map_set,QV,hx']) ?_;refine QN ?_
  repeat first|refine QG ?_|refine QY ?_
  exact ja hwf (by simp [hx']) rfl
 by_cases k4:mu.length=gl.length
 case neg =>
  have k4' : ¬ (mu.length:Int)=(gl.length:Int):=by omega
  refine QM (by conv=>lhs;simp[-List.map_set,QV,hx,k4,k4']) ?_;refine QN ?_
  repeat first|refine QG ?_|refine QY ?_
  exact ja hwf (by simp [k4]) rfl
 have k4':(mu.length:Int)=(gl.length:Int):=by omega
 have hp:(decide (0≤im)&&decide (im≤sg.length)&&decide (sg.length≤64)&&decide (mu.length=gl.length))=true:=by simp [k4]; omega
 rw [hp,hx];refine QM (by conv=>lhs;simp[-List.map_set,QV,hx,k4,k4']) ?_;refine QN ?_
 repeat first|refine QG ?_|refine QY ?_
 have hl:sg.length<2^63:=by omega
 rw [Bool.true_and,Bool.true_and]
 repeat refine QS ?_
 refine je [1,3] rfl (fun c σ S' => ∃ (k:Nat),k≤sg.length∧c=sg.length-k∧(sg.drop k).all Ss.Sig.right=sg.all Ss.Sig.right∧σ=[(1, .ptr (lid S.nx 0) 0),(3,vnat k)]∧S'=St S [] [some (5,[vl jS sg,vint im,vl vint gl,vl V.bool mu, .bool me])]) sg.length ?_ ?_
 ·exact ⟨0,by omega,rfl,rfl,by simp [Fr.only],rfl⟩
 ·rintro c σ T ⟨k,hk,rfl,hd,rfl,rfl⟩
  by_cases hkt:k<sg.length
  ·have hst:=Ss.drop_all Ss.Sig.right hkt;have hw:=jn hkt hl;have c2:=rsig_v sg[k] (h2 _ (List.getElem_mem hkt));generalize hz0:Ss.Sig.right sg[k]=z at *
   obtain ⟨⟨a,b⟩,hb⟩ : ∃ s,sg[k]=s:=⟨_,rfl⟩
   rw [hb] at c2;have c2':VPure Tryz.prog 43 [.agg [vl vint a,vl vint b]] (.bool z):=c2
   repeat first|refine QG ?_|refine QY ?_ (r:=by conv=>lhs;simp[-List.map_set,QV,hkt])
   repeat refine QS ?_
   refine QP ?_ (r:=by conv=>lhs;simp[-List.map_set,QV,hkt,hb]);refine jc (c2') (by rfl) ?_
   by_cases hz:z=true
   ·refine QM (by conv=>lhs;simp[-List.map_set,QV,hz]) ?_;refine QN ?_
    repeat first|refine QG ?_|refine QY ?_ (r:=by conv=>lhs;simp[-List.map_set,QV,hw,hkt])
    show jz _ _ _ _ _ _ _;exact again ⟨by omega,k+1,by omega,rfl,by rw [←hd,hst,hz,Bool.true_and],by simp [Fr.only],rfl⟩
   ·have hz':z=false:=by simpa using hz
    refine QM (by conv=>lhs;simp[-List.map_set,QV,hz']) ?_;refine QN ?_
    repeat first|refine QG ?_|refine QY ?_
    rw [←hd,hst,hz',Bool.false_and];exact ja hwf rfl rfl
  ·repeat first|refine QG ?_|refine QY ?_ (r:=by conv=>lhs;simp[-List.map_set,QV,hkt])
   rw [←hd,Ss.drop_all_end _ hkt];exact ja hwf rfl rfl
end Go.Vw

namespace Ss
def putLs (i:Int):Nat→List Def→List (List Int)→Option (List Def)
 | _,ds,[]=>some ds
 | j,ds,l::r=>(put i ((j:Int)-1) ds l).bind fun d=>putLs i (j+1) d r
theorem jbb (i:Int) : ∀ (code:List Ins) (k:Nat) (ds:List Def),putLs i (k+1) ds (code.map (·.outs))=putCode i k ds code
 | [],k,ds=>rfl
 | x::r,k,ds=>by
  have e:(((k+1:Nat):Int)-1)=(k:Int):=by omega
  simp only [List.map_cons,putLs,putCode,e]
  congr 1
  funext d
  exact jbb i r (k+1) d
def Block.lists (b:Block):List (List Int):=b.params::b.code.map (·.outs)
theorem putLs_block (i:Nat) (ds:List Def) (b:Block):putLs i 0 ds b.lists=(put i (-1) ds b.params).bind fun d=>putCode i 0 d b.code:=by
 simp only [Block.lists,putLs]
 congr 1
 funext d
 exact jbb i b.code 0 d
theorem putLs_one {i:Int} {j:Nat} {ds:List Def} {ls:List (List Int)} (h:j<ls.length):putLs i j ds (ls.drop j)=(put i ((j:Int)-1) ds ls[j]).bind fun d=>putLs i (j+1) d (ls.drop (j+1)):=by
 rw [List.drop_eq_getElem_cons h,putLs]
theorem putLs_end {i:Int} {j:Nat} {ds:List Def} {ls:List (List Int)} (h : ¬ j<ls.length):putLs i j ds (ls.drop j)=some ds:=by
 have:ls.drop j=[]:=by rw [List.drop_eq_nil_iff]; omega
 rw [this,putLs]
end Ss
namespace Go.Vw
open Go.Proofs Go.RowKit
set_option maxRecDepth 10000
set_option maxHeartbeats 8000000
def qm (d:Ss.Def):V := .agg [vint (if d.made then d.block else -1),vint (if d.made then d.pos else 0)]
theorem WO (d:Ss.Def):(qm d).cells=[vint (if d.made then d.block else -1),vint (if d.made then d.pos else 0)]:=rfl
theorem JN (d:Ss.Def):(qm d).closed=true:=rfl
theorem encRDef_eq (d:Ss.Def):qm d = .agg [vint (if d.made then d.block else -1),vint (if d.made then d.pos else 0)]:=nr rfl
theorem zD (f:Nat→Nat) (l:List Ss.Def):V.renL f (jo qm l)=jo qm l:=JA JN f l
theorem zE (p:Nat→Bool) (l:List Ss.Def):V.idsL p (jo qm l)=true:=JB JN p l
def rdefsV:Option (List Ss.Def)→V
 | some d => .tuple [vl qm d, .bool true]
 | none => .tuple [.list [], .bool false]
theorem Defs_v (f:Ss.Fn) (hf:f.Fits) (hts:f.types.length≤1048576):VPure Tryz.prog 44 [qL f] (rdefsV (Ss.defsOf f)):=by
 intro S;obtain ⟨_,_,⟨hbl0,hbf⟩⟩:=hf;obtain ⟨⟨fi,fo⟩,ts,bs⟩:=f;simp only at hts hbl0 hbf;have hbl:bs.length<2^63:=by omega
 have htl:ts.length<2^63:=by omega
 generalize hD:Ss.defsOf ⟨⟨fi,fo⟩,ts,bs⟩=D;refine jb (c:=jg Tryz.f44) Tryz.func44 rfl rfl (by simp [Tryz.ntmps44]) ?_;rw [Tryz.ntmps44];intro hwf
 repeat refine QS ?_
 refine QY ?_
 repeat refine QS ?_
 refine QY ?_;refine zr 4 2 rfl (by conv=>lhs; simp [Fr.set]) ?_
 repeat first|refine QG ?_|refine QY ?_
 repeat refine QS ?_
 refine je [1,4,5] rfl (fun c σ S' => ∃ (k:Nat),k≤ts.length∧c=ts.length-k∧σ=[(1, .ptr (lid S.nx 0) 0),(4, .slice (lid S.nx 1) 0 k),(5,vnat k)]∧S'=St S [] [some (4,[vl vint fi,vl vint fo,vl vint ts,vl jd bs]),some (2,jo qm (List.replicate k ⟨false,0,0⟩))]) ts.length ?_ ?_
 ·exact ⟨0,by omega,rfl,by simp [Fr.only],by simp [jo]⟩
 ·rintro c σ T ⟨k,hk,rfl,rfl,rfl⟩
  by_cases hkt:k<ts.length
  ·have hw:=jn hkt htl;have hfl2:k*2=(jo qm (List.replicate k ⟨false,0,0⟩)).length:=by rw [Jc (enc:=qm) (s:=2) (fun _=>rfl)]; simp
   have hc16:(k+1)*16≤140737488355328:=by omega
   have hc1:k+1≤140737488355328:=by omega
   have hsnoc:jo qm (List.replicate (k+1) ⟨false,0,0⟩)=jo qm (List.replicate k ⟨false,0,0⟩)++[.int .i64 (-1), .int .i64 0]:=by rw [List.replicate_succ',zF,WO]; rfl
   repeat first|refine QG ?_|refine QY ?_ (r:=by conv=>lhs;simp[-List.map_set,QV,hkt,hfl2,hc16,hc1,rep0])
   refine jY [0,3] (by conv=>lhs; simp [Fr.only]) hwf (by decide) (by simp [-List.map_set,zD,zE]) (by conv=>lhs; simp [-List.map_set,zD,zE]) (by conv=>lhs; simp [-List.map_set,zD,zE]) (by conv=>lhs; simp [-List.map_set,zD,zE]) ⟨?_,k+1,hkt,rfl,by simp [hw],by rw [hsnoc]⟩;omega
  ·have hke:k=ts.length:=by omega
   subst hke
   repeat first|refine QG ?_|refine QY ?_ (r:=by conv=>lhs;simp[-List.map_set,QV,hkt])
   repeat refine QS ?_
   refine je [1,4,6] rfl (fun c σ S' => ∃ (k:Nat) (d:List Ss.Def),k≤bs.length∧c=bs.length-k∧d.length=ts.length∧(∀ x∈d,x.made=true→0≤x.block)∧Ss.putBlocks k d (bs.drop k)=D∧σ=[(1, .ptr (lid S.nx 0) 0),(4, .slice (lid S.nx 1) 0 ts.length),(6,vnat k)]∧S'=St S [] [some (4,[vl vint fi,vl vint fo,vl vint ts,vl jd bs]),some (2,jo qm d)]) bs.length ?_ ?_
   ·exact ⟨0,List.replicate ts.length ⟨false,0,0⟩,by omega,rfl,by simp,by simp,by rw [←hD]; rfl,by simp [Fr.only],rfl⟩
   ·rintro c σ T ⟨k,d,hk,rfl,hdl,hnn,hpd,rfl,rfl⟩
    by_cases hkt:k<bs.length
    ·have hw:=jn hkt hbl;have hst:=WB (ds:=d) hkt;rw [←Ss.putLs_block] at hst;have hbk:=hbf _ (List.getElem_mem hkt);obtain ⟨⟨ps,code,⟨tk,ta,to,az⟩⟩,hx⟩ : ∃ b,bs[k]=b:=⟨_,rfl⟩
     rw [hx] at hst hbk;obtain ⟨⟨hpl,_⟩,⟨hcl,hcf⟩,_⟩:=hbk;simp only at hst hpl hcl hcf;obtain ⟨L,hL⟩ : ∃ L,Ss.Block.lists ⟨ps,code,⟨tk,ta,to,az⟩⟩=L:=⟨_,rfl⟩
     rw [hL] at hst;have hLl:L.length=code.length+1:=by rw [←hL]; simp [Ss.Block.lists]
     repeat first|refine QG ?_|refine QY ?_ (r:=by conv=>lhs;simp[-List.map_set,QV,hkt,hx])
     repeat refine QS ?_
     refine je [1,4,6,7,8] rfl (fun c σ S' => ∃ (j:Nat) (d:List Ss.Def) (p:Int),j≤L.length∧c=L.length-j∧p=(j:Int)-1∧d.length=ts.length∧(∀ x∈d,x.made=true→0≤x.block)∧((Ss.putLs k j d (L.drop j)).bind fun d=>Ss.putBlocks (k+1) d (bs.drop (k+1)))=D∧σ=[(1, .ptr (lid S.nx 0) 0),(4, .slice (lid S.nx 1) 0 ts.length),(6,vnat k),(7, .ptr (lid S.nx 2) 0),(8, .int .i64 p)]∧S'=St S [] [some (4,[vl vint fi,vl vint fo,vl vint ts,vl jd bs]),some (2,jo qm d),some (6,[vl vint ps,vl jq code,vint tk,vint ta,vl jk to,vl vint az])]) L.length ?_ ?_
     ·exact ⟨0,d, -1,by omega,rfl,by omega,hdl,hnn,by rw [←hpd,hst]; rfl,by simp [Fr.only],rfl⟩
     ·rintro c σ T ⟨j,d,p,hj,rfl,hp,hdl,hnn,hpd,rfl,rfl⟩
      by_cases hjt:j<L.length
      ·have hwp:IntKind.i64.wrap (p+1)=p+1:=wrap_i64 (by omega) (by omega);have hpc:p<(code.length:Int):=by omega
       have hst:=Ss.putLs_one (i:=(k:Int)) (ds:=d) hjt;rw [hst] at hpd;obtain ⟨l,hl⟩ : ∃ l,L[j]=l:=⟨_,rfl⟩
       rw [hl, ←hp] at hpd;have hlen:l.length<2^63:=by
        cases j with
        | zero =>
         have:l=ps:=by rw [←hl]; simp [←hL,Ss.Block.lists]
         rw [this]; omega
        | succ m =>
         have hm:m<code.length:=by omega
         have:l=code[m].outs:=by rw [←hl]; simp [←hL,Ss.Block.lists]
         have hxf:=hcf _ (List.getElem_mem hm);obtain ⟨_,_,_,hxo,_⟩:=hxf;rw [this]; omega
       repeat first|refine QG ?_|refine QY ?_ (r:=by conv=>lhs;simp[-List.map_set,QV,hpc])
       refine WZ (fun σ S'=>σ=[(1, .ptr (lid S.nx 0) 0),(4, .slice (lid S.nx 1) 0 ts.length),(6,vnat k),(7, .ptr (lid S.nx 2) 0),(8, .int .i64 p),(9,vl vint l)]∧S'=St S [] [some (4,[vl vint fi,vl vint fo,vl vint ts,vl jd bs]),some (2,jo qm d),some (6,[vl vint ps,vl jq code,vint tk,vint ta,vl jk to,vl vint az])]) [1,4,6,7,8,9] ?_ ?_
       ·cases j with
        | zero =>
         obtain rfl:l=ps:=by rw [←hl]; simp [←hL,Ss.Block.lists]
         obtain rfl:p = -1:=by omega
         repeat first|refine QG ?_|refine QY ?_
         exact ⟨by simp [Fr.only],by simp⟩
        | succ m =>
         have hm:m<code.length:=by omega
         obtain rfl:p=(m:Int):=by omega
         obtain ⟨⟨o1,o2,o3,o4⟩,hxm⟩ : ∃ x,code[m]=x:=⟨_,rfl⟩
         obtain rfl:l=o4:=by
          have:l=code[m].outs:=by rw [←hl]; simp [←hL,Ss.Block.lists]
          rw [this,hxm]
         repeat first|refine QG ?_|refine QY ?_ (r:=by conv=>lhs;simp[-List.map_set,QV,hm,hxm])
         exact ⟨by simp [Fr.only],by simp⟩
       rintro σ S' ⟨rfl,rfl⟩
       repeat first|refine QG ?_|refine QY ?_
       repeat refine QS ?_
       refine je [1,4,6,7,8,9,10] rfl (fun c σ S' => ∃ (m:Nat) (d2:List Ss.Def),m≤l.length∧c=l.length-m∧d2.length=ts.length∧(∀ x∈d2,x.made=true→0≤x.block)∧(((Ss.put k p d2 (l.drop m)).bind fun d=>Ss.putLs k (j+1) d (L.drop (j+1))).bind fun d=>Ss.putBlocks (k+1) d (bs.drop (k+1)))=D∧σ=[(1, .ptr (lid S.nx 0) 0),(4, .slice (lid S.nx 1) 0 ts.length),(6,vnat k),(7, .ptr (lid S.nx 2) 0),(8, .int .i64 p),(9,vl vint l),(10,vnat m)]∧S'=St S [] [some (4,[vl vint fi,vl vint fo,vl vint ts,vl jd bs]),some (2,jo qm d2),some (6,[vl vint ps,vl jq code,vint tk,vint ta,vl jk to,vl vint az])]) l.length ?_ ?_
       ·exact ⟨0,d,by omega,rfl,hdl,hnn,hpd,by simp [Fr.only],rfl⟩
       ·rintro c σ T ⟨m,d2,hm,rfl,hdl,hnn,hpd,rfl,rfl⟩
        by_cases hmt:m<l.length
        ·have hwm:=jn hmt hlen;have hst:Ss.put k p d2 (l.drop m)=if l[m]<0∨(d2.length:Int)≤l[m]∨(d2.getD l[m].toNat default).made=true then none else Ss.put k p (d2.set l[m].toNat ⟨true,k,p⟩) (l.drop (m+1)):=by rw [List.drop_eq_getElem_cons hmt,Ss.put]
         obtain ⟨v,hxv⟩ : ∃ v,l[m]=v:=⟨_,rfl⟩
         rw [hxv] at hst;have bad:(v<0∨(d2.length:Int)≤v∨(d2.getD v.toNat default).made=true)→D=none:=fun hb=>by rw [←hpd,hst,if_pos hb]; rfl
         by_cases q1:v<0
         ·repeat first|refine QG ?_|refine QY ?_ (r:=by conv=>lhs;simp[-List.map_set,QV,hmt,hxv,q1])
          obtain rfl:=bad (.inl q1);exact ji hwf ((Ghost.tuple [] [_] (Ghost.nils_list _)).toB _) rfl
         obtain ⟨n,rfl⟩ : ∃ n:Nat,v=n:=⟨v.toNat,by omega⟩
         by_cases q2:n<d2.length
         case neg =>
          have q2':(ts.length:Int)≤(n:Int):=by omega
          obtain rfl:=bad (.inr (.inl (by omega)))
          repeat first|refine QG ?_|refine QY ?_ (r:=by conv=>lhs;simp[-List.map_set,QV,hmt,hxv,q1,q2'])
          exact ji hwf ((Ghost.tuple [] [_] (Ghost.nils_list _)).toB _) rfl
         have q2' : ¬ (ts.length:Int)≤(n:Int):=by omega
         obtain ⟨⟨dm,db,dp⟩,hdx⟩ : ∃ x,d2[n]=x:=⟨_,rfl⟩
         have hdg:d2.getD (n:Int).toNat default=⟨dm,db,dp⟩:=by simp [q2,hdx]
         have hcell:(jo qm d2)[n*2]? = some (vint (if dm then db else -1)):=WL (enc:=qm) (s:=2) (fun _=>rfl) d2 n 0 ⟨dm,db,dp⟩ _ (by rw [←hdx]; exact List.getElem?_eq_getElem q2) rfl;have hfl:(jo qm d2).length=d2.length*2:=Jc (enc:=qm) (s:=2) (fun _=>rfl) d2;have hn2:n<ts.length:=by omega
         by_cases q3:dm=true
         ·obtain rfl:=bad (.inr (.inr (by rw [hdg]; exact q3)));subst q3;have hb0:0≤db:=by
           have:=hnn _ (List.getElem_mem q2);rw [hdx] at this;exact this rfl
          repeat first|refine QG ?_|refine QY ?_ (r:=by conv=>lhs;simp[-List.map_set,QV,hmt,hxv,q1,q2',hcell,hn2,hb0])
          exact ji hwf ((Ghost.tuple [] [_] (Ghost.nils_list _)).toB _) rfl
         ·obtain rfl:dm=false:=by simpa using q3
          have hfit:n*2+2≤(jo qm d2).length:=by omega
          rw [if_neg (by rw [hdg]; rintro (h | h | h)<;>first | exact q1 h | exact q3 h | omega)] at hst;have hfs:=jai (enc:=qm) (s:=2) (fun _=>rfl) ⟨true,k,p⟩ d2 n q2
          repeat first|refine QG ?_|refine QY ?_ (r:=by conv=>lhs;simp[-List.map_set,QV,hmt,hxv,q1,q2',hcell,hn2,hfit])
          show jz _ _ _ _ _ _ _;exact again ⟨Nat.sub_lt_sub_left hmt (Nat.lt_succ_self m),m+1,d2.set n ⟨true,k,p⟩,hmt,rfl,by simp [hdl],fun x hx hm=>(List.mem_or_eq_of_mem_set hx).elim (fun h=>hnn x h hm) (fun h=>by rw [h]; simp),by rw [←hpd,hst]; rfl,by simp [Fr.only,hwm],by rw [hfs]; simp [WO]⟩
        ·have e1:l.drop m=[]:=by rw [List.drop_eq_nil_iff]; omega
         rw [e1] at hpd;have hpd2:((Ss.putLs k (j+1) d2 (L.drop (j+1))).bind fun d=>Ss.putBlocks (k+1) d (bs.drop (k+1)))=D:=hpd
         repeat first|refine QG ?_|refine QY ?_ (r:=by conv=>lhs;simp[-List.map_set,QV,hmt,hwp])
         show jz _ _ _ _ _ _ _;exact again ⟨Nat.sub_lt_sub_left hjt (Nat.lt_succ_self j),j+1,d2,p+1,hjt,rfl,by omega,hdl,hnn,hpd2,by simp [Fr.only,hwp],rfl⟩
      ·have hpc : ¬ p<(code.length:Int):=by omega
       rw [Ss.putLs_end hjt] at hpd;simp only [Option.bind_some] at hpd
       repeat first|refine QG ?_|refine QY ?_ (r:=by conv=>lhs;simp[-List.map_set,QV,hpc])
       refine jY [0,1] (by conv=>lhs; simp [Fr.only]) hwf (by decide) (by simp [-List.map_set,zD,zE]) (by conv=>lhs; simp [-List.map_set,zD,zE]) (by conv=>lhs; simp [-List.map_set,zD,zE]) (by conv=>lhs; simp [-List.map_set,zD,zE]) ⟨?_,k+1,d,hkt,rfl,hdl,hnn,hpd,by simp [hw],by simp⟩;omega
    ·repeat first|refine QG ?_|refine QY ?_ (r:=by conv=>lhs;simp[-List.map_set,QV,hkt])
     have e1:bs.drop k=[]:=by rw [List.drop_eq_nil_iff]; omega
     rw [e1] at hpd;have hpe:D=some d:=by rw [←hpd]; rfl
     subst hpe;have hfz:=frzSt (B:=S) (u:=[]) (l:=[some (4,[vl vint fi,vl vint fo,vl vint ts,vl jd bs]),some (2,jo qm d)]) (k:=1) (enc:=qm) (s:=2) (fun _=>rfl) JN d (by simp) (by rfl);rw [hdl] at hfz;exact ji hwf ((Ghost.tuple [] [_] hfz).toB _) rfl
end Go.Vw

namespace Go.Vw
open Go.Proofs Go.RowKit
set_option maxRecDepth 10000
set_option maxHeartbeats 4000000
attribute [local simp] encRDef_eq
abbrev ckR (e:Ss.Env) (f:Ss.Fn) (ds:List Ss.Def) (near:List Int):V := .ref (.agg (ckC e f (vl qm ds) (vl vint near)))
theorem reqF_step {α:Type} {p:α→α→Bool} {l m:List α} {k:Nat} (h1:k<l.length) (h2:k<m.length):eqF p (l.drop k) (m.drop k)=(p l[k] m[k]&&eqF p (l.drop (k+1)) (m.drop (k+1))):=by
 rw [List.drop_eq_getElem_cons h1,List.drop_eq_getElem_cons h2,eqF]
theorem reqF_end {α:Type} {p:α→α→Bool} {l m:List α} {k:Nat} (h1 : ¬ k<l.length) (h2 : ¬ k<m.length):eqF p (l.drop k) (m.drop k)=true:=by
 have e1:l.drop k=[]:=by rw [List.drop_eq_nil_iff]; omega
 have e2:m.drop k=[]:=by rw [List.drop_eq_nil_iff]; omega
 rw [e1,e2,eqF]
theorem jbH (e:Ss.Env) (f:Ss.Fn) (ds:List Ss.Def) (near:List Int) (l:List Int) (hl:l.length≤1048576) (hv:Ss.InTs f.types.length l):VPure Tryz.prog 48 [ckR e f ds near,vl vint l] (vl vint (Ss.typesOf f.types l)):=by
 intro S;obtain ⟨⟨fi,fo⟩,ts,bs⟩:=f;simp only at hv;generalize hg:(fun v:Int=>ts.getD v.toNat 0)=g;have hX:Ss.typesOf ts l=l.map g:=by rw [Ss.typesOf,hg]
 simp only;rw [hX];refine jb (c:=jg Tryz.f48) Tryz.func48 rfl rfl (by simp [Tryz.ntmps48]) ?_;rw [Tryz.ntmps48];intro hwf
 repeat refine QS ?_
 refine QY ?_
 repeat refine QS ?_
 refine QY ?_;refine zr 5 1 rfl (by conv=>lhs; simp [Fr.set]) ?_
 repeat first|refine QG ?_|refine QY ?_
 repeat refine QS ?_
 refine je [0,1,5,6] rfl (fun c σ S' => ∃ (k:Nat) (out:List Int),k≤l.length∧c=l.length-k∧out=(l.take k).map g∧out.length=k∧σ=[(0,ckR e ⟨⟨fi,fo⟩,ts,bs⟩ ds near),(1,vl vint l),(5, .slice (lid S.nx 0) 0 k),(6,vnat k)]∧S'=St S [] [some (1,out.map vint)]) l.length ?_ ?_
 ·exact ⟨0,[],by omega,rfl,by simp,rfl,by simp [Fr.only],by simp⟩
 ·rintro c σ T ⟨k,out,hk,rfl,ho,hlen,rfl,rfl⟩
  by_cases hkt:k<l.length
  ·have hw:=jn hkt (by omega);obtain ⟨h0,h1⟩:=hv _ (List.getElem_mem hkt);obtain ⟨v,hx⟩ : ∃ v,l[k]=v:=⟨_,rfl⟩
   rw [hx] at h0 h1;obtain ⟨n,rfl⟩ : ∃ n:Nat,v=n:=⟨v.toNat,by omega⟩
   have hn:n<ts.length:=by omega
   have hgn:g (n:Int)=ts[n]:=by rw [←hg]; simp [hn]
   have htk:l.take (k+1)=l.take k++[(n:Int)]:=by rw [List.take_add_one,List.getElem?_eq_getElem hkt,hx]; rfl
   have hb:(k+1)*8≤140737488355328:=by omega
   have hb':k+1≤140737488355328:=by omega
   repeat first|refine QG ?_|refine QY ?_ (r:=by conv=>lhs;simp[-List.map_set,QV,hkt,hx,hn,hlen,hb,hb'])
   repeat refine QS ?_
   refine jP (St S [] [none]) (St S [] [none]) [] rfl (by kernel_rfl) (by conv=>lhs; reduce) (by conv=>lhs; reduce) (by kernel_rfl) (by kernel_rfl) (jm (by simp [subU,shpU,subL,shpL])) (by conv=>lhs; simp [-List.map_set,QV,hkt,hx,hn,hlen,hb,hb']) ?_;refine jf rfl (by conv=>lhs;simp[-List.map_set,QV,hkt,hx,hn,hlen,hb,hb']) (jm (by simp [subU,shpU,subL,shpL])) ?_;refine jf rfl (by conv=>lhs;simp[-List.map_set,QV,hkt,hx,hn,hlen,hb,hb']) (jm (by simp [subU,shpU,subL,shpL])) ?_;refine QW ?_
   repeat first|refine QG ?_|refine QY ?_ (r:=by conv=>lhs;simp[-List.map_set,QV,hkt,hx,hn,hlen,hb,hb'])
   refine QA [2] (h:=⟨?_,k+1,out++[ts[n]],hkt,rfl,by rw [htk,List.map_append,ho]; simp [hgn],by simp [hlen],by simp [hw],by simp⟩);omega
  ·have hke:k=l.length:=by omega
   subst hke;rw [List.take_length] at ho
   repeat first|refine QG ?_|refine QY ?_ (r:=by conv=>lhs;simp[-List.map_set,QV,hkt])
   rw [←ho];exact ji hwf ((frz1 (by simp) (by rfl) (jL vint (fun _=>rfl) _) (by simpa using hlen)).toB _) rfl
theorem jbI (e:Ss.Env) (f:Ss.Fn) (ds:List Ss.Def) (near:List Int) (block pos:Int) (l types:List Int) (hds:ds.length=f.types.length) (htl:f.types.length<2^63) (hnl:near.length<2^63) (hl:l.length<2^63) (hnn : ∀ x∈ds,x.made=true→0≤x.block) :
  VPure Tryz.prog 89 [ckR e f ds near,vl vint l,vl vint types,vint block,vint pos] (.bool (Ss.asks f.types ds near block pos l types)):=by
 intro S;obtain ⟨⟨fi,fo⟩,ts,bs⟩:=f;simp only at hds htl ⊢;unfold Ss.asks;generalize hP:Ss.askOk ts ds near block pos=P
 by_cases hlm:l.length=types.length
 case neg =>
  have hlm' : ¬ (l.length:Int)=(types.length:Int):=by omega
  rw [eqF_len hlm];refine jb (c:=jg Tryz.f89) Tryz.func89 rfl rfl (by simp [Tryz.ntmps89]) ?_;rw [Tryz.ntmps89];intro hwf
  repeat first|refine QG ?_|refine QY ?_ (r:=by conv=>lhs;simp[-List.map_set,QV,hlm,hlm'])
  exact ja hwf rfl rfl
 have hlm':(l.length:Int)=(types.length:Int):=by omega
 refine jb (c:=jg Tryz.f89) Tryz.func89 rfl rfl (by simp [Tryz.ntmps89]) ?_;rw [Tryz.ntmps89];intro hwf
 repeat first|refine QG ?_|refine QY ?_ (r:=by conv=>lhs;simp[-List.map_set,QV,hlm,hlm'])
 repeat refine QS ?_
 refine je [0,1,2,3,4,11] rfl (fun c σ S' => ∃ (k:Nat),k≤l.length∧c=l.length-k∧eqF P (l.drop k) (types.drop k)=eqF P l types∧σ=[(0,ckR e ⟨⟨fi,fo⟩,ts,bs⟩ ds near),(1,vl vint l),(2,vl vint types),(3,vint block),(4,vint pos),(11,vnat k)]∧S'=St S [] []) l.length ?_ ?_
 ·exact ⟨0,by omega,rfl,rfl,by simp [Fr.only],rfl⟩
 ·rintro c σ T ⟨k,hk,rfl,hd,rfl,rfl⟩
  by_cases hkt:k<l.length
  case neg =>
   have hkm : ¬ k<types.length:=by omega
   repeat first|refine QG ?_|refine QY ?_ (r:=by conv=>lhs;simp[-List.map_set,QV,hkt])
   rw [←hd,reqF_end hkt hkm];exact ja hwf rfl rfl
  have hkm:k<types.length:=by omega
  have hw:=jn hkt hl;have hst:=reqF_step (p:=P) hkt hkm;obtain ⟨v,hx⟩ : ∃ v,l[k]=v:=⟨_,rfl⟩
  obtain ⟨t,ht⟩ : ∃ t,types[k]=t:=⟨_,rfl⟩
  rw [hx,ht] at hst
  by_cases h0:v<0
  ·have e:P v t=false:=by rw [←hP]; simp [Ss.askOk]; omega
   rw [e,Bool.false_and,hd] at hst
   repeat first|refine QG ?_|refine QY ?_ (r:=by conv=>lhs;simp[-List.map_set,QV,hkt,hx,h0])
   rw [hst];exact ja hwf rfl rfl
  obtain ⟨n,rfl⟩ : ∃ n:Nat,v=n:=⟨v.toNat,by omega⟩
  by_cases hnt:n<ts.length
  case neg =>
   have h1':(ts.length:Int)≤(n:Int):=by omega
   have e:P n t=false:=by rw [←hP]; simp [Ss.askOk]; omega
   rw [e,Bool.false_and,hd] at hst
   repeat first|refine QG ?_|refine QY ?_ (r:=by conv=>lhs;simp[-List.map_set,QV,hkt,hx,h0,h1'])
   rw [hst];exact ja hwf rfl rfl
  have h1' : ¬ (ts.length:Int)≤(n:Int):=by omega
  have h1:n<ds.length:=by omega
  obtain ⟨tt,htt⟩ : ∃ x,ts[n]=x:=⟨_,rfl⟩
  obtain ⟨⟨dm,db,dp⟩,hdx⟩ : ∃ x,ds[n]=x:=⟨_,rfl⟩
  have hX:P n t=(decide (tt=t)&&(dm&&(if db=block then decide (dp<pos) else G.dominates near db block))):=by
   rw [←hP];simp [Ss.askOk,h1,hnt,htt,hdx,Bool.and_assoc]
  rw [hX] at hst
  by_cases h2:tt=t
  case neg =>
   rw [decide_eq_false h2,Bool.false_and,Bool.false_and,hd] at hst
   repeat first|refine QG ?_|refine QY ?_ (r:=by conv=>lhs;simp[-List.map_set,QV,hkt,hkm,hx,ht,h0,h1',hnt,htt,h2])
   rw [hst];exact ja hwf rfl rfl
  rw [decide_eq_true h2,Bool.true_and] at hst
  cases dm with
  | false =>
   rw [Bool.false_and,Bool.false_and,hd] at hst
   repeat first|refine QG ?_|refine QY ?_ (r:=by conv=>lhs;simp[-List.map_set,QV,hkt,hkm,hx,ht,h0,h1',hnt,htt,h2,h1,hdx])
   rw [hst];exact ja hwf rfl rfl
  | true =>
   have hb0 : ¬ db<0:=by
    have:=hnn _ (List.getElem_mem h1);rw [hdx] at this;have:=this rfl;simp only at this;omega
   rw [Bool.true_and] at hst
   by_cases h3:db=block
   ·rw [if_pos h3] at hst;subst h3
    by_cases h4:dp<pos
    ·have h4' : ¬ pos≤dp:=by omega
     rw [decide_eq_true h4,Bool.true_and,hd] at hst
     repeat first|refine QG ?_|refine QY ?_ (r:=by conv=>lhs;simp[-List.map_set,QV,hkt,hkm,hx,ht,h0,h1',hnt,htt,h2,h1,hdx,hb0,h4'])
     refine QA [] (h:=⟨?_,k+1,hkt,rfl,hst.symm,by simp [hw],by simp⟩);omega
    ·have h4':pos≤dp:=by omega
     rw [decide_eq_false h4,Bool.false_and,hd] at hst
     repeat first|refine QG ?_|refine QY ?_ (r:=by conv=>lhs;simp[-List.map_set,QV,hkt,hkm,hx,ht,h0,h1',hnt,htt,h2,h1,hdx,hb0,h4'])
     rw [hst];exact ja hwf rfl rfl
   ·rw [if_neg h3] at hst;have cd:=RDominates_v near db block hnl;generalize G.dominates near db block=y at *
    repeat first|refine QG ?_|refine QY ?_ (r:=by conv=>lhs;simp[-List.map_set,QV,hkt,hkm,hx,ht,h0,h1',hnt,htt,h2,h1,hdx,hb0,h3])
    repeat refine QS ?_
    refine QD (r:=by conv=>lhs;simp[-List.map_set,QV,hkt,hkm,hx,ht,h0,h1',hnt,htt,h2,h1,hdx,hb0,h3]) (k:=?_);refine jc (cd) (by rfl) ?_
    by_cases hy:y=true
    ·rw [hy,Bool.true_and,hd] at hst;refine QM (by conv=>lhs;simp[-List.map_set,QV,hy]) ?_;refine QN ?_
     repeat first|refine QG ?_|refine QY ?_
     refine QA [] (h:=⟨?_,k+1,hkt,rfl,hst.symm,by simp [hw],by simp⟩);omega
    ·have hy':y=false:=by simpa using hy
     rw [hy',Bool.false_and,hd] at hst;refine QM (by conv=>lhs;simp[-List.map_set,QV,hy']) ?_;refine QN ?_
     repeat first|refine QG ?_|refine QY ?_
     rw [hst];exact ja hwf rfl rfl
end Go.Vw
