import Derived.Test.YtenhhokhkkfgbaaGreatC11
import Derived.Test.YtenhhokhkkfgbaaGreatC18
import Derived.Test.YtenhhokhkkfgbaaGreatProg
import Derived.Test.YtenhhokhkkfgbaaGreatC19
/-
  Part of the proof (texts GRight, GRight2, GRight3, GFromW, GNear).
-/
set_option linter.unusedVariables false
set_option linter.unusedSimpArgs false
namespace Go.Vw
open Go.Proofs Go.RowKit
set_option maxRecDepth 10000
set_option maxHeartbeats 4000000
theorem wild_v (g:List (List Int)) (n:Int):VPure Tryz.prog 136 [vint n, .ref (vl (vl vint) g)] (.bool (G.wild g.length n)):=by
 intro S
 refine vcalls_gives rfl ?_
 refine vcalls_body (c:=bodyOf Tryz.f136) Tryz.func136 rfl rfl (by simp [Tryz.ntmps136]) ?_
 rw [Tryz.ntmps136]
 repeat refine QS ?_
 refine QR (r:=by conv=>lhs;simp[-List.map_set,QV]) (k:=?_)
 refine QN ?_
 by_cases h0:n<0
 ·repeat refine QS ?_
  refine QR (r:=by conv=>lhs;simp[-List.map_set,QV,opLen_vl,h0]) (k:=?_)
  refine QN ?_
  repeat refine QS ?_
  refine vw_retAt rfl ?_
  have:G.wild g.length n=true:=by simp [G.wild,h0]
  rw [this]
  exact Gives.same (Agree.refl S)
 ·repeat refine QS ?_
  refine QR (r:=by conv=>lhs;simp[-List.map_set,QV,opLen_vl,h0]) (k:=?_)
  refine QN ?_
  repeat refine QS ?_
  refine vw_retAt rfl ?_
  have:G.wild g.length n=decide ((g.length:Int)≤n):=by simp [G.wild,h0]
  rw [this]
  exact Gives.same (Agree.refl S)
theorem IndexWild_v (g:List (List Int)) (l:List Int) (hl:l.length<2^63):VPure Tryz.prog 74 [vl vint l, .func 136 [.ref (vl (vl vint) g)]] (vint (G.find (G.wild g.length) l 0)):=by
 intro S
 refine vcalls_gives rfl ?_
 refine vcalls_body (c:=bodyOf Tryz.f74) Tryz.func74 rfl rfl (by simp [Tryz.ntmps74]) ?_
 rw [Tryz.ntmps74]
 repeat refine QS ?_
 refine QR (r:=by conv=>lhs;simp[-List.map_set,QV]) (k:=?_)
 refine QN ?_
 repeat refine QS ?_
 refine QR (r:=by conv=>lhs;simp[-List.map_set,QV,opLen_vl]) (k:=?_)
 refine QN ?_
 repeat refine QS ?_
 refine vw_blockAt 0 rfl rfl ?_
 repeat refine QS ?_
 refine vw_loopAt [0,1,7,8] rfl (fun n σ S' => ∃ (k:Nat),k≤l.length∧n=l.length-k∧G.find (G.wild g.length) (l.drop k) k=G.find (G.wild g.length) l 0∧σ=[(0,vl vint l),(1, .func 136 [.ref (vl (vl vint) g)]),(7,vnat l.length),(8,vnat k)]∧S'=S) l.length ?_ ?_
 ·exact ⟨0,by omega,rfl,rfl,by simp [Fr.only,Fr.look,vnat,vint],rfl⟩
 ·rintro n σ S' ⟨k,hk,rfl,hd,rfl,rfl⟩
  by_cases hk6:k<l.length
  ·have h7:(k:Int)<(l.length:Int):=by omega
   have hst:G.find (G.wild g.length) (l.drop k) k=if G.wild g.length l[k] then (k:Int) else G.find (G.wild g.length) (l.drop (k+1)) (k+1):=by
    rw [List.drop_eq_getElem_cons hk6,G.find]
   have hw:IntKind.i64.wrap ((k:Int)+1)=(k:Int)+1:=wrap_i64 (by omega) (by omega)
   repeat refine QS ?_
   refine QR (r:=by conv=>lhs;simp[-List.map_set,QV,h7]) (k:=?_)
   refine QN ?_
   repeat refine QS ?_
   refine vw_condT rfl rfl rfl ?_
   repeat refine QS ?_
   refine vw_skipAt rfl ?_
   repeat refine QS ?_
   refine vw_blockAt 1 rfl rfl ?_
   repeat refine QS ?_
   refine QR (r:=by conv=>lhs;simp[-List.map_set,QV]) (k:=?_)
   refine QN ?_
   repeat refine QS ?_
   refine QR (r:=by conv=>lhs;simp[-List.map_set,QV,opIndex_vl,hk6]) (k:=?_)
   refine vcallv_use rfl rfl rfl (wild_v g l[k]) ?_
   refine QM (by conv=>lhs;simp[-List.map_set,QV]) ?_
   refine QN ?_
   by_cases hc:G.wild g.length l[k]=true
   ·refine vw_condT rfl rfl (by simp [ev,Fr.look,hc]) ?_
    repeat refine QS ?_
    refine QR (r:=by conv=>lhs;simp[-List.map_set,QV]) (k:=?_)
    refine QN ?_
    repeat refine QS ?_
    refine vw_retAt rfl ?_
    rw [←hd,hst,if_pos hc]
    exact Gives.same (Agree.refl S')
   ·rw [if_neg hc] at hst
    refine vw_condF rfl rfl (by simp [ev,Fr.look,hc]) ?_
    repeat refine QS ?_
    refine vw_skipAt rfl ?_
    repeat refine QS ?_
    refine QR (r:=by conv=>lhs;simp[-List.map_set,QV,hw]) (k:=?_)
    refine QN ?_
    exact again ⟨Nat.sub_lt_sub_left (by omega) (Nat.lt_succ_self k),k+1,by omega,rfl,by rw [←hd,hst],by simp [Fr.only,Fr.look,vnat,vint],rfl⟩
  ·have h7 : ¬ (k:Int)<(l.length:Int):=by omega
   repeat refine QS ?_
   refine QR (r:=by conv=>lhs;simp[-List.map_set,QV,h7]) (k:=?_)
   refine QN ?_
   repeat refine QS ?_
   refine vw_condF rfl rfl rfl ?_
   repeat refine QS ?_
   refine vw_exitAt 0 rfl rfl ?_
   repeat refine QS ?_
   refine QR (r:=by conv=>lhs;simp[-List.map_set,QV]) (k:=?_)
   refine QN ?_
   repeat refine QS ?_
   refine vw_retAt rfl ?_
   have:l.drop k=[]:=by rw [List.drop_eq_nil_iff]; omega
   rw [←hd,this]
   exact Gives.same (Agree.refl S')
theorem AnyWild_v (g:List (List Int)) (l:List Int) (hl:l.length<2^63):VPure Tryz.prog 94 [vl vint l, .func 136 [.ref (vl (vl vint) g)]] (.bool (l.any (G.wild g.length))):=by
 intro S
 refine vcalls_gives rfl ?_
 refine vcalls_body (c:=bodyOf Tryz.f94) Tryz.func94 rfl rfl (by simp [Tryz.ntmps94]) ?_
 rw [Tryz.ntmps94]
 rw [←G.find_any (G.wild g.length) l 0]
 repeat refine QS ?_
 refine QR (r:=by conv=>lhs;simp[-List.map_set,QV]) (k:=?_)
 refine QN ?_
 repeat refine QS ?_
 refine QR (r:=by conv=>lhs;simp[-List.map_set,QV]) (k:=?_)
 refine vcall_use rfl (IndexWild_v g l hl) ?_
 refine QM (by conv=>lhs;simp[-List.map_set,QV]) ?_
 refine QN ?_
 repeat refine QS ?_
 refine vw_retAt rfl ?_
 exact Gives.same (Agree.refl S)
end Go.Vw

namespace Go.Vw
open Go.Proofs Go.RowKit
set_option maxRecDepth 10000
set_option maxHeartbeats 4000000
theorem Right_v (g:List (List Int)) (hg:g.length<2^63) (hl : ∀ l∈g,l.length<2^63):VPure Tryz.prog 118 [vl (vl vint) g] (.bool (G.right g)):=by
 intro S
 refine vcalls_gives rfl ?_
 refine vcalls_body (c:=bodyOf Tryz.f118) Tryz.func118 rfl rfl (by simp [Tryz.ntmps118]) ?_
 rw [Tryz.ntmps118]
 repeat refine QS ?_
 refine QR (r:=by conv=>lhs;simp[-List.map_set,QV]) (k:=?_)
 refine QN ?_
 refine vw_ghost' 1 rfl (Ghost.box (get_add _ _) (closed1_vl _ _)) (by conv=>lhs; simp [Fr.set]) ?_
 have hag:Agree S ((S.add (1,[vl (vl vint) g])).del S.nx):=((Agree.refl S).add _).del (Nat.le_refl _)
 generalize (S.add (1,[vl (vl vint) g])).del S.nx=S1 at hag ⊢
 by_cases h0:(g.length:Int)=0
 ·have hq:((g.length:Int)==0)=true:=by simp [h0]
  repeat refine QS ?_
  refine QR (r:=by conv=>lhs;simp[-List.map_set,QV,opLen_vl,hq]) (k:=?_)
  refine QN ?_
  repeat refine QS ?_
  refine vw_condT rfl rfl rfl ?_
  repeat refine QS ?_
  refine QR (r:=by conv=>lhs;simp[-List.map_set,QV]) (k:=?_)
  refine QN ?_
  repeat refine QS ?_
  refine vw_retAt rfl ?_
  have:G.right g=false:=by simp [G.right]; omega
  rw [this]
  exact Gives.same hag
 ·have hq:((g.length:Int)==0)=false:=by simpa using h0
  by_cases h1:(256:Int)<g.length
  ·repeat refine QS ?_
   refine QR (r:=by conv=>lhs;simp[-List.map_set,QV,opLen_vl,hq,h1]) (k:=?_)
   refine QN ?_
   repeat refine QS ?_
   refine vw_condT rfl rfl rfl ?_
   repeat refine QS ?_
   refine QR (r:=by conv=>lhs;simp[-List.map_set,QV]) (k:=?_)
   refine QN ?_
   repeat refine QS ?_
   refine vw_retAt rfl ?_
   have:G.right g=false:=by simp [G.right]; omega
   rw [this]
   exact Gives.same hag
  ·have hfin:G.right g=g.all (G.rowOk g.length):=by
    have a1:decide (1≤g.length)=true:=by simp; omega
    have a2:decide (g.length≤256)=true:=by simp; omega
    simp [G.right,a1,a2]
   rw [hfin]
   repeat refine QS ?_
   refine QR (r:=by conv=>lhs;simp[-List.map_set,QV,opLen_vl,hq,h1]) (k:=?_)
   refine QN ?_
   repeat refine QS ?_
   refine vw_condF rfl rfl rfl ?_
   repeat refine QS ?_
   refine vw_skipAt rfl ?_
   repeat refine QS ?_
   refine QR (r:=by conv=>lhs;simp[-List.map_set,QV,opLen_vl]) (k:=?_)
   refine QN ?_
   repeat refine QS ?_
   refine vw_blockAt 0 rfl rfl ?_
   repeat refine QS ?_
   refine vw_loopAt [0,1,13,14,15] rfl (fun n σ S' => ∃ (k:Nat),k≤g.length∧n=g.length-k∧(g.drop k).all (G.rowOk g.length)=g.all (G.rowOk g.length)∧σ=[(0,vl (vl vint) g),(1, .ref (vl (vl vint) g)),(13,vl (vl vint) g),(14,vnat g.length),(15,vnat k)]∧S'=S1) g.length ?_ ?_
   ·exact ⟨0,by omega,rfl,rfl,by simp [Fr.only,Fr.look,vnat,vint],rfl⟩
   ·rintro n σ S' ⟨k,hk,rfl,hd,rfl,rfl⟩
    by_cases hk6:k<g.length
    ·have h7:(k:Int)<(g.length:Int):=by omega
     have hst:(g.drop k).all (G.rowOk g.length)=(G.rowOk g.length g[k]&&(g.drop (k+1)).all (G.rowOk g.length)):=by
      rw [List.drop_eq_getElem_cons hk6,List.all_cons]
     have hw:IntKind.i64.wrap ((k:Int)+1)=(k:Int)+1:=wrap_i64 (by omega) (by omega)
     have hlk:g[k].length<2^63:=hl _ (List.getElem_mem hk6)
     repeat refine QS ?_
     refine QR (r:=by conv=>lhs;simp[-List.map_set,QV,h7]) (k:=?_)
     refine QN ?_
     repeat refine QS ?_
     refine vw_condT rfl rfl rfl ?_
     repeat refine QS ?_
     refine vw_skipAt rfl ?_
     repeat refine QS ?_
     refine vw_blockAt 1 rfl rfl ?_
     repeat refine QS ?_
     refine QR (r:=by conv=>lhs;simp[-List.map_set,QV,opIndex_vl,hk6]) (k:=?_)
     refine QN ?_
     by_cases h2:(128:Int)<g[k].length
     ·repeat refine QS ?_
      refine QR (r:=by conv=>lhs;simp[-List.map_set,QV,opLen_vl,h2]) (k:=?_)
      refine QN ?_
      repeat refine QS ?_
      refine vw_condT rfl rfl rfl ?_
      repeat refine QS ?_
      refine QR (r:=by conv=>lhs;simp[-List.map_set,QV]) (k:=?_)
      refine QN ?_
      repeat refine QS ?_
      refine vw_retAt rfl ?_
      have:G.rowOk g.length g[k]=false:=by simp [G.rowOk]; omega
      rw [←hd,hst,this]
      exact Gives.same hag
     ·have h3:G.rowOk g.length g[k] = !(g[k].any (G.wild g.length)):=by
       have:decide (g[k].length≤128)=true:=by simp; omega
       simp [G.rowOk,this]
      rw [h3] at hst
      repeat refine QS ?_
      refine QR (r:=by conv=>lhs;simp[-List.map_set,QV,opLen_vl,h2]) (k:=?_)
      refine vcall_use rfl (AnyWild_v g g[k] hlk) ?_
      refine QM (by conv=>lhs;simp[-List.map_set,QV]) ?_
      refine QN ?_
      cases hc:g[k].any (G.wild g.length)
      ·rw [hc] at hst
       refine vw_condF rfl rfl (by simp [ev,Fr.look,hc]) ?_
       repeat refine QS ?_
       refine vw_skipAt rfl ?_
       repeat refine QS ?_
       refine QR (r:=by conv=>lhs;simp[-List.map_set,QV,hw]) (k:=?_)
       refine QN ?_
       exact again ⟨Nat.sub_lt_sub_left (by omega) (Nat.lt_succ_self k),k+1,by omega,rfl,by rw [←hd,hst]; rfl,by simp [Fr.only,Fr.look,vnat,vint],rfl⟩
      ·rw [hc] at hst
       refine vw_condT rfl rfl (by simp [ev,Fr.look,hc]) ?_
       repeat refine QS ?_
       refine QR (r:=by conv=>lhs;simp[-List.map_set,QV]) (k:=?_)
       refine QN ?_
       repeat refine QS ?_
       refine vw_retAt rfl ?_
       rw [←hd,hst]
       exact Gives.same hag
    ·have h7 : ¬ (k:Int)<(g.length:Int):=by omega
     repeat refine QS ?_
     refine QR (r:=by conv=>lhs;simp[-List.map_set,QV,h7]) (k:=?_)
     refine QN ?_
     repeat refine QS ?_
     refine vw_condF rfl rfl rfl ?_
     repeat refine QS ?_
     refine vw_exitAt 0 rfl rfl ?_
     repeat refine QS ?_
     refine QR (r:=by conv=>lhs;simp[-List.map_set,QV]) (k:=?_)
     refine QN ?_
     repeat refine QS ?_
     refine vw_retAt rfl ?_
     have:g.drop k=[]:=by rw [List.drop_eq_nil_iff]; omega
     rw [←hd,this]
     exact Gives.same hag
end Go.Vw

namespace Go.Vw
open Go.Proofs Go.RowKit
set_option maxRecDepth 10000
set_option maxHeartbeats 4000000
theorem RRight_v (g:List (List Int)) (hg:g.length<2^63) (hl : ∀ l∈g,l.length<2^63):VPure Tryz.prog 43 [vl (vl vint) g] (.bool (G.right g)):=by
 intro S
 refine vcalls_gives rfl ?_
 refine vcalls_body (c:=bodyOf Tryz.f43) Tryz.func43 rfl rfl (by simp [Tryz.ntmps43]) ?_
 rw [Tryz.ntmps43]
 repeat refine QS ?_
 refine QR (r:=by conv=>lhs;simp[-List.map_set,QV]) (k:=?_)
 refine QN ?_
 by_cases h0:(g.length:Int)<1
 ·repeat refine QS ?_
  refine QR (r:=by conv=>lhs;simp[-List.map_set,QV,opLen_vl,h0]) (k:=?_)
  refine QN ?_
  repeat refine QS ?_
  refine vw_condT rfl rfl rfl ?_
  repeat refine QS ?_
  refine QR (r:=by conv=>lhs;simp[-List.map_set,QV]) (k:=?_)
  refine QN ?_
  repeat refine QS ?_
  refine vw_retAt rfl ?_
  have:G.right g=false:=by simp [G.right]; omega
  rw [this]
  exact Gives.same (Agree.refl S)
 ·by_cases h1:(256:Int)<g.length
  ·repeat refine QS ?_
   refine QR (r:=by conv=>lhs;simp[-List.map_set,QV,opLen_vl,h0,h1]) (k:=?_)
   refine QN ?_
   repeat refine QS ?_
   refine vw_condT rfl rfl rfl ?_
   repeat refine QS ?_
   refine QR (r:=by conv=>lhs;simp[-List.map_set,QV]) (k:=?_)
   refine QN ?_
   repeat refine QS ?_
   refine vw_retAt rfl ?_
   have:G.right g=false:=by simp [G.right]; omega
   rw [this]
   exact Gives.same (Agree.refl S)
  ·have hfin:G.right g=g.all (G.rowOk g.length):=by
    have a1:decide (1≤g.length)=true:=by simp; omega
    have a2:decide (g.length≤256)=true:=by simp; omega
    simp [G.right,a1,a2]
   rw [hfin]
   repeat refine QS ?_
   refine QR (r:=by conv=>lhs;simp[-List.map_set,QV,opLen_vl,h0,h1]) (k:=?_)
   refine QN ?_
   repeat refine QS ?_
   refine vw_condF rfl rfl rfl ?_
   repeat refine QS ?_
   refine vw_skipAt rfl ?_
   repeat refine QS ?_
   refine QR (r:=by conv=>lhs;simp[-List.map_set,QV]) (k:=?_)
   refine QN ?_
   repeat refine QS ?_
   refine vw_blockAt 0 rfl rfl ?_
   repeat refine QS ?_
   refine vw_loopAt [0,3] rfl (fun n σ S' => ∃ (k:Nat),k≤g.length∧n=g.length-k∧(g.drop k).all (G.rowOk g.length)=g.all (G.rowOk g.length)∧σ=[(0,vl (vl vint) g),(3,vnat k)]∧S'=S) g.length ?_ ?_
   ·exact ⟨0,by omega,rfl,rfl,by simp [Fr.only,Fr.look,vnat,vint],rfl⟩
   ·rintro n σ S' ⟨k,hk,rfl,hd,rfl,rfl⟩
    by_cases hk6:k<g.length
    ·have h7:(k:Int)<(g.length:Int):=by omega
     have hst:(g.drop k).all (G.rowOk g.length)=(G.rowOk g.length g[k]&&(g.drop (k+1)).all (G.rowOk g.length)):=by
      rw [List.drop_eq_getElem_cons hk6,List.all_cons]
     have hw:IntKind.i64.wrap ((k:Int)+1)=(k:Int)+1:=wrap_i64 (by omega) (by omega)
     have hlk:g[k].length<2^63:=hl _ (List.getElem_mem hk6)
     repeat refine QS ?_
     refine QR (r:=by conv=>lhs;simp[-List.map_set,QV,opLen_vl,h7]) (k:=?_)
     refine QN ?_
     repeat refine QS ?_
     refine vw_condT rfl rfl rfl ?_
     repeat refine QS ?_
     refine vw_skipAt rfl ?_
     repeat refine QS ?_
     refine vw_blockAt 1 rfl rfl ?_
     by_cases h2:(128:Int)<g[k].length
     ·repeat refine QS ?_
      refine QR (r:=by conv=>lhs;simp[-List.map_set,QV,opIndex_vl,hk6,opLen_vl,h2]) (k:=?_)
      refine QN ?_
      repeat refine QS ?_
      refine vw_condT rfl rfl rfl ?_
      repeat refine QS ?_
      refine QR (r:=by conv=>lhs;simp[-List.map_set,QV]) (k:=?_)
      refine QN ?_
      repeat refine QS ?_
      refine vw_retAt rfl ?_
      have:G.rowOk g.length g[k]=false:=by simp [G.rowOk]; omega
      rw [←hd,hst,this]
      exact Gives.same (Agree.refl S')
     ·have h3:G.rowOk g.length g[k] = !(g[k].any (G.wild g.length)):=by
       have:decide (g[k].length≤128)=true:=by simp; omega
       simp [G.rowOk,this]
      rw [h3] at hst
      repeat refine QS ?_
      refine QR (r:=by conv=>lhs;simp[-List.map_set,QV,opIndex_vl,hk6,opLen_vl,h2]) (k:=?_)
      refine QN ?_
      repeat refine QS ?_
      refine vw_condF rfl rfl rfl ?_
      repeat refine QS ?_
      refine vw_skipAt rfl ?_
      repeat refine QS ?_
      refine QR (r:=by conv=>lhs;simp[-List.map_set,QV]) (k:=?_)
      refine QN ?_
      repeat refine QS ?_
      refine vw_blockAt 2 rfl rfl ?_
      repeat refine QS ?_
      refine vw_loopAt [0,3,4] rfl (fun n σ S'' => ∃ (j:Nat),j≤g[k].length∧n=g[k].length-j∧(g[k].drop j).any (G.wild g.length)=g[k].any (G.wild g.length)∧σ=[(0,vl (vl vint) g),(3,vnat k),(4,vnat j)]∧S''=S') g[k].length ?_ ?_
      ·exact ⟨0,by omega,rfl,rfl,by simp [Fr.only,Fr.look,vnat,vint],rfl⟩
      ·rintro n σ S'' ⟨j,hj,rfl,he,rfl,rfl⟩
       by_cases hj6:j<g[k].length
       ·have i7:(j:Int)<(g[k].length:Int):=by omega
        have ist:(g[k].drop j).any (G.wild g.length)=(G.wild g.length g[k][j]||(g[k].drop (j+1)).any (G.wild g.length)):=by
         rw [List.drop_eq_getElem_cons hj6,List.any_cons]
        have iw:IntKind.i64.wrap ((j:Int)+1)=(j:Int)+1:=wrap_i64 (by omega) (by omega)
        repeat refine QS ?_
        refine QR (r:=by conv=>lhs;simp[-List.map_set,QV,opIndex_vl,hk6,opLen_vl,i7]) (k:=?_)
        refine QN ?_
        repeat refine QS ?_
        refine vw_condT rfl rfl rfl ?_
        repeat refine QS ?_
        refine vw_skipAt rfl ?_
        repeat refine QS ?_
        refine vw_blockAt 3 rfl rfl ?_
        by_cases n0:g[k][j]<0
        ·repeat refine QS ?_
         refine QR (r:=by conv=>lhs;simp[-List.map_set,QV,opIndex_vl,hk6,opIndex_vl,hj6,n0]) (k:=?_)
         refine QN ?_
         repeat refine QS ?_
         refine vw_condT rfl rfl rfl ?_
         repeat refine QS ?_
         refine QR (r:=by conv=>lhs;simp[-List.map_set,QV]) (k:=?_)
         refine QN ?_
         repeat refine QS ?_
         refine vw_retAt rfl ?_
         have:G.wild g.length g[k][j]=true:=by simp [G.wild,n0]
         rw [←hd,hst, ←he,ist,this]
         exact Gives.same (Agree.refl S'')
        ·by_cases n1:(g.length:Int)≤g[k][j]
         ·repeat refine QS ?_
          refine QR (r:=by conv=>lhs;simp[-List.map_set,QV,opIndex_vl,hk6,opIndex_vl,hj6,n0,opLen_vl,n1]) (k:=?_)
          refine QN ?_
          repeat refine QS ?_
          refine vw_condT rfl rfl rfl ?_
          repeat refine QS ?_
          refine QR (r:=by conv=>lhs;simp[-List.map_set,QV]) (k:=?_)
          refine QN ?_
          repeat refine QS ?_
          refine vw_retAt rfl ?_
          have:G.wild g.length g[k][j]=true:=by simp [G.wild,n1]
          rw [←hd,hst, ←he,ist,this]
          exact Gives.same (Agree.refl S'')
         ·repeat refine QS ?_
          refine QR (r:=by conv=>lhs;simp[-List.map_set,QV,opIndex_vl,hk6,opIndex_vl,hj6,n0,opLen_vl,n1]) (k:=?_)
          refine QN ?_
          repeat refine QS ?_
          refine vw_condF rfl rfl rfl ?_
          repeat refine QS ?_
          refine vw_skipAt rfl ?_
          repeat refine QS ?_
          refine QR (r:=by conv=>lhs;simp[-List.map_set,QV,iw]) (k:=?_)
          refine QN ?_
          have:G.wild g.length g[k][j]=false:=by simp [G.wild,n0,n1]
          rw [this] at ist
          exact again ⟨Nat.sub_lt_sub_left (by omega) (Nat.lt_succ_self j),j+1,by omega,rfl,by rw [←he,ist]; rfl,by simp [Fr.only,Fr.look,vnat,vint],rfl⟩
       ·have i7 : ¬ (j:Int)<(g[k].length:Int):=by omega
        repeat refine QS ?_
        refine QR (r:=by conv=>lhs;simp[-List.map_set,QV,opIndex_vl,hk6,opLen_vl,i7]) (k:=?_)
        refine QN ?_
        repeat refine QS ?_
        refine vw_condF rfl rfl rfl ?_
        repeat refine QS ?_
        refine vw_exitAt 2 rfl rfl ?_
        have hz:g[k].drop j=[]:=by rw [List.drop_eq_nil_iff]; omega
        rw [hz] at he
        rw [←he] at hst
        repeat refine QS ?_
        refine QR (r:=by conv=>lhs;simp[-List.map_set,QV,hw]) (k:=?_)
        refine QN ?_
        exact again ⟨Nat.sub_lt_sub_left (by omega) (Nat.lt_succ_self k),k+1,by omega,rfl,by rw [←hd,hst]; rfl,by simp [Fr.only,Fr.look,vnat,vint],rfl⟩
    ·have h7 : ¬ (k:Int)<(g.length:Int):=by omega
     repeat refine QS ?_
     refine QR (r:=by conv=>lhs;simp[-List.map_set,QV,opLen_vl,h7]) (k:=?_)
     refine QN ?_
     repeat refine QS ?_
     refine vw_condF rfl rfl rfl ?_
     repeat refine QS ?_
     refine vw_exitAt 0 rfl rfl ?_
     repeat refine QS ?_
     refine QR (r:=by conv=>lhs;simp[-List.map_set,QV]) (k:=?_)
     refine QN ?_
     repeat refine QS ?_
     refine vw_retAt rfl ?_
     have:g.drop k=[]:=by rw [List.drop_eq_nil_iff]; omega
     rw [←hd,this]
     exact Gives.same (Agree.refl S')
end Go.Vw

namespace Go.Vw
open Go.Proofs Go.RowKit
set_option maxRecDepth 10000
set_option maxHeartbeats 4000000
def natRows (rows:List (List Nat)):List (List V):=rows.map (·.map vnat)
theorem natRows_len (rows:List (List Nat)):(natRows rows).length=rows.length:=by simp [natRows]
theorem natRows_push {rows:List (List Nat)} {k i:Nat} (h:k<rows.length):natRows (G.push rows k i)=(natRows rows).set k ((rows.getD k []).map vnat++[.int .i64 (i:Int)]):=by
 simp [natRows,G.push,List.map_set,vnat]
theorem natRows_get {rows:List (List Nat)} {k:Nat} (h:k<rows.length):(natRows rows)[k]? = some ((rows.getD k []).map vnat):=by
 simp [natRows,h]
theorem natRows_closed (rows:List (List Nat)) : ∀ row∈natRows rows,row.all V.closed1=true:=by
 intro row h
 simp only [natRows,List.mem_map] at h
 obtain ⟨r,_,rfl⟩:=h
 simp [vnat,V.closed1]
theorem natRows_vl (rows:List (List Nat)):V.list ((natRows rows).map V.list)=vl (vl vnat) rows:=by
 simp [natRows,vl]
theorem FromErr_v (g:List (List Int)) (hg:g.length<2^63) (hl : ∀ l∈g,l.length<2^63) (hr:G.right g=false):VPure Tryz.prog 123 [vl (vl vint) g] (.tuple [vl vnat [],vint 1]):=by
 intro S
 refine vcalls_start (c:=bodyOf Tryz.f123) Tryz.func123 rfl rfl (by simp [Tryz.ntmps123]) ?_
 rw [Tryz.ntmps123]
 intro hwf
 repeat (first|refine QG ?_|refine QX (r:=by conv=>lhs;simp[-List.map_set,QV]) (k:=?_))
 repeat refine QS ?_
 refine QR (r:=by conv=>lhs;simp[-List.map_set,QV]) (k:=?_)
 refine vcall_use rfl (Right_v g hg hl) ?_
 refine QM (by conv=>lhs;simp[-List.map_set,QV,hr]) ?_
 refine QN ?_
 repeat (first|refine QG ?_|refine QX (r:=by conv=>lhs;simp[-List.map_set,QV]) (k:=?_))
 exact done_via (l:=[]) hwf ((Ghost.tuple [] [vint 1] (Ghost.nils_list _)).toB _) rfl
structure FromAt (S T:Store) (oo:Nat) (cells:List V) (rows:List (List Nat)) (n:Nat):Prop where
 agree:Agree S T
 arr:RowsAt T S.nx oo [] cells (natRows rows)
 len:rows.length=n
theorem FromAt.nil {S T:Store} {oo n k i:Nat} {cells:List V} {rows:List (List Nat)} (h:FromAt S T oo cells rows n) (hk:k<n) (hr:rows.getD k []=[]) (hc:cells[k]? = some .nils):FromAt S (rowNil T oo cells k (.int .i64 (i:Int))) oo (cells.set k (.slice (T.nx+1) 0 1)) (G.push rows k i) n:=by
 have hlt:k<rows.length:=by rw [h.len]; exact hk
 refine ⟨((h.agree.add _).add _).upd h.arr.base _, ?_,by simp [G.push_length,h.len]⟩
 rw [natRows_push hlt,hr]
 refine h.arr.nil ?_ (by simp) hc
 rw [natRows_get hlt,hr]; rfl
theorem FromAt.app {S T:Store} {oo n k i id:Nat} {cells:List V} {rows:List (List Nat)} (h:FromAt S T oo cells rows n) (hk:k<n) (hid:S.nx≤id) (hc:cells[k]? = some (.slice id 0 (rows.getD k []).length)):FromAt S (rowApp T oo cells k id ((rows.getD k []).map vnat) (.int .i64 (i:Int))) oo (cells.set k (.slice (T.nx+1) 0 ((rows.getD k []).length+1))) (G.push rows k i) n:=by
 have hlt:k<rows.length:=by rw [h.len]; exact hk
 refine ⟨(((h.agree.add _).del hid).add _).upd h.arr.base _, ?_,by simp [G.push_length,h.len]⟩
 rw [natRows_push hlt]
 have:=h.arr.app (x := .int .i64 (i:Int)) (id:=id) (natRows_get hlt) (by simp) (by simpa using hc)
 simpa using this
theorem From_v (g:List (List Nat)) (hg:G.Ok g) (hr:VPure Tryz.prog 118 [vl (vl vnat) g] (.bool true)):VPure Tryz.prog 123 [vl (vl vnat) g] (.tuple [vl (vl vnat) (G.froms g),vint 0]):=by
 intro S
 refine vcalls_start (c:=bodyOf Tryz.f123) Tryz.func123 rfl rfl (by simp [Tryz.ntmps123]) ?_
 rw [Tryz.ntmps123]
 intro hwf
 have hm256:=hg.max
 have hb24:g.length*24≤140737488355328:=by omega
 have hb0:g.length≤140737488355328:=by omega
 repeat (first|refine QG ?_|refine QX (r:=by conv=>lhs;simp[-List.map_set,QV]) (k:=?_))
 repeat refine QS ?_
 refine QR (r:=by conv=>lhs;simp[-List.map_set,QV]) (k:=?_)
 refine vcall_use rfl (hr) ?_
 refine QM (by conv=>lhs;simp[-List.map_set,QV]) ?_
 refine QN ?_
 repeat (first|refine QG ?_|refine QX (r:=by conv=>lhs;simp[-List.map_set,QV,hb24,hb0]) (k:=?_))
 have h0:FromAt S (St S [] [some (1,List.replicate g.length V.nils)]) (lid S.nx 0) (List.replicate g.length .nils) (List.replicate g.length []) g.length:=by
  refine ⟨agree_St, ?_,by simp⟩
  have:natRows (List.replicate g.length [])=List.replicate g.length []:=by simp [natRows]
  rw [this]
  exact RowsAt.start (by simp [St_get]) (by simp [lid]) (by rw [St_nx]; simp [lid]) (by simp)
 have htot:=G.edges_len hg.row 0
 refine vw_gen (fun T=>FromAt S T (lid S.nx 0) (List.replicate g.length .nils) (List.replicate g.length []) g.length) h0 ?_
 intro T h0
 generalize lid S.nx 0=oo at h0 ⊢
 repeat (first|refine QG ?_|refine QX (r:=by conv=>lhs;simp[-List.map_set,QV]) (k:=?_))
 repeat refine QS ?_
 refine vw_loopAt [4,15,16,17] rfl (fun c σ S' => ∃ (i:Nat) (cells:List V) (rows:List (List Nat)),i≤g.length∧c=g.length-i∧FromAt S S' oo cells rows g.length∧G.pushAll rows (G.edges (g.drop i) i)=G.froms g∧G.total rows+(G.edges (g.drop i) i).length≤128*g.length∧σ=[(4, .slice oo 0 g.length),(15,vl (vl vnat) g),(16,vnat g.length),(17,vnat i)]) g.length ?_ ?_
 ·exact ⟨0,_,_,by omega,rfl,h0,rfl,by simpa [G.total_rep] using htot,by simp [Fr.only,Fr.look,vnat]⟩
 ·rintro c σ T ⟨i,cells,rows,hi,rfl,hF,hp,ht,rfl⟩
  by_cases hlt:i<g.length
  ·have hw1:IntKind.i64.wrap ((i:Int)+1)=(i:Int)+1:=wrap_i64 (by omega) (by omega)
   have hr128:=hg.row _ (List.getElem_mem hlt)
   repeat (first|refine QG ?_|refine QX (r:=by conv=>lhs;simp[-List.map_set,QV,hlt]) (k:=?_))
   rw [G.edges_drop g hlt] at hp ht
   repeat refine QS ?_
   refine vw_loopAt [4,5,15,16,17,22,23,24] rfl (fun c σ S' => ∃ (k:Nat) (cells:List V) (rows:List (List Nat)),k≤g[i].length∧c=g[i].length-k∧FromAt S S' oo cells rows g.length∧G.pushAll rows ((g[i].drop k).map (·,i)++G.edges (g.drop (i+1)) (i+1))=G.froms g∧G.total rows+((g[i].drop k).map (·,i)++G.edges (g.drop (i+1)) (i+1)).length≤128*g.length∧σ=[(4, .slice oo 0 g.length),(5,vnat i),(15,vl (vl vnat) g),(16,vnat g.length),(17,vnat i),(22,vl vnat g[i]),(23,vnat g[i].length),(24,vnat k)]) g[i].length ?_ ?_
   ·exact ⟨0,_,_,by omega,rfl,hF,hp,by simpa using ht,by simp [Fr.only,Fr.look,vnat]⟩
   ·rintro c σ T ⟨k,cells,rows,hk,rfl,hF,hp,ht,rfl⟩
    by_cases hkl:k<g[i].length
    ·have hw2:IntKind.i64.wrap ((k:Int)+1)=(k:Int)+1:=wrap_i64 (by omega) (by omega)
     rw [G.map_drop hkl] at hp ht
     simp only [List.cons_append,List.length_cons,G.pushAll_cons] at hp ht
     have hgk:g[i][k]<g.length:=hg.elt _ (List.getElem_mem hlt) _ (List.getElem_mem hkl)
     have hkr:g[i][k]<rows.length:=by rw [hF.len]; exact hgk
     have hrow:=G.row_le_total rows g[i][k]
     have htp:=G.total_push (i:=i) hkr
     have hget:=hF.arr.get
     have hool:=hF.arr.lt
     have hcl:cells.length=g.length:=by rw [hF.arr.len,natRows_len,hF.len]
     have hgkc:g[i][k]<cells.length:=by omega
     have h1:oo<T.nx+1:=by omega
     have h2:oo<T.nx+1+1:=by omega
     rcases hF.arr.row _ _ (natRows_get hkr) with ⟨hc,hr0⟩ | ⟨id,hc,hid,hne,hb,hidl,_⟩
     ·have hr0':rows.getD g[i][k] []=[]:=by simpa using hr0
      obtain ⟨_,hce⟩:=List.getElem?_eq_some_iff.1 hc
      repeat (first|refine QG ?_|refine QX (r:=by conv=>lhs;simp[-List.map_set,QV,hlt,hkl,hw2]) (k:=?_))
      repeat (first|refine QG ?_|refine QX (r:=by conv=>lhs;simp[-List.map_set,QV,hlt,hkl,hget,hgk,add_new,add_nx',add_old,hool,h1,h2,hgkc,hce,hw2]) (k:=?_))
      show Again _ _ _ _ _ _ _
      exact again ⟨Nat.sub_lt_sub_left hkl (Nat.lt_succ_self k),k+1,_,_,hkl,rfl,hF.nil (i:=i) hgk hr0' hc,hp,by omega,by simp [Fr.only,Fr.look,vnat]⟩
     ·have hlr:((rows.getD g[i][k] []).map vnat).length=(rows.getD g[i][k] []).length:=by simp
      rw [hlr] at hc
      obtain ⟨_,hce⟩:=List.getElem?_eq_some_iff.1 hc
      have hb8:((rows.getD g[i][k] []).length+1)*8≤140737488355328:=by omega
      have hb1:(rows.getD g[i][k] []).length+1≤140737488355328:=by omega
      have hcf:=hF.app (i:=i) hgk hb hc
      simp only [rowApp,List.length_map] at hcf
      generalize hrw:rows.getD g[i][k] []=row at hce hb8 hb1 hid hcf
      have hne':oo≠id:=Ne.symm hne
      repeat (first|refine QG ?_|refine QX (r:=by conv=>lhs;simp[-List.map_set,QV,hlt,hkl,hw2]) (k:=?_))
      repeat (first|refine QG ?_|refine QX (r:=by conv=>lhs;simp[-List.map_set,QV,hlt,hkl,hget,hgk,add_new,add_nx',add_old,del_old,del_nx,hool,h1,h2,hgkc,hce,hw2,hid,hidl,hne',hb8,hb1]) (k:=?_))
      show Again _ _ _ _ _ _ _
      exact again ⟨Nat.sub_lt_sub_left hkl (Nat.lt_succ_self k),k+1,_,_,hkl,rfl,hcf,hp,by omega,by simp [Fr.only,Fr.look,vnat]⟩
    ·repeat (first|refine QG ?_|refine QX (r:=by conv=>lhs;simp[-List.map_set,QV,hlt,hkl,hw1]) (k:=?_))
     have:k=g[i].length:=by omega
     subst this
     simp at hp ht
     show Again _ _ _ _ _ _ _
     exact again ⟨Nat.sub_lt_sub_left hlt (Nat.lt_succ_self i),i+1,_,_,hlt,rfl,hF,hp,by simpa using ht,by simp [Fr.only,Fr.look,vnat]⟩
  ·have hig:i=g.length:=by omega
   subst hig
   repeat refine QS ?_
   refine QR (r:=by conv=>lhs;simp[-List.map_set,QV]) (k:=?_)
   refine QN ?_
   repeat refine QS ?_
   refine vw_condF rfl rfl rfl ?_
   repeat refine QS ?_
   refine vw_exitAt 0 rfl rfl ?_
   simp [G.edges,G.pushAll] at hp
   obtain ⟨T2,k1,k2,k3,k4,k5⟩:=hF.arr.freeze (N:=41) (b0:=S.nx) (natRows_closed rows)
   refine vw_reach k1 ?_
   repeat (first|refine QG ?_|refine QX (r:=by conv=>lhs;simp[-List.map_set,QV]) (k:=?_))
   have hfr:=Ghost.freeze1 (len:=g.length) k2 (by simp [V.closed1]) (by simp [natRows,hF.len])
   rw [natRows_vl,hp] at hfr
   have hag:Agree S (T2.del oo):=by
    have h0:=hF.agree
    refine ⟨by show S.nx≤T2.nx; rw [k3]; exact h0.1,fun o ho => ?_⟩
    have hb:=hF.arr.base
    rw [del_old (by omega),k4 o (.inl ho) (by omega)]
    exact h0.2 o ho
   exact done_ghost hwf ((Ghost.tuple [] [vint 0] hfr).toB _) hag rfl
end Go.Vw

namespace Go.Vw
open Go.Proofs Go.RowKit
set_option maxRecDepth 10000
set_option maxHeartbeats 4000000
theorem Meet_v (S:Store) (rank:List Nat) (near:List Int) (hrl:rank.length=near.length) (o7 o10 or on:Nat) (h7:S.get o7=some (1,[.slice or 0 rank.length])) (hr:S.get or=some (1,rank.map vnat)) (h10:S.get o10=some (1,[.slice on 0 near.length])) (hn:S.get on=some (1,near.map vint))
  (f:Nat) (a b c:Int) (hm:G.meetF rank near f a b=some c):VCalls Tryz.prog 125 [vint a,vint b, .ptr o7 0, .ptr o10 0] S (fun r S'=>r=vint c∧S'=S):=by
 refine vcalls_start (c:=bodyOf Tryz.f125) Tryz.func125 rfl rfl (by simp [Tryz.ntmps125]) ?_
 rw [Tryz.ntmps125]
 intro hwf
 have lt : ∀ o c,S.get o=some c→o<S.nx:=by
  intro o c ho
  rcases Nat.lt_or_ge o S.nx with h | h
  ·exact h
  ·rw [hwf.gone o h] at ho; cases ho
 have k7 := @St_old S [] [] o7 (lt _ _ h7)
 have kr := @St_old S [] [] or (lt _ _ hr)
 have k10 := @St_old S [] [] o10 (lt _ _ h10)
 have kn := @St_old S [] [] on (lt _ _ hn)
 repeat (first|refine QG ?_|refine QX (r:=by conv=>lhs;simp[-List.map_set,QV]) (k:=?_))
 repeat refine QS ?_
 refine vw_loopAt [0,1,2,3] rfl (fun n σ S' => ∃ a b:Int,G.meetF rank near n a b=some c∧σ=[(0,vint a),(1,vint b),(2, .ptr o7 0),(3, .ptr o10 0)]∧S'=St S [] []) f ?_ ?_
 ·exact ⟨a,b,hm,by simp [Fr.only,Fr.look,vint],rfl⟩
 ·rintro n σ T ⟨a,b,hm,rfl,rfl⟩
  cases n with
  | zero=>cases hm
  | succ n =>
   simp only [G.meetF] at hm
   by_cases hab:a=b
   ·rw [if_pos hab] at hm
    cases hm
    subst hab
    repeat (first|refine QG ?_|refine QX (r:=by conv=>lhs;simp[-List.map_set,QV]) (k:=?_))
    exact done_pure hwf rfl rfl
   ·rw [if_neg hab] at hm
    split at hm
    ·rename_i hok
     obtain ⟨a0,a1,b0,b1⟩:=hok
     have ha:a.toNat<near.length:=by omega
     have hb:b.toNat<near.length:=by omega
     have har:a.toNat<rank.length:=by omega
     have hbr:b.toNat<rank.length:=by omega
     have a1':a<(rank.length:Int):=by omega
     have b1':b<(rank.length:Int):=by omega
     have e1:rank.getD a.toNat 0=rank[a.toNat]:=by simp [har]
     have e2:rank.getD b.toNat 0=rank[b.toNat]:=by simp [hbr]
     have e3:near.getD a.toNat 0=near[a.toNat]:=by simp [ha]
     have e4:near.getD b.toNat 0=near[b.toNat]:=by simp [hb]
     rw [e1,e2,e3,e4] at hm
     split at hm
     ·rename_i hlt
      repeat (first|refine QG ?_|refine QX (r:=by conv=>lhs;simp[-List.map_set,QV,k7,kr,k10,kn,h7,hr,h10,hn,hab,a0,a1,b0,b1,ha,hb,har,hbr,a1',b1',hlt]) (k:=?_))
      show Again _ _ _ _ _ _ _
      exact again ⟨Nat.lt_succ_self n,_,_,hm,by simp [Fr.only,Fr.look,vint],rfl⟩
     ·rename_i hlt
      repeat (first|refine QG ?_|refine QX (r:=by conv=>lhs;simp[-List.map_set,QV,k7,kr,k10,kn,h7,hr,h10,hn,hab,a0,a1,b0,b1,ha,hb,har,hbr,a1',b1',hlt]) (k:=?_))
      show Again _ _ _ _ _ _ _
      exact again ⟨Nat.lt_succ_self n,_,_,hm,by simp [Fr.only,Fr.look,vint],rfl⟩
    ·cases hm
end Go.Vw
