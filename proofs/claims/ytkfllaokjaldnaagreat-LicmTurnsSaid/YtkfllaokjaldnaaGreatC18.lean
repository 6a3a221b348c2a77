import Derived.Test.YtkfllaokjaldnaaGreatC11
import Derived.Test.YtkfllaokjaldnaaGreatC17
import Derived.Test.YtkfllaokjaldnaaGreatProg
/-
  Part of the proof (texts GRight2, GRight3, GFromW, GNear).
-/
set_option linter.unusedVariables false
set_option linter.unusedSimpArgs false
namespace Go.Vw
open Go.Proofs Go.RowKit
set_option maxRecDepth 10000
set_option maxHeartbeats 4000000
theorem Right_v (g:List (List Int)) (hg:g.length<2^63) (hl : ∀ l∈g,l.length<2^63):VPure Tryz.prog 113 [vl (vl vint) g] (.bool (G.right g)):=by
 intro S;refine qU rfl ?_;refine qQ (c:=jg Tryz.f113) Tryz.func113 rfl rfl (by simp [Tryz.ntmps113]) ?_;rw [Tryz.ntmps113]
 repeat refine QS ?_
 refine QY ?_;refine jz 1 rfl (Ghost.box (get_add _ _) (jbC _ _)) (by conv=>lhs; simp [Fr.set]) ?_;have hag:Agree S ((S.add (1,[vl (vl vint) g])).del S.nx):=((Agree.refl S).add _).del (Nat.le_refl _);generalize (S.add (1,[vl (vl vint) g])).del S.nx=S1 at hag ⊢
 by_cases h0:(g.length:Int)=0
 ·have hq:((g.length:Int)==0)=true:=by simp [h0]
  repeat refine QS ?_
  refine QY ?_ (r:=by conv=>lhs;simp[-List.map_set,QV,jJ,hq])
  repeat refine QS ?_
  refine jH rfl rfl rfl ?_
  repeat refine QS ?_
  refine QY ?_
  repeat refine QS ?_
  refine jM rfl ?_;have:G.right g=false:=by simp [G.right]; omega
  rw [this];exact Gives.same hag
 ·have hq:((g.length:Int)==0)=false:=by simpa using h0
  by_cases h1:(256:Int)<g.length
  ·repeat refine QS ?_
   refine QY ?_ (r:=by conv=>lhs;simp[-List.map_set,QV,jJ,hq,h1])
   repeat refine QS ?_
   refine jH rfl rfl rfl ?_
   repeat refine QS ?_
   refine QY ?_
   repeat refine QS ?_
   refine jM rfl ?_;have:G.right g=false:=by simp [G.right]; omega
   rw [this];exact Gives.same hag
  ·have hfin:G.right g=g.all (G.rowOk g.length):=by
    have a1:decide (1≤g.length)=true:=by simp; omega
    have a2:decide (g.length≤256)=true:=by simp; omega
    simp [G.right,a1,a2]
   rw [hfin]
   repeat refine QS ?_
   refine QY ?_ (r:=by conv=>lhs;simp[-List.map_set,QV,jJ,hq,h1])
   repeat refine QS ?_
   refine jI rfl rfl rfl ?_
   repeat refine QS ?_
   refine jD rfl ?_
   repeat refine QS ?_
   refine QY ?_ (r:=by conv=>lhs;simp[-List.map_set,QV,jJ])
   repeat refine QS ?_
   refine jL 0 rfl rfl ?_
   repeat refine QS ?_
   refine je [0,1,13,14,15] rfl (fun n σ S' => ∃ (k:Nat),k≤g.length∧n=g.length-k∧(g.drop k).all (G.rowOk g.length)=g.all (G.rowOk g.length)∧σ=[(0,vl (vl vint) g),(1, .ref (vl (vl vint) g)),(13,vl (vl vint) g),(14,vnat g.length),(15,vnat k)]∧S'=S1) g.length ?_ ?_
   ·exact ⟨0,by omega,rfl,rfl,by simp [Fr.only,Fr.look,vnat,vint],rfl⟩
   ·rintro n σ S' ⟨k,hk,rfl,hd,rfl,rfl⟩
    by_cases hk6:k<g.length
    ·have h7:(k:Int)<(g.length:Int):=by omega
     have hst:(g.drop k).all (G.rowOk g.length)=(G.rowOk g.length g[k]&&(g.drop (k+1)).all (G.rowOk g.length)):=by
      rw [List.drop_eq_getElem_cons hk6,List.all_cons]
     have hw:IntKind.i64.wrap ((k:Int)+1)=(k:Int)+1:=wrap_i64 (by omega) (by omega);have hlk:g[k].length<2^63:=hl _ (List.getElem_mem hk6)
     repeat refine QS ?_
     refine QY ?_ (r:=by conv=>lhs;simp[-List.map_set,QV,h7])
     repeat refine QS ?_
     refine jH rfl rfl rfl ?_
     repeat refine QS ?_
     refine jD rfl ?_
     repeat refine QS ?_
     refine jL 1 rfl rfl ?_
     repeat refine QS ?_
     refine QY ?_ (r:=by conv=>lhs;simp[-List.map_set,QV,qh,hk6])
     by_cases h2:(128:Int)<g[k].length
     ·repeat refine QS ?_
      refine QY ?_ (r:=by conv=>lhs;simp[-List.map_set,QV,jJ,h2])
      repeat refine QS ?_
      refine jH rfl rfl rfl ?_
      repeat refine QS ?_
      refine QY ?_
      repeat refine QS ?_
      refine jM rfl ?_;have:G.rowOk g.length g[k]=false:=by simp [G.rowOk]; omega
      rw [←hd,hst,this];exact Gives.same hag
     ·have h3:G.rowOk g.length g[k] = !(g[k].any (G.wild g.length)):=by
       have:decide (g[k].length≤128)=true:=by simp; omega
       simp [G.rowOk,this]
      rw [h3] at hst
      repeat refine QS ?_
      refine QP ?_ (r:=by conv=>lhs;simp[-List.map_set,QV,jJ,h2]);refine jn rfl (AnyWild_v g g[k] hlk) ?_;refine QW ?_
      cases hc:g[k].any (G.wild g.length)
      ·rw [hc] at hst;refine jI rfl rfl (by simp [ev,Fr.look,hc]) ?_
       repeat refine QS ?_
       refine jD rfl ?_
       repeat refine QS ?_
       refine QY ?_ (r:=by conv=>lhs;simp[-List.map_set,QV,hw]);exact again ⟨Nat.sub_lt_sub_left (by omega) (Nat.lt_succ_self k),k+1,by omega,rfl,by rw [←hd,hst]; rfl,by simp [Fr.only,Fr.look,vnat,vint],rfl⟩
      ·rw [hc] at hst;refine jH rfl rfl (by simp [ev,Fr.look,hc]) ?_
       repeat refine QS ?_
       refine QY ?_
       repeat refine QS ?_
       refine jM rfl ?_;rw [←hd,hst];exact Gives.same hag
    ·have h7 : ¬ (k:Int)<(g.length:Int):=by omega
     repeat refine QS ?_
     refine QY ?_ (r:=by conv=>lhs;simp[-List.map_set,QV,h7])
     repeat refine QS ?_
     refine jI rfl rfl rfl ?_
     repeat refine QS ?_
     refine jP 0 rfl rfl ?_
     repeat refine QS ?_
     refine QY ?_
     repeat refine QS ?_
     refine jM rfl ?_;have:g.drop k=[]:=by rw [List.drop_eq_nil_iff]; omega
     rw [←hd,this];exact Gives.same hag
end Go.Vw

namespace Go.Vw
open Go.Proofs Go.RowKit
set_option maxRecDepth 10000
set_option maxHeartbeats 4000000
theorem Zz (g:List (List Int)) (hg:g.length<2^63) (hl : ∀ l∈g,l.length<2^63):VPure Tryz.prog 45 [vl (vl vint) g] (.bool (G.right g)):=by
 intro S;refine qU rfl ?_;refine qQ (c:=jg Tryz.f45) Tryz.func45 rfl rfl (by simp [Tryz.ntmps45]) ?_;rw [Tryz.ntmps45]
 repeat refine QS ?_
 refine QY ?_
 by_cases h0:(g.length:Int)<1
 ·repeat refine QS ?_
  refine QY ?_ (r:=by conv=>lhs;simp[-List.map_set,QV,jJ,h0])
  repeat refine QS ?_
  refine jH rfl rfl rfl ?_
  repeat refine QS ?_
  refine QY ?_
  repeat refine QS ?_
  refine jM rfl ?_;have:G.right g=false:=by simp [G.right]; omega
  rw [this];exact Gives.same (Agree.refl S)
 ·by_cases h1:(256:Int)<g.length
  ·repeat refine QS ?_
   refine QY ?_ (r:=by conv=>lhs;simp[-List.map_set,QV,jJ,h0,h1])
   repeat refine QS ?_
   refine jH rfl rfl rfl ?_
   repeat refine QS ?_
   refine QY ?_
   repeat refine QS ?_
   refine jM rfl ?_;have:G.right g=false:=by simp [G.right]; omega
   rw [this];exact Gives.same (Agree.refl S)
  ·have hfin:G.right g=g.all (G.rowOk g.length):=by
    have a1:decide (1≤g.length)=true:=by simp; omega
    have a2:decide (g.length≤256)=true:=by simp; omega
    simp [G.right,a1,a2]
   rw [hfin]
   repeat refine QS ?_
   refine QY ?_ (r:=by conv=>lhs;simp[-List.map_set,QV,jJ,h0,h1])
   repeat refine QS ?_
   refine jI rfl rfl rfl ?_
   repeat refine QS ?_
   refine jD rfl ?_
   repeat refine QS ?_
   refine QY ?_
   repeat refine QS ?_
   refine jL 0 rfl rfl ?_
   repeat refine QS ?_
   refine je [0,3] rfl (fun n σ S' => ∃ (k:Nat),k≤g.length∧n=g.length-k∧(g.drop k).all (G.rowOk g.length)=g.all (G.rowOk g.length)∧σ=[(0,vl (vl vint) g),(3,vnat k)]∧S'=S) g.length ?_ ?_
   ·exact ⟨0,by omega,rfl,rfl,by simp [Fr.only,Fr.look,vnat,vint],rfl⟩
   ·rintro n σ S' ⟨k,hk,rfl,hd,rfl,rfl⟩
    by_cases hk6:k<g.length
    ·have h7:(k:Int)<(g.length:Int):=by omega
     have hst:(g.drop k).all (G.rowOk g.length)=(G.rowOk g.length g[k]&&(g.drop (k+1)).all (G.rowOk g.length)):=by
      rw [List.drop_eq_getElem_cons hk6,List.all_cons]
     have hw:IntKind.i64.wrap ((k:Int)+1)=(k:Int)+1:=wrap_i64 (by omega) (by omega);have hlk:g[k].length<2^63:=hl _ (List.getElem_mem hk6)
     repeat refine QS ?_
     refine QY ?_ (r:=by conv=>lhs;simp[-List.map_set,QV,jJ,h7])
     repeat refine QS ?_
     refine jH rfl rfl rfl ?_
     repeat refine QS ?_
     refine jD rfl ?_
     repeat refine QS ?_
     refine jL 1 rfl rfl ?_
     by_cases h2:(128:Int)<g[k].length
     ·repeat refine QS ?_
      refine QY ?_ (r:=by conv=>lhs;simp[-List.map_set,QV,qh,hk6,jJ,h2])
      repeat refine QS ?_
      refine jH rfl rfl rfl ?_
      repeat refine QS ?_
      refine QY ?_
      repeat refine QS ?_
      refine jM rfl ?_;have:G.rowOk g.length g[k]=false:=by simp [G.rowOk]; omega
      rw [←hd,hst,this];exact Gives.same (Agree.refl S')
     ·have h3:G.rowOk g.length g[k] = !(g[k].any (G.wild g.length)):=by
       have:decide (g[k].length≤128)=true:=by simp; omega
       simp [G.rowOk,this]
      rw [h3] at hst
      repeat refine QS ?_
      refine QY ?_ (r:=by conv=>lhs;simp[-List.map_set,QV,qh,hk6,jJ,h2])
      repeat refine QS ?_
      refine jI rfl rfl rfl ?_
      repeat refine QS ?_
      refine jD rfl ?_
      repeat refine QS ?_
      refine QY ?_
      repeat refine QS ?_
      refine jL 2 rfl rfl ?_
      repeat refine QS ?_
      refine je [0,3,4] rfl (fun n σ S'' => ∃ (j:Nat),j≤g[k].length∧n=g[k].length-j∧(g[k].drop j).any (G.wild g.length)=g[k].any (G.wild g.length)∧σ=[(0,vl (vl vint) g),(3,vnat k),(4,vnat j)]∧S''=S') g[k].length ?_ ?_
      ·exact ⟨0,by omega,rfl,rfl,by simp [Fr.only,Fr.look,vnat,vint],rfl⟩
      ·rintro n σ S'' ⟨j,hj,rfl,he,rfl,rfl⟩
       by_cases hj6:j<g[k].length
       ·have i7:(j:Int)<(g[k].length:Int):=by omega
        have ist:(g[k].drop j).any (G.wild g.length)=(G.wild g.length g[k][j]||(g[k].drop (j+1)).any (G.wild g.length)):=by
         rw [List.drop_eq_getElem_cons hj6,List.any_cons]
        have iw:IntKind.i64.wrap ((j:Int)+1)=(j:Int)+1:=wrap_i64 (by omega) (by omega)
        repeat refine QS ?_
        refine QY ?_ (r:=by conv=>lhs;simp[-List.map_set,QV,qh,hk6,jJ,i7])
        repeat refine QS ?_
        refine jH rfl rfl rfl ?_
        repeat refine QS ?_
        refine jD rfl ?_
        repeat refine QS ?_
        refine jL 3 rfl rfl ?_
        by_cases n0:g[k][j]<0
        ·repeat refine QS ?_
         refine QY ?_ (r:=by conv=>lhs;simp[-List.map_set,QV,qh,hk6,qh,hj6,n0])
         repeat refine QS ?_
         refine jH rfl rfl rfl ?_
         repeat refine QS ?_
         refine QY ?_
         repeat refine QS ?_
         refine jM rfl ?_;have:G.wild g.length g[k][j]=true:=by simp [G.wild,n0]
         rw [←hd,hst, ←he,ist,this];exact Gives.same (Agree.refl S'')
        ·by_cases n1:(g.length:Int)≤g[k][j]
         ·repeat refine QS ?_
          refine QY ?_ (r:=by conv=>lhs;simp[-List.map_set,QV,qh,hk6,qh,hj6,n0,jJ,n1])
          repeat refine QS ?_
          refine jH rfl rfl rfl ?_
          repeat refine QS ?_
          refine QY ?_
          repeat refine QS ?_
          refine jM rfl ?_;have:G.wild g.length g[k][j]=true:=by simp [G.wild,n1]
          rw [←hd,hst, ←he,ist,this];exact Gives.same (Agree.refl S'')
         ·repeat refine QS ?_
          refine QY ?_ (r:=by conv=>lhs;simp[-List.map_set,QV,qh,hk6,qh,hj6,n0,jJ,n1])
          repeat refine QS ?_
          refine jI rfl rfl rfl ?_
          repeat refine QS ?_
          refine jD rfl ?_
          repeat refine QS ?_
          refine QY ?_ (r:=by conv=>lhs;simp[-List.map_set,QV,iw]);have:G.wild g.length g[k][j]=false:=by simp [G.wild,n0,n1]
          rw [this] at ist;exact again ⟨Nat.sub_lt_sub_left (by omega) (Nat.lt_succ_self j),j+1,by omega,rfl,by rw [←he,ist]; rfl,by simp [Fr.only,Fr.look,vnat,vint],rfl⟩
       ·have i7 : ¬ (j:Int)<(g[k].length:Int):=by omega
        repeat refine QS ?_
        refine QY ?_ (r:=by conv=>lhs;simp[-List.map_set,QV,qh,hk6,jJ,i7])
        repeat refine QS ?_
        refine jI rfl rfl rfl ?_
        repeat refine QS ?_
        refine jP 2 rfl rfl ?_;have hz:g[k].drop j=[]:=by rw [List.drop_eq_nil_iff]; omega
        rw [hz] at he;rw [←he] at hst
        repeat refine QS ?_
        refine QY ?_ (r:=by conv=>lhs;simp[-List.map_set,QV,hw]);exact again ⟨Nat.sub_lt_sub_left (by omega) (Nat.lt_succ_self k),k+1,by omega,rfl,by rw [←hd,hst]; rfl,by simp [Fr.only,Fr.look,vnat,vint],rfl⟩
    ·have h7 : ¬ (k:Int)<(g.length:Int):=by omega
     repeat refine QS ?_
     refine QY ?_ (r:=by conv=>lhs;simp[-List.map_set,QV,jJ,h7])
     repeat refine QS ?_
     refine jI rfl rfl rfl ?_
     repeat refine QS ?_
     refine jP 0 rfl rfl ?_
     repeat refine QS ?_
     refine QY ?_
     repeat refine QS ?_
     refine jM rfl ?_;have:g.drop k=[]:=by rw [List.drop_eq_nil_iff]; omega
     rw [←hd,this];exact Gives.same (Agree.refl S')
end Go.Vw

namespace Go.Vw
open Go.Proofs Go.RowKit
set_option maxRecDepth 10000
set_option maxHeartbeats 4000000
def ze (rows:List (List Nat)):List (List V):=rows.map (·.map vnat)
theorem jak (rows:List (List Nat)):(ze rows).length=rows.length:=by simp [ze]
theorem YX {rows:List (List Nat)} {k i:Nat} (h:k<rows.length):ze (G.push rows k i)=(ze rows).set k ((rows.getD k []).map vnat++[.int .i64 (i:Int)]):=by
 simp [ze,G.push,List.map_set,vnat]
theorem JY {rows:List (List Nat)} {k:Nat} (h:k<rows.length):(ze rows)[k]? = some ((rows.getD k []).map vnat):=by
 simp [ze,h]
theorem KY (rows:List (List Nat)) : ∀ row∈ze rows,row.all V.closed1=true:=by
 intro row h;simp only [ze,List.mem_map] at h;obtain ⟨r,_,rfl⟩:=h;simp [vnat,V.closed1]
theorem jbs (rows:List (List Nat)):V.list ((ze rows).map V.list)=vl (vl vnat) rows:=by
 simp [ze,vl]
theorem FromErr_v (g:List (List Int)) (hg:g.length<2^63) (hl : ∀ l∈g,l.length<2^63) (hr:G.right g=false):VPure Tryz.prog 78 [vl (vl vint) g] (.tuple [vl vnat [],vint 1]):=by
 intro S;refine jb (c:=jg Tryz.f78) Tryz.func78 rfl rfl (by simp [Tryz.ntmps78]) ?_;rw [Tryz.ntmps78];intro hwf
 repeat first|refine QG ?_|refine QY ?_
 repeat refine QS ?_
 refine QP ?_;refine jn rfl (Right_v g hg hl) ?_;refine QM (by conv=>lhs;simp[-List.map_set,QV,hr]) ?_;refine QN ?_
 repeat first|refine QG ?_|refine QY ?_
 exact ji (l:=[]) hwf ((Ghost.tuple [] [vint 1] (Ghost.nils_list _)).toB _) rfl
structure FromAt (S T:Store) (oo:Nat) (cells:List V) (rows:List (List Nat)) (n:Nat):Prop where
 agree:Agree S T
 arr:RowsAt T S.nx oo [] cells (ze rows)
 len:rows.length=n
theorem FromAt.nil {S T:Store} {oo n k i:Nat} {cells:List V} {rows:List (List Nat)} (h:FromAt S T oo cells rows n) (hk:k<n) (hr:rows.getD k []=[]) (hc:cells[k]? = some .nils):FromAt S (jbk T oo cells k (.int .i64 (i:Int))) oo (cells.set k (.slice (T.nx+1) 0 1)) (G.push rows k i) n:=by
 have hlt:k<rows.length:=by rw [h.len]; exact hk
 refine ⟨((h.agree.add _).add _).upd h.arr.base _, ?_,by simp [G.push_length,h.len]⟩;rw [YX hlt,hr];refine h.arr.nil ?_ (by simp) hc;rw [JY hlt,hr]; rfl
theorem FromAt.app {S T:Store} {oo n k i id:Nat} {cells:List V} {rows:List (List Nat)} (h:FromAt S T oo cells rows n) (hk:k<n) (hid:S.nx≤id) (hc:cells[k]? = some (.slice id 0 (rows.getD k []).length)):FromAt S (YR T oo cells k id ((rows.getD k []).map vnat) (.int .i64 (i:Int))) oo (cells.set k (.slice (T.nx+1) 0 ((rows.getD k []).length+1))) (G.push rows k i) n:=by
 have hlt:k<rows.length:=by rw [h.len]; exact hk
 refine ⟨(((h.agree.add _).del hid).add _).upd h.arr.base _, ?_,by simp [G.push_length,h.len]⟩;rw [YX hlt];have:=h.arr.app (x := .int .i64 (i:Int)) (id:=id) (JY hlt) (by simp) (by simpa using hc);simpa using this
theorem From_v (g:List (List Nat)) (hg:G.Ok g) (hr:VPure Tryz.prog 113 [vl (vl vnat) g] (.bool true)):VPure Tryz.prog 78 [vl (vl vnat) g] (.tuple [vl (vl vnat) (G.froms g),vint 0]):=by
 intro S;refine jb (c:=jg Tryz.f78) Tryz.func78 rfl rfl (by simp [Tryz.ntmps78]) ?_;rw [Tryz.ntmps78];intro hwf;have hm256:=hg.max;have hb24:g.length*24≤140737488355328:=by omega
 have hb0:g.length≤140737488355328:=by omega
 repeat first|refine QG ?_|refine QY ?_
 repeat refine QS ?_
 refine QP ?_;refine jn rfl (hr) ?_;refine QW ?_
 repeat first|refine QG ?_|refine QY ?_ (r:=by conv=>lhs;simp[-List.map_set,QV,hb24,hb0])
 have h0:FromAt S (St S [] [some (1,List.replicate g.length V.nils)]) (lid S.nx 0) (List.replicate g.length .nils) (List.replicate g.length []) g.length:=by
  refine ⟨JH, ?_,by simp⟩;have:ze (List.replicate g.length [])=List.replicate g.length []:=by simp [ze]
  rw [this];exact RowsAt.start (by simp [jC]) (by simp [lid]) (by rw [jQ]; simp [lid]) (by simp)
 have htot:=G.edges_len hg.row 0;refine vw_gen (fun T=>FromAt S T (lid S.nx 0) (List.replicate g.length .nils) (List.replicate g.length []) g.length) h0 ?_;intro T h0;generalize lid S.nx 0=oo at h0 ⊢
 repeat first|refine QG ?_|refine QY ?_
 repeat refine QS ?_
 refine je [4,15,16,17] rfl (fun c σ S' => ∃ (i:Nat) (cells:List V) (rows:List (List Nat)),i≤g.length∧c=g.length-i∧FromAt S S' oo cells rows g.length∧G.pushAll rows (G.edges (g.drop i) i)=G.froms g∧G.total rows+(G.edges (g.drop i) i).length≤128*g.length∧σ=[(4, .slice oo 0 g.length),(15,vl (vl vnat) g),(16,vnat g.length),(17,vnat i)]) g.length ?_ ?_
 ·exact ⟨0,_,_,by omega,rfl,h0,rfl,by simpa [G.total_rep] using htot,by simp [Fr.only,Fr.look,vnat]⟩
 ·rintro c σ T ⟨i,cells,rows,hi,rfl,hF,hp,ht,rfl⟩
  by_cases hlt:i<g.length
  ·have hw1:IntKind.i64.wrap ((i:Int)+1)=(i:Int)+1:=wrap_i64 (by omega) (by omega);have hr128:=hg.row _ (List.getElem_mem hlt)
   repeat first|refine QG ?_|refine QY ?_ (r:=by conv=>lhs;simp[-List.map_set,QV,hlt])
   rw [G.edges_drop g hlt] at hp ht
   repeat refine QS ?_
   refine je [4,5,15,16,17,22,23,24] rfl (fun c σ S' => ∃ (k:Nat) (cells:List V) (rows:List (List Nat)),k≤g[i].length∧c=g[i].length-k∧FromAt S S' oo cells rows g.length∧G.pushAll rows ((g[i].drop k).map (·,i)++G.edges (g.drop (i+1)) (i+1))=G.froms g∧G.total rows+((g[i].drop k).map (·,i)++G.edges (g.drop (i+1)) (i+1)).length≤128*g.length∧σ=[(4, .slice oo 0 g.length),(5,vnat i),(15,vl (vl vnat) g),(16,vnat g.length),(17,vnat i),(22,vl vnat g[i]),(23,vnat g[i].length),(24,vnat k)]) g[i].length ?_ ?_
   ·exact ⟨0,_,_,by omega,rfl,hF,hp,by simpa using ht,by simp [Fr.only,Fr.look,vnat]⟩
   ·rintro c σ T ⟨k,cells,rows,hk,rfl,hF,hp,ht,rfl⟩
    by_cases hkl:k<g[i].length
    ·have hw2:IntKind.i64.wrap ((k:Int)+1)=(k:Int)+1:=wrap_i64 (by omega) (by omega);rw [G.map_drop hkl] at hp ht;simp only [List.cons_append,List.length_cons,G.pushAll_cons] at hp ht;have hgk:g[i][k]<g.length:=hg.elt _ (List.getElem_mem hlt) _ (List.getElem_mem hkl);have hkr:g[i][k]<rows.length:=by rw [hF.len]; exact hgk
     have hrow:=G.row_le_total rows g[i][k];have htp:=G.total_push (i:=i) hkr;have hget:=hF.arr.get;have hool:=hF.arr.lt;have hcl:cells.length=g.length:=by rw [hF.arr.len,jak,hF.len]
     have hgkc:g[i][k]<cells.length:=by omega
     have h1:oo<T.nx+1:=by omega
     have h2:oo<T.nx+1+1:=by omega
     rcases hF.arr.row _ _ (JY hkr) with ⟨hc,hr0⟩ | ⟨id,hc,hid,hne,hb,hidl,_⟩
     ·have hr0':rows.getD g[i][k] []=[]:=by simpa using hr0
      obtain ⟨_,hce⟩:=List.getElem?_eq_some_iff.1 hc
      repeat first|refine QG ?_|refine QY ?_ (r:=by conv=>lhs;simp[-List.map_set,QV,hlt,hkl,hw2])
      repeat first|refine QG ?_|refine QY ?_ (r:=by conv=>lhs;simp[-List.map_set,QV,hlt,hkl,hget,hgk,jcy,YK,Ws,hool,h1,h2,hgkc,hce,hw2])
      show jx _ _ _ _ _ _ _;exact again ⟨Nat.sub_lt_sub_left hkl (Nat.lt_succ_self k),k+1,_,_,hkl,rfl,hF.nil (i:=i) hgk hr0' hc,hp,by omega,by simp [Fr.only,Fr.look,vnat]⟩
     ·have hlr:((rows.getD g[i][k] []).map vnat).length=(rows.getD g[i][k] []).length:=by simp
      rw [hlr] at hc;obtain ⟨_,hce⟩:=List.getElem?_eq_some_iff.1 hc;have hb8:((rows.getD g[i][k] []).length+1)*8≤140737488355328:=by omega
      have hb1:(rows.getD g[i][k] []).length+1≤140737488355328:=by omega
      have hcf:=hF.app (i:=i) hgk hb hc;simp only [YR,List.length_map] at hcf;generalize hrw:rows.getD g[i][k] []=row at hce hb8 hb1 hid hcf;have hne':oo≠id:=Ne.symm hne
      repeat first|refine QG ?_|refine QY ?_ (r:=by conv=>lhs;simp[-List.map_set,QV,hlt,hkl,hw2])
      repeat first|refine QG ?_|refine QY ?_ (r:=by conv=>lhs;simp[-List.map_set,QV,hlt,hkl,hget,hgk,jcy,YK,Ws,YF,del_nx,hool,h1,h2,hgkc,hce,hw2,hid,hidl,hne',hb8,hb1])
      show jx _ _ _ _ _ _ _;exact again ⟨Nat.sub_lt_sub_left hkl (Nat.lt_succ_self k),k+1,_,_,hkl,rfl,hcf,hp,by omega,by simp [Fr.only,Fr.look,vnat]⟩
    ·repeat first|refine QG ?_|refine QY ?_ (r:=by conv=>lhs;simp[-List.map_set,QV,hlt,hkl,hw1])
     have:k=g[i].length:=by omega
     subst this;simp at hp ht;show jx _ _ _ _ _ _ _;exact again ⟨Nat.sub_lt_sub_left hlt (Nat.lt_succ_self i),i+1,_,_,hlt,rfl,hF,hp,by simpa using ht,by simp [Fr.only,Fr.look,vnat]⟩
  ·have hig:i=g.length:=by omega
   subst hig
   repeat refine QS ?_
   refine QY ?_
   repeat refine QS ?_
   refine jI rfl rfl rfl ?_
   repeat refine QS ?_
   refine jP 0 rfl rfl ?_;simp [G.edges,G.pushAll] at hp;obtain ⟨T2,k1,k2,k3,k4,k5⟩:=hF.arr.freeze (N:=41) (b0:=S.nx) (KY rows);refine ju k1 ?_
   repeat first|refine QG ?_|refine QY ?_
   have hfr:=Ghost.freeze1 (len:=g.length) k2 (by simp [V.closed1]) (by simp [ze,hF.len]);rw [jbs,hp] at hfr;have hag:Agree S (T2.del oo):=by
    have h0:=hF.agree;refine ⟨by show S.nx≤T2.nx; rw [k3]; exact h0.1,fun o ho => ?_⟩;have hb:=hF.arr.base;rw [YF (by omega),k4 o (.inl ho) (by omega)];exact h0.2 o ho
   exact zG hwf ((Ghost.tuple [] [vint 0] hfr).toB _) hag rfl
theorem RFromErr_v (g:List (List Int)) (hg:g.length<2^63) (hl : ∀ l∈g,l.length<2^63) (hr:G.right g=false):VPure Tryz.prog 58 [vl (vl vint) g] (.tuple [vl vnat [],vint 1]):=by
 intro S;refine jb (c:=jg Tryz.f58) Tryz.func58 rfl rfl (by simp [Tryz.ntmps58]) ?_;rw [Tryz.ntmps58];intro hwf
 repeat first|refine QG ?_|refine QY ?_
 repeat refine QS ?_
 refine QP ?_;refine jn rfl (Zz g hg hl) ?_;refine QM (by conv=>lhs;simp[-List.map_set,QV,hr]) ?_;refine QN ?_
 repeat first|refine QG ?_|refine QY ?_
 exact ji (l:=[]) hwf ((Ghost.tuple [] [vint 1] (Ghost.nils_list _)).toB _) rfl
theorem RFrom_v (g:List (List Nat)) (hg:G.Ok g) (hr:VPure Tryz.prog 45 [vl (vl vnat) g] (.bool true)):VPure Tryz.prog 58 [vl (vl vnat) g] (.tuple [vl (vl vnat) (G.froms g),vint 0]):=by
 intro S;refine jb (c:=jg Tryz.f58) Tryz.func58 rfl rfl (by simp [Tryz.ntmps58]) ?_;rw [Tryz.ntmps58];intro hwf;have hm256:=hg.max;have hb24:g.length*24≤140737488355328:=by omega
 have hb0:g.length≤140737488355328:=by omega
 repeat first|refine QG ?_|refine QY ?_
 repeat refine QS ?_
 refine QP ?_;refine jn rfl (hr) ?_;refine QW ?_
 repeat first|refine QG ?_|refine QY ?_ (r:=by conv=>lhs;simp[-List.map_set,QV,hb24,hb0])
 have h0:FromAt S (St S [] [some (1,List.replicate g.length V.nils)]) (lid S.nx 0) (List.replicate g.length .nils) (List.replicate g.length []) g.length:=by
  refine ⟨JH, ?_,by simp⟩;have:ze (List.replicate g.length [])=List.replicate g.length []:=by simp [ze]
  rw [this];exact RowsAt.start (by simp [jC]) (by simp [lid]) (by rw [jQ]; simp [lid]) (by simp)
 have htot:=G.edges_len hg.row 0;refine vw_gen (fun T=>FromAt S T (lid S.nx 0) (List.replicate g.length .nils) (List.replicate g.length []) g.length) h0 ?_;intro T h0;generalize lid S.nx 0=oo at h0 ⊢
 repeat first|refine QG ?_|refine QY ?_
 repeat refine QS ?_
 refine je [0,4,5] rfl (fun c σ S' => ∃ (i:Nat) (cells:List V) (rows:List (List Nat)),i≤g.length∧c=g.length-i∧FromAt S S' oo cells rows g.length∧G.pushAll rows (G.edges (g.drop i) i)=G.froms g∧G.total rows+(G.edges (g.drop i) i).length≤128*g.length∧σ=[(0,vl (vl vnat) g),(4, .slice oo 0 g.length),(5,vnat i)]) g.length ?_ ?_
 ·exact ⟨0,_,_,by omega,rfl,h0,rfl,by simpa [G.total_rep] using htot,by simp [Fr.only,Fr.look,vnat]⟩
 ·rintro c σ T ⟨i,cells,rows,hi,rfl,hF,hp,ht,rfl⟩
  by_cases hlt:i<g.length
  ·have hw1:IntKind.i64.wrap ((i:Int)+1)=(i:Int)+1:=wrap_i64 (by omega) (by omega);have hr128:=hg.row _ (List.getElem_mem hlt)
   repeat first|refine QG ?_|refine QY ?_ (r:=by conv=>lhs;simp[-List.map_set,QV,hlt])
   rw [G.edges_drop g hlt] at hp ht
   repeat refine QS ?_
   refine je [0,4,5,6] rfl (fun c σ S' => ∃ (k:Nat) (cells:List V) (rows:List (List Nat)),k≤g[i].length∧c=g[i].length-k∧FromAt S S' oo cells rows g.length∧G.pushAll rows ((g[i].drop k).map (·,i)++G.edges (g.drop (i+1)) (i+1))=G.froms g∧G.total rows+((g[i].drop k).map (·,i)++G.edges (g.drop (i+1)) (i+1)).length≤128*g.length∧σ=[(0,vl (vl vnat) g),(4, .slice oo 0 g.length),(5,vnat i),(6,vnat k)]) g[i].length ?_ ?_
   ·exact ⟨0,_,_,by omega,rfl,hF,hp,by simpa using ht,by simp [Fr.only,Fr.look,vnat]⟩
   ·rintro c σ T ⟨k,cells,rows,hk,rfl,hF,hp,ht,rfl⟩;refine Zh fun hTwf => ?_
    have hTn:=hTwf.gone T.nx (Nat.le_refl _)
    by_cases hkl:k<g[i].length
    ·have hw2:IntKind.i64.wrap ((k:Int)+1)=(k:Int)+1:=wrap_i64 (by omega) (by omega);rw [G.map_drop hkl] at hp ht;simp only [List.cons_append,List.length_cons,G.pushAll_cons] at hp ht;have hgk:g[i][k]<g.length:=hg.elt _ (List.getElem_mem hlt) _ (List.getElem_mem hkl);have hkr:g[i][k]<rows.length:=by rw [hF.len]; exact hgk
     have hrow:=G.row_le_total rows g[i][k];have htp:=G.total_push (i:=i) hkr;have hget:=hF.arr.get;have hool:=hF.arr.lt;have hcl:cells.length=g.length:=by rw [hF.arr.len,jak,hF.len]
     have hgkc:g[i][k]<cells.length:=by omega
     have h1:oo<T.nx+1:=by omega
     have h2:oo<T.nx+1+1:=by omega
     have g1:(T.add (1,[V.int .i64 (i:Int)])).get (T.nx+1)=none:=by rw [Kl,if_neg (by omega)]; exact hTwf.gone _ (by omega)
     rcases hF.arr.row _ _ (JY hkr) with ⟨hc,hr0⟩ | ⟨id,hc,hid,hne,hb,hidl,_⟩
     ·have hr0':rows.getD g[i][k] []=[]:=by simpa using hr0
      obtain ⟨_,hce⟩:=List.getElem?_eq_some_iff.1 hc;have hzc:(T.del oo).get oo=none:=by rw [zR,if_pos rfl]
      have s0:(T.del oo).Sub T:=Store.Sub.ofDel T oo;have s1:=s0.add (c:=(1,[V.int .i64 (i:Int)])) hTn;have t1:=T.sub_refl.shp.add (c:=(1,[V.int .i64 (i:Int)])) hTn;have s2:=s1.add (c:=(1,[V.int .i64 (i:Int)])) g1;have t2:=t1.add (c:=(1,[V.int .i64 (i:Int)])) g1;have hgo:((T.add (1,[V.int .i64 (i:Int)])).add (1,[V.int .i64 (i:Int)])).get oo=some (1,cells):=by rw [Ws (by exact h1),Ws hool]; exact hget
      repeat first|refine QG ?_|refine QY ?_ (r:=by conv=>lhs;simp[-List.map_set,QV,hlt,hkl])
      repeat refine QS ?_
      refine jN (T.del oo) (T) [45] rfl (by kernel_rfl) (by conv=>lhs; reduce) (by conv=>lhs; reduce) (by kernel_rfl) (by kernel_rfl) (⟨s0,T.sub_refl.shp⟩) (by conv=>lhs; simp [-List.map_set,QV,hlt,hkl,hget,hgk,hgkc,hce,hool]) ?_;refine jf rfl (by conv=>lhs; simp [-List.map_set,QV,YK]) (⟨s1,t1⟩) ?_;refine jf rfl (by conv=>lhs; simp [-List.map_set,QV,YK,jcy]) (⟨s2,t2⟩) ?_;refine QM (by conv=>lhs;simp[-List.map_set,QV,hgk,hget]) ?_;refine jf rfl (by conv=>lhs; simp [-List.map_set,QV,hgo,hgk,hgkc]) (⟨s2.upd (c:=(1,cells.set g[i][k] (V.slice (T.nx+1) 0 1))) hzc,t2.upd (c:=(1,cells.set g[i][k] (V.slice (T.nx+1) 0 1))) hgo rfl⟩) ?_;refine QN ?_
      repeat first|refine QG ?_|refine QY ?_ (r:=by conv=>lhs;simp[-List.map_set,QV,hw2])
      show jx _ _ _ _ _ _ _;exact again ⟨Nat.sub_lt_sub_left hkl (Nat.lt_succ_self k),k+1,_,_,hkl,rfl,hF.nil (i:=i) hgk hr0' hc,hp,by omega,by simp [Fr.only,Fr.look,vnat]⟩
     ·have hlr:((rows.getD g[i][k] []).map vnat).length=(rows.getD g[i][k] []).length:=by simp
      rw [hlr] at hc;obtain ⟨_,hce⟩:=List.getElem?_eq_some_iff.1 hc;have hb8:((rows.getD g[i][k] []).length+1)*8≤140737488355328:=by omega
      have hb1:(rows.getD g[i][k] []).length+1≤140737488355328:=by omega
      have hcf:=hF.app (i:=i) hgk hb hc;simp only [YR,List.length_map] at hcf;generalize hrw:rows.getD g[i][k] []=row at hce hb8 hb1 hid hcf;have hne':oo≠id:=Ne.symm hne;have hzc:((T.del oo).del id).get oo=none:=by rw [zR,if_neg hne',zR,if_pos rfl]
      have hzi:((T.del oo).del id).get id=none:=by rw [zR,if_pos rfl]
      have hsi:(T.del id).get id=none:=by rw [zR,if_pos rfl]
      have s0:((T.del oo).del id).Sub T:=(Store.Sub.ofDel _ _).trans (Store.Sub.ofDel _ _);have t0:(T.del id).Shp T:=(Store.Sub.ofDel _ _).shp;have s1:=s0.add (c:=(1,[V.int .i64 (i:Int)])) hTn;have t1:=t0.add (c:=(1,[V.int .i64 (i:Int)])) hTn;have g2:((T.add (1,[V.int .i64 (i:Int)])).del id).get (T.nx+1)=none:=by rw [zR,if_neg (by omega)]; exact g1
      have s2:=(s1.del hzi).add (c:=(1,row.map vnat++[V.int .i64 (i:Int)])) g2;have t2:=(t1.del hsi).add (c:=(1,row.map vnat++[V.int .i64 (i:Int)])) g2;have hgo:(((T.add (1,[V.int .i64 (i:Int)])).del id).add (1,row.map vnat++[V.int .i64 (i:Int)])).get oo=some (1,cells):=by rw [Ws (by exact h1),YF hne',Ws hool]; exact hget
      have hgid:(T.add (1,[V.int .i64 (i:Int)])).get id=some (1,row.map vnat):=by rw [Ws hidl]; exact hid
      repeat first|refine QG ?_|refine QY ?_ (r:=by conv=>lhs;simp[-List.map_set,QV,hlt,hkl])
      repeat refine QS ?_
      refine jN ((T.del oo).del id) (T.del id) [45] rfl (by kernel_rfl) (by conv=>lhs; reduce) (by conv=>lhs; reduce) (by kernel_rfl) (by kernel_rfl) (⟨s0,t0⟩) (by conv=>lhs; simp [-List.map_set,QV,hlt,hkl,hget,hgk,hgkc,hce,hool,hne',YF]) ?_;refine jf rfl (by conv=>lhs; simp [-List.map_set,QV,YK]) (⟨s1,t1⟩) ?_;refine jf rfl (by conv=>lhs; simp [-List.map_set,QV,YK,jcy,hgid,hb8,hb1]) (⟨s2,t2⟩) ?_;refine QM (by conv=>lhs;simp[-List.map_set,QV,hgk,hget,hne',YF]) ?_;refine jf rfl (by conv=>lhs; simp [-List.map_set,QV,hgo,hgk,hgkc]) (⟨s2.upd (c:=(1,cells.set g[i][k] (V.slice (T.nx+1) 0 (row.length+1)))) hzc,t2.upd (c:=(1,cells.set g[i][k] (V.slice (T.nx+1) 0 (row.length+1)))) hgo rfl⟩) ?_;refine QN ?_
      repeat first|refine QG ?_|refine QY ?_ (r:=by conv=>lhs;simp[-List.map_set,QV,hw2])
      show jx _ _ _ _ _ _ _;exact again ⟨Nat.sub_lt_sub_left hkl (Nat.lt_succ_self k),k+1,_,_,hkl,rfl,hcf,hp,by omega,by simp [Fr.only,Fr.look,vnat]⟩
    ·repeat first|refine QG ?_|refine QY ?_ (r:=by conv=>lhs;simp[-List.map_set,QV,hlt,hkl,hw1])
     have:k=g[i].length:=by omega
     subst this;simp at hp ht;show jx _ _ _ _ _ _ _;exact again ⟨Nat.sub_lt_sub_left hlt (Nat.lt_succ_self i),i+1,_,_,hlt,rfl,hF,hp,by simpa using ht,by simp [Fr.only,Fr.look,vnat]⟩
  ·have hig:i=g.length:=by omega
   subst hig
   repeat refine QS ?_
   refine QY ?_
   repeat refine QS ?_
   refine jI rfl rfl rfl ?_
   repeat refine QS ?_
   refine jP 0 rfl rfl ?_;simp [G.edges,G.pushAll] at hp;obtain ⟨T2,k1,k2,k3,k4,k5⟩:=hF.arr.freeze (N:=51) (b0:=S.nx) (KY rows);refine ju k1 ?_
   repeat first|refine QG ?_|refine QY ?_
   have hfr:=Ghost.freeze1 (len:=g.length) k2 (by simp [V.closed1]) (by simp [ze,hF.len]);rw [jbs,hp] at hfr;have hag:Agree S (T2.del oo):=by
    have h0:=hF.agree;refine ⟨by show S.nx≤T2.nx; rw [k3]; exact h0.1,fun o ho => ?_⟩;have hb:=hF.arr.base;rw [YF (by omega),k4 o (.inl ho) (by omega)];exact h0.2 o ho
   exact zG hwf ((Ghost.tuple [] [vint 0] hfr).toB _) hag rfl
end Go.Vw

namespace Go.Vw
open Go.Proofs Go.RowKit
set_option maxRecDepth 10000
set_option maxHeartbeats 4000000
theorem Meet_v (S:Store) (rank:List Nat) (near:List Int) (hrl:rank.length=near.length) (o7 o10 or on:Nat) (h7:S.get o7=some (1,[.slice or 0 rank.length])) (hr:S.get or=some (1,rank.map vnat)) (h10:S.get o10=some (1,[.slice on 0 near.length])) (hn:S.get on=some (1,near.map vint))
  (f:Nat) (a b c:Int) (hm:G.meetF rank near f a b=some c):VCalls Tryz.prog 112 [vint a,vint b, .ptr o7 0, .ptr o10 0] S (fun r S'=>r=vint c∧S'=S):=by
 refine jb (c:=jg Tryz.f112) Tryz.func112 rfl rfl (by simp [Tryz.ntmps112]) ?_;rw [Tryz.ntmps112];intro hwf;have lt : ∀ o c,S.get o=some c→o<S.nx:=by
  intro o c ho;rcases Nat.lt_or_ge o S.nx with h | h
  ·exact h
  ·rw [hwf.gone o h] at ho; cases ho
 have k7 := @jt S [] [] o7 (lt _ _ h7);have kr := @jt S [] [] or (lt _ _ hr);have k10 := @jt S [] [] o10 (lt _ _ h10);have kn := @jt S [] [] on (lt _ _ hn)
 repeat first|refine QG ?_|refine QY ?_
 repeat refine QS ?_
 refine je [0,1,2,3] rfl (fun n σ S' => ∃ a b:Int,G.meetF rank near n a b=some c∧σ=[(0,vint a),(1,vint b),(2, .ptr o7 0),(3, .ptr o10 0)]∧S'=St S [] []) f ?_ ?_
 ·exact ⟨a,b,hm,by simp [Fr.only,Fr.look,vint],rfl⟩
 ·rintro n σ T ⟨a,b,hm,rfl,rfl⟩
  cases n with
  | zero=>cases hm
  | succ n =>
   simp only [G.meetF] at hm
   by_cases hab:a=b
   ·rw [if_pos hab] at hm
    cases hm
    subst hab
    repeat first|refine QG ?_|refine QY ?_
    exact ja hwf rfl rfl
   ·rw [if_neg hab] at hm;split at hm
    ·rename_i hok;obtain ⟨a0,a1,b0,b1⟩:=hok;have ha:a.toNat<near.length:=by omega
     have hb:b.toNat<near.length:=by omega
     have har:a.toNat<rank.length:=by omega
     have hbr:b.toNat<rank.length:=by omega
     have a1':a<(rank.length:Int):=by omega
     have b1':b<(rank.length:Int):=by omega
     have e1:rank.getD a.toNat 0=rank[a.toNat]:=by simp [har]
     have e2:rank.getD b.toNat 0=rank[b.toNat]:=by simp [hbr]
     have e3:near.getD a.toNat 0=near[a.toNat]:=by simp [ha]
     have e4:near.getD b.toNat 0=near[b.toNat]:=by simp [hb]
     rw [e1,e2,e3,e4] at hm;split at hm
     ·rename_i hlt
      repeat first|refine QG ?_|refine QY ?_ (r:=by conv=>lhs;simp[-List.map_set,QV,k7,kr,k10,kn,h7,hr,h10,hn,hab,a0,a1,b0,b1,ha,hb,har,hbr,a1',b1',hlt])
      show jx _ _ _ _ _ _ _;exact again ⟨Nat.lt_succ_self n,_,_,hm,by simp [Fr.only,Fr.look,vint],rfl⟩
     ·rename_i hlt
      repeat first|refine QG ?_|refine QY ?_ (r:=by conv=>lhs;simp[-List.map_set,QV,k7,kr,k10,kn,h7,hr,h10,hn,hab,a0,a1,b0,b1,ha,hb,har,hbr,a1',b1',hlt])
      show jx _ _ _ _ _ _ _;exact again ⟨Nat.lt_succ_self n,_,_,hm,by simp [Fr.only,Fr.look,vint],rfl⟩
    ·cases hm
end Go.Vw
