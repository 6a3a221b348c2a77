import Derived.Test.YtkfllaokjaldnaaGreatC7
import Derived.Test.YtkfllaokjaldnaaGreatC10
import Derived.Test.YtkfllaokjaldnaaGreatProg
/- Part of the proof. -/
set_option linter.unusedVariables false
set_option linter.unusedSimpArgs false
set_option maxRecDepth 10000
set_option maxHeartbeats 8000000
namespace Go.Vw
open Go.Proofs Go.RowKit
attribute [-simp] List.map_set
theorem Right_v (g:List (List Int)) (hg:g.length<2^63) (hl : ∀ l∈g,l.length<2^63):VPure Tryz.prog 113 [vl (vl vint) g] (.bool (G.right g)):=by
 intro S;refine qU rfl ?_;refine qO (c:=jd Tryz.f113) Tryz.func113 rfl rfl (by simp [Tryz.ntmps113]) ?_;rw [Tryz.ntmps113];refine QT ?_;refine QY ?_;refine jx 1 rfl (Ghost.box (get_add _ _) (jbJ _ _)) (by conv=>lhs; simp [Fr.set]) ?_;have hag:Agree S ((S.add (1,[vl (vl vint) g])).del S.nx):=((Agree.refl S).add _).del (Nat.le_refl _);generalize (S.add (1,[vl (vl vint) g])).del S.nx=S1 at hag ⊢
 by_cases h0:(g.length:Int)=0
 ·have hq:((g.length:Int)==0)=true:=by simp [h0]
  refine QT ?_;refine QY ?_ (r:=by conv=>lhs;simp[QV,jI,hq]);refine QT ?_;refine jG rfl rfl rfl ?_;refine QT ?_;refine QY ?_;refine QT ?_;refine jN rfl ?_;have:G.right g=false:=by simp [G.right]; omega
  rw [this];exact Gives.same hag
 ·have hq:((g.length:Int)==0)=false:=by simpa using h0
  by_cases h1:(256:Int)<g.length
  ·refine QT ?_;refine QY ?_ (r:=by conv=>lhs;simp[QV,jI,hq,h1]);refine QT ?_;refine jG rfl rfl rfl ?_;refine QT ?_;refine QY ?_;refine QT ?_;refine jN rfl ?_;have:G.right g=false:=by simp [G.right]; omega
   rw [this];exact Gives.same hag
  ·have hfin:G.right g=g.all (G.rowOk g.length):=by
    have a1:decide (1≤g.length)=true:=by simp; omega
    have a2:decide (g.length≤256)=true:=by simp; omega
    simp [G.right,a1,a2]
   rw [hfin];refine QT ?_;refine QY ?_ (r:=by conv=>lhs;simp[QV,jI,hq,h1]);refine QT ?_;refine jH rfl rfl rfl ?_;refine QT ?_;refine jB rfl ?_;refine QT ?_;refine QY ?_ (r:=by conv=>lhs;simp[QV,jI]);refine QT ?_;refine jK 0 rfl rfl ?_;refine QT ?_;refine jc [0,1,13,14,15] rfl (fun n σ S' => ∃ (k:Nat),k≤g.length∧n=g.length-k∧(g.drop k).all (G.rowOk g.length)=g.all (G.rowOk g.length)∧σ=[(0,vl (vl vint) g),(1, .ref (vl (vl vint) g)),(13,vl (vl vint) g),(14,vnat g.length),(15,vnat k)]∧S'=S1) g.length ?_ ?_
   ·exact ⟨0,by omega,rfl,rfl,by simp [Fr.only,Fr.look,vnat,vint],rfl⟩
   ·rintro n σ S' ⟨k,hk,rfl,hd,rfl,rfl⟩
    by_cases hk6:k<g.length
    ·have h7:(k:Int)<(g.length:Int):=by omega
     have hst:(g.drop k).all (G.rowOk g.length)=(G.rowOk g.length g[k]&&(g.drop (k+1)).all (G.rowOk g.length)):=by
      rw [List.drop_eq_getElem_cons hk6,List.all_cons]
     have hw:IntKind.i64.wrap ((k:Int)+1)=(k:Int)+1:=wrap_i64 (by omega) (by omega);have hlk:g[k].length<2^63:=hl _ (List.getElem_mem hk6);refine QT ?_;refine QY ?_ (r:=by conv=>lhs;simp[QV,h7]);refine QT ?_;refine jG rfl rfl rfl ?_;refine QT ?_;refine jB rfl ?_;refine QT ?_;refine jK 1 rfl rfl ?_;refine QT ?_;refine QY ?_ (r:=by conv=>lhs;simp[QV,qf,hk6])
     by_cases h2:(128:Int)<g[k].length
     ·refine QT ?_;refine QY ?_ (r:=by conv=>lhs;simp[QV,jI,h2]);refine QT ?_;refine jG rfl rfl rfl ?_;refine QT ?_;refine QY ?_;refine QT ?_;refine jN rfl ?_;have:G.rowOk g.length g[k]=false:=by simp [G.rowOk]; omega
      rw [←hd,hst,this];exact Gives.same hag
     ·have h3:G.rowOk g.length g[k] = !(g[k].any (G.wild g.length)):=by
       have:decide (g[k].length≤128)=true:=by simp; omega
       simp [G.rowOk,this]
      rw [h3] at hst;refine QT ?_;refine QP ?_ (r:=by conv=>lhs;simp[QV,jI,h2]);refine jm rfl (AnyWild_v g g[k] hlk) ?_;refine QW ?_
      cases hc:g[k].any (G.wild g.length)
      ·rw [hc] at hst;refine jH rfl rfl (by simp [ev,Fr.look,hc]) ?_;refine QT ?_;refine jB rfl ?_;refine QT ?_;refine QY ?_ (r:=by conv=>lhs;simp[QV,hw]);exact again ⟨Nat.sub_lt_sub_left (by omega) (Nat.lt_succ_self k),k+1,by omega,rfl,by rw [←hd,hst]; rfl,by simp [Fr.only,Fr.look,vnat,vint],rfl⟩
      ·rw [hc] at hst;refine jG rfl rfl (by simp [ev,Fr.look,hc]) ?_;refine QT ?_;refine QY ?_;refine QT ?_;refine jN rfl ?_;rw [←hd,hst];exact Gives.same hag
    ·have h7 : ¬ (k:Int)<(g.length:Int):=by omega
     refine QT ?_;refine QY ?_ (r:=by conv=>lhs;simp[QV,h7]);refine QT ?_;refine jH rfl rfl rfl ?_;refine QT ?_;refine jQ 0 rfl rfl ?_;refine QT ?_;refine QY ?_;refine QT ?_;refine jN rfl ?_;have:g.drop k=[]:=by rw [List.drop_eq_nil_iff]; omega
     rw [←hd,this];exact Gives.same hag
theorem ZF (g:List (List Int)) (hg:g.length<2^63) (hl : ∀ l∈g,l.length<2^63):VPure Tryz.prog 45 [vl (vl vint) g] (.bool (G.right g)):=by
 intro S;refine qU rfl ?_;refine qO (c:=jd Tryz.f45) Tryz.func45 rfl rfl (by simp [Tryz.ntmps45]) ?_;rw [Tryz.ntmps45];refine QT ?_;refine QY ?_
 by_cases h0:(g.length:Int)<1
 ·refine QT ?_;refine QY ?_ (r:=by conv=>lhs;simp[QV,jI,h0]);refine QT ?_;refine jG rfl rfl rfl ?_;refine QT ?_;refine QY ?_;refine QT ?_;refine jN rfl ?_;have:G.right g=false:=by simp [G.right]; omega
  rw [this];exact Gives.same (Agree.refl S)
 ·by_cases h1:(256:Int)<g.length
  ·refine QT ?_;refine QY ?_ (r:=by conv=>lhs;simp[QV,jI,h0,h1]);refine QT ?_;refine jG rfl rfl rfl ?_;refine QT ?_;refine QY ?_;refine QT ?_;refine jN rfl ?_;have:G.right g=false:=by simp [G.right]; omega
   rw [this];exact Gives.same (Agree.refl S)
  ·have hfin:G.right g=g.all (G.rowOk g.length):=by
    have a1:decide (1≤g.length)=true:=by simp; omega
    have a2:decide (g.length≤256)=true:=by simp; omega
    simp [G.right,a1,a2]
   rw [hfin];refine QT ?_;refine QY ?_ (r:=by conv=>lhs;simp[QV,jI,h0,h1]);refine QT ?_;refine jH rfl rfl rfl ?_;refine QT ?_;refine jB rfl ?_;refine QT ?_;refine QY ?_;refine QT ?_;refine jK 0 rfl rfl ?_;refine QT ?_;refine jc [0,3] rfl (fun n σ S' => ∃ (k:Nat),k≤g.length∧n=g.length-k∧(g.drop k).all (G.rowOk g.length)=g.all (G.rowOk g.length)∧σ=[(0,vl (vl vint) g),(3,vnat k)]∧S'=S) g.length ?_ ?_
   ·exact ⟨0,by omega,rfl,rfl,by simp [Fr.only,Fr.look,vnat,vint],rfl⟩
   ·rintro n σ S' ⟨k,hk,rfl,hd,rfl,rfl⟩
    by_cases hk6:k<g.length
    ·have h7:(k:Int)<(g.length:Int):=by omega
     have hst:(g.drop k).all (G.rowOk g.length)=(G.rowOk g.length g[k]&&(g.drop (k+1)).all (G.rowOk g.length)):=by
      rw [List.drop_eq_getElem_cons hk6,List.all_cons]
     have hw:IntKind.i64.wrap ((k:Int)+1)=(k:Int)+1:=wrap_i64 (by omega) (by omega);have hlk:g[k].length<2^63:=hl _ (List.getElem_mem hk6);refine QT ?_;refine QY ?_ (r:=by conv=>lhs;simp[QV,jI,h7]);refine QT ?_;refine jG rfl rfl rfl ?_;refine QT ?_;refine jB rfl ?_;refine QT ?_;refine jK 1 rfl rfl ?_
     by_cases h2:(128:Int)<g[k].length
     ·refine QT ?_;refine QY ?_ (r:=by conv=>lhs;simp[QV,qf,hk6,jI,h2]);refine QT ?_;refine jG rfl rfl rfl ?_;refine QT ?_;refine QY ?_;refine QT ?_;refine jN rfl ?_;have:G.rowOk g.length g[k]=false:=by simp [G.rowOk]; omega
      rw [←hd,hst,this];exact Gives.same (Agree.refl S')
     ·have h3:G.rowOk g.length g[k] = !(g[k].any (G.wild g.length)):=by
       have:decide (g[k].length≤128)=true:=by simp; omega
       simp [G.rowOk,this]
      rw [h3] at hst;refine QT ?_;refine QY ?_ (r:=by conv=>lhs;simp[QV,qf,hk6,jI,h2]);refine QT ?_;refine jH rfl rfl rfl ?_;refine QT ?_;refine jB rfl ?_;refine QT ?_;refine QY ?_;refine QT ?_;refine jK 2 rfl rfl ?_;refine QT ?_;refine jc [0,3,4] rfl (fun n σ S'' => ∃ (j:Nat),j≤g[k].length∧n=g[k].length-j∧(g[k].drop j).any (G.wild g.length)=g[k].any (G.wild g.length)∧σ=[(0,vl (vl vint) g),(3,vnat k),(4,vnat j)]∧S''=S') g[k].length ?_ ?_
      ·exact ⟨0,by omega,rfl,rfl,by simp [Fr.only,Fr.look,vnat,vint],rfl⟩
      ·rintro n σ S'' ⟨j,hj,rfl,he,rfl,rfl⟩
       by_cases hj6:j<g[k].length
       ·have i7:(j:Int)<(g[k].length:Int):=by omega
        have ist:(g[k].drop j).any (G.wild g.length)=(G.wild g.length g[k][j]||(g[k].drop (j+1)).any (G.wild g.length)):=by
         rw [List.drop_eq_getElem_cons hj6,List.any_cons]
        have iw:IntKind.i64.wrap ((j:Int)+1)=(j:Int)+1:=wrap_i64 (by omega) (by omega);refine QT ?_;refine QY ?_ (r:=by conv=>lhs;simp[QV,qf,hk6,jI,i7]);refine QT ?_;refine jG rfl rfl rfl ?_;refine QT ?_;refine jB rfl ?_;refine QT ?_;refine jK 3 rfl rfl ?_
        by_cases n0:g[k][j]<0
        ·refine QT ?_;refine QY ?_ (r:=by conv=>lhs;simp[QV,qf,hk6,qf,hj6,n0]);refine QT ?_;refine jG rfl rfl rfl ?_;refine QT ?_;refine QY ?_;refine QT ?_;refine jN rfl ?_;have:G.wild g.length g[k][j]=true:=by simp [G.wild,n0]
         rw [←hd,hst, ←he,ist,this];exact Gives.same (Agree.refl S'')
        ·by_cases n1:(g.length:Int)≤g[k][j]
         ·refine QT ?_;refine QY ?_ (r:=by conv=>lhs;simp[QV,qf,hk6,qf,hj6,n0,jI,n1]);refine QT ?_;refine jG rfl rfl rfl ?_;refine QT ?_;refine QY ?_;refine QT ?_;refine jN rfl ?_;have:G.wild g.length g[k][j]=true:=by simp [G.wild,n1]
          rw [←hd,hst, ←he,ist,this];exact Gives.same (Agree.refl S'')
         ·refine QT ?_;refine QY ?_ (r:=by conv=>lhs;simp[QV,qf,hk6,qf,hj6,n0,jI,n1]);refine QT ?_;refine jH rfl rfl rfl ?_;refine QT ?_;refine jB rfl ?_;refine QT ?_;refine QY ?_ (r:=by conv=>lhs;simp[QV,iw]);have:G.wild g.length g[k][j]=false:=by simp [G.wild,n0,n1]
          rw [this] at ist;exact again ⟨Nat.sub_lt_sub_left (by omega) (Nat.lt_succ_self j),j+1,by omega,rfl,by rw [←he,ist]; rfl,by simp [Fr.only,Fr.look,vnat,vint],rfl⟩
       ·have i7 : ¬ (j:Int)<(g[k].length:Int):=by omega
        refine QT ?_;refine QY ?_ (r:=by conv=>lhs;simp[QV,qf,hk6,jI,i7]);refine QT ?_;refine jH rfl rfl rfl ?_;refine QT ?_;refine jQ 2 rfl rfl ?_;have hz:g[k].drop j=[]:=by rw [List.drop_eq_nil_iff]; omega
        rw [hz] at he;rw [←he] at hst;refine QT ?_;refine QY ?_ (r:=by conv=>lhs;simp[QV,hw]);exact again ⟨Nat.sub_lt_sub_left (by omega) (Nat.lt_succ_self k),k+1,by omega,rfl,by rw [←hd,hst]; rfl,by simp [Fr.only,Fr.look,vnat,vint],rfl⟩
    ·have h7 : ¬ (k:Int)<(g.length:Int):=by omega
     refine QT ?_;refine QY ?_ (r:=by conv=>lhs;simp[QV,jI,h7]);refine QT ?_;refine jH rfl rfl rfl ?_;refine QT ?_;refine jQ 0 rfl rfl ?_;refine QT ?_;refine QY ?_;refine QT ?_;refine jN rfl ?_;have:g.drop k=[]:=by rw [List.drop_eq_nil_iff]; omega
     rw [←hd,this];exact Gives.same (Agree.refl S')
def zg (rows:List (List Nat)):List (List V):=rows.map (·.map vnat)
theorem jap (rows:List (List Nat)):(zg rows).length=rows.length:=by simp [zg]
theorem Zb {rows:List (List Nat)} {k i:Nat} (h:k<rows.length):zg (G.push rows k i)=(zg rows).set k ((rows.getD k []).map vnat++[.int .i64 (i:Int)]):=by
 simp [zg,G.push,List.map_set,vnat]
theorem JV {rows:List (List Nat)} {k:Nat} (h:k<rows.length):(zg rows)[k]? = some ((rows.getD k []).map vnat):=by
 simp [zg,h]
theorem KZ (rows:List (List Nat)) : ∀ row∈zg rows,row.all V.closed1=true:=by
 intro row h;simp only [zg,List.mem_map] at h;obtain ⟨r,_,rfl⟩:=h;simp [vnat,V.closed1]
theorem jbz (rows:List (List Nat)):V.list ((zg rows).map V.list)=vl (vl vnat) rows:=by
 simp [zg,vl]
theorem FromErr_v (g:List (List Int)) (hg:g.length<2^63) (hl : ∀ l∈g,l.length<2^63) (hr:G.right g=false):VPure Tryz.prog 78 [vl (vl vint) g] (.tuple [vl vnat [],vint 1]):=by
 intro S;refine QB (c:=jd Tryz.f78) Tryz.func78 Tryz.ntmps78 fun hwf=>?_
 repeat first|refine QG ?_|refine QY ?_
 refine QT ?_;refine QP ?_;refine jm rfl (Right_v g hg hl) ?_;refine QM (by conv=>lhs;simp[QV,hr]) ?_;refine QN ?_
 repeat first|refine QG ?_|refine QY ?_
 exact jh (l:=[]) hwf ((Ghost.tuple [] [vint 1] (Ghost.nils_list _)).toB _) rfl
structure FromAt (S T:Store) (oo:Nat) (cells:List V) (rows:List (List Nat)) (n:Nat):Prop where
 agree:Agree S T
 arr:RowsAt T S.nx oo [] cells (zg rows)
 len:rows.length=n
theorem FromAt.nil {S T:Store} {oo n k i:Nat} {cells:List V} {rows:List (List Nat)} (h:FromAt S T oo cells rows n) (hk:k<n) (hr:rows.getD k []=[]) (hc:cells[k]? = some .nils):FromAt S (jbr T oo cells k (.int .i64 (i:Int))) oo (cells.set k (.slice (T.nx+1) 0 1)) (G.push rows k i) n:=by
 have hlt:k<rows.length:=by rw [h.len]; exact hk
 refine ⟨((h.agree.add _).add _).upd h.arr.base _, ?_,by simp [G.push_length,h.len]⟩;rw [Zb hlt,hr];refine h.arr.nil ?_ (by simp) hc;rw [JV hlt,hr]; rfl
theorem FromAt.app {S T:Store} {oo n k i id:Nat} {cells:List V} {rows:List (List Nat)} (h:FromAt S T oo cells rows n) (hk:k<n) (hid:S.nx≤id) (hc:cells[k]? = some (.slice id 0 (rows.getD k []).length)):FromAt S (YV T oo cells k id ((rows.getD k []).map vnat) (.int .i64 (i:Int))) oo (cells.set k (.slice (T.nx+1) 0 ((rows.getD k []).length+1))) (G.push rows k i) n:=by
 have hlt:k<rows.length:=by rw [h.len]; exact hk
 refine ⟨(((h.agree.add _).del hid).add _).upd h.arr.base _, ?_,by simp [G.push_length,h.len]⟩;rw [Zb hlt];have:=h.arr.app (x := .int .i64 (i:Int)) (id:=id) (JV hlt) (by simp) (by simpa using hc);simpa using this
theorem From_v (g:List (List Nat)) (hg:G.Ok g) (hr:VPure Tryz.prog 113 [vl (vl vnat) g] (.bool true)):VPure Tryz.prog 78 [vl (vl vnat) g] (.tuple [vl (vl vnat) (G.froms g),vint 0]):=by
 intro S;refine QB (c:=jd Tryz.f78) Tryz.func78 Tryz.ntmps78 fun hwf=>?_
 have hm256:=hg.max;have hb24:g.length*24≤140737488355328:=by omega
 have hb0:g.length≤140737488355328:=by omega
 repeat first|refine QG ?_|refine QY ?_
 refine QT ?_;refine QP ?_;refine jm rfl (hr) ?_;refine QW ?_
 repeat first|refine QG ?_|refine QY ?_ (r:=by conv=>lhs;simp[QV,hb24,hb0])
 have h0:FromAt S (St S [] [some (1,List.replicate g.length V.nils)]) (lid S.nx 0) (List.replicate g.length .nils) (List.replicate g.length []) g.length:=by
  refine ⟨Jn, ?_,by simp⟩;have:zg (List.replicate g.length [])=List.replicate g.length []:=by simp [zg]
  rw [this];exact RowsAt.start (by simp [jv]) (by simp [lid]) (by rw [jE]; simp [lid]) (by simp)
 have htot:=G.edges_len hg.row 0;refine vw_gen (fun T=>FromAt S T (lid S.nx 0) (List.replicate g.length .nils) (List.replicate g.length []) g.length) h0 ?_;intro T h0;generalize lid S.nx 0=oo at h0 ⊢
 repeat first|refine QG ?_|refine QY ?_
 refine QT ?_;refine jc [4,15,16,17] rfl (fun c σ S' => ∃ (i:Nat) (cells:List V) (rows:List (List Nat)),i≤g.length∧c=g.length-i∧FromAt S S' oo cells rows g.length∧G.pushAll rows (G.edges (g.drop i) i)=G.froms g∧G.total rows+(G.edges (g.drop i) i).length≤128*g.length∧σ=[(4, .slice oo 0 g.length),(15,vl (vl vnat) g),(16,vnat g.length),(17,vnat i)]) g.length ?_ ?_
 ·exact ⟨0,_,_,by omega,rfl,h0,rfl,by simpa [G.total_rep] using htot,by simp [Fr.only,Fr.look,vnat]⟩
 ·rintro c σ T ⟨i,cells,rows,hi,rfl,hF,hp,ht,rfl⟩
  by_cases hlt:i<g.length
  ·have hw1:IntKind.i64.wrap ((i:Int)+1)=(i:Int)+1:=wrap_i64 (by omega) (by omega);have hr128:=hg.row _ (List.getElem_mem hlt)
   repeat first|refine QG ?_|refine QY ?_ (r:=by conv=>lhs;simp[QV,hlt])
   rw [G.edges_drop g hlt] at hp ht;refine QT ?_;refine jc [4,5,15,16,17,22,23,24] rfl (fun c σ S' => ∃ (k:Nat) (cells:List V) (rows:List (List Nat)),k≤g[i].length∧c=g[i].length-k∧FromAt S S' oo cells rows g.length∧G.pushAll rows ((g[i].drop k).map (·,i)++G.edges (g.drop (i+1)) (i+1))=G.froms g∧G.total rows+((g[i].drop k).map (·,i)++G.edges (g.drop (i+1)) (i+1)).length≤128*g.length∧σ=[(4, .slice oo 0 g.length),(5,vnat i),(15,vl (vl vnat) g),(16,vnat g.length),(17,vnat i),(22,vl vnat g[i]),(23,vnat g[i].length),(24,vnat k)]) g[i].length ?_ ?_
   ·exact ⟨0,_,_,by omega,rfl,hF,hp,by simpa using ht,by simp [Fr.only,Fr.look,vnat]⟩
   ·rintro c σ T ⟨k,cells,rows,hk,rfl,hF,hp,ht,rfl⟩
    by_cases hkl:k<g[i].length
    ·have hw2:IntKind.i64.wrap ((k:Int)+1)=(k:Int)+1:=wrap_i64 (by omega) (by omega);rw [G.map_drop hkl] at hp ht;simp only [List.cons_append,List.length_cons,G.pushAll_cons] at hp ht;have hgk:g[i][k]<g.length:=hg.elt _ (List.getElem_mem hlt) _ (List.getElem_mem hkl);have hkr:g[i][k]<rows.length:=by rw [hF.len]; exact hgk
     have hrow:=G.row_le_total rows g[i][k];have htp:=G.total_push (i:=i) hkr;have hget:=hF.arr.get;have hool:=hF.arr.lt;have hcl:cells.length=g.length:=by rw [hF.arr.len,jap,hF.len]
     have hgkc:g[i][k]<cells.length:=by omega
     have h1:oo<T.nx+1:=by omega
     have h2:oo<T.nx+1+1:=by omega
     rcases hF.arr.row _ _ (JV hkr) with ⟨hc,hr0⟩ | ⟨id,hc,hid,hne,hb,hidl,_⟩
     ·have hr0':rows.getD g[i][k] []=[]:=by simpa using hr0
      obtain ⟨_,hce⟩:=List.getElem?_eq_some_iff.1 hc
      repeat first|refine QG ?_|refine QY ?_ (r:=by conv=>lhs;simp[QV,hlt,hkl,hw2])
      repeat first|refine QG ?_|refine QY ?_ (r:=by conv=>lhs;simp[QV,hlt,hkl,hget,hgk,jcE,YN,Ws,hool,h1,h2,hgkc,hce,hw2])
      show jp _ _ _ _ _ _ _;exact again ⟨Nat.sub_lt_sub_left hkl (Nat.lt_succ_self k),k+1,_,_,hkl,rfl,hF.nil (i:=i) hgk hr0' hc,hp,by omega,by simp [Fr.only,Fr.look,vnat]⟩
     ·have hlr:((rows.getD g[i][k] []).map vnat).length=(rows.getD g[i][k] []).length:=by simp
      rw [hlr] at hc;obtain ⟨_,hce⟩:=List.getElem?_eq_some_iff.1 hc;have hb8:((rows.getD g[i][k] []).length+1)*8≤140737488355328:=by omega
      have hb1:(rows.getD g[i][k] []).length+1≤140737488355328:=by omega
      have hcf:=hF.app (i:=i) hgk hb hc;simp only [YV,List.length_map] at hcf;generalize hrw:rows.getD g[i][k] []=row at hce hb8 hb1 hid hcf;have hne':oo≠id:=Ne.symm hne
      repeat first|refine QG ?_|refine QY ?_ (r:=by conv=>lhs;simp[QV,hlt,hkl,hw2])
      repeat first|refine QG ?_|refine QY ?_ (r:=by conv=>lhs;simp[QV,hlt,hkl,hget,hgk,jcE,YN,Ws,YI,del_nx,hool,h1,h2,hgkc,hce,hw2,hid,hidl,hne',hb8,hb1])
      show jp _ _ _ _ _ _ _;exact again ⟨Nat.sub_lt_sub_left hkl (Nat.lt_succ_self k),k+1,_,_,hkl,rfl,hcf,hp,by omega,by simp [Fr.only,Fr.look,vnat]⟩
    ·repeat first|refine QG ?_|refine QY ?_ (r:=by conv=>lhs;simp[QV,hlt,hkl,hw1])
     have:k=g[i].length:=by omega
     subst this;simp at hp ht;show jp _ _ _ _ _ _ _;exact again ⟨Nat.sub_lt_sub_left hlt (Nat.lt_succ_self i),i+1,_,_,hlt,rfl,hF,hp,by simpa using ht,by simp [Fr.only,Fr.look,vnat]⟩
  ·have hig:i=g.length:=by omega
   subst hig;refine QT ?_;refine QY ?_;refine QT ?_;refine jH rfl rfl rfl ?_;refine QT ?_;refine jQ 0 rfl rfl ?_;simp [G.edges,G.pushAll] at hp;obtain ⟨T2,k1,k2,k3,k4,k5⟩:=hF.arr.freeze (N:=41) (b0:=S.nx) (KZ rows);refine jo k1 ?_
   repeat first|refine QG ?_|refine QY ?_
   have hfr:=Ghost.freeze1 (len:=g.length) k2 (by simp [V.closed1]) (by simp [zg,hF.len]);rw [jbz,hp] at hfr;have hag:Agree S (T2.del oo):=by
    have h0:=hF.agree;refine ⟨by show S.nx≤T2.nx; rw [k3]; exact h0.1,fun o ho => ?_⟩;have hb:=hF.arr.base;rw [YI (by omega),k4 o (.inl ho) (by omega)];exact h0.2 o ho
   exact zw hwf ((Ghost.tuple [] [vint 0] hfr).toB _) hag rfl
theorem RFromErr_v (g:List (List Int)) (hg:g.length<2^63) (hl : ∀ l∈g,l.length<2^63) (hr:G.right g=false):VPure Tryz.prog 58 [vl (vl vint) g] (.tuple [vl vnat [],vint 1]):=by
 intro S;refine QB (c:=jd Tryz.f58) Tryz.func58 Tryz.ntmps58 fun hwf=>?_
 repeat first|refine QG ?_|refine QY ?_
 refine QT ?_;refine QP ?_;refine jm rfl (ZF g hg hl) ?_;refine QM (by conv=>lhs;simp[QV,hr]) ?_;refine QN ?_
 repeat first|refine QG ?_|refine QY ?_
 exact jh (l:=[]) hwf ((Ghost.tuple [] [vint 1] (Ghost.nils_list _)).toB _) rfl
theorem RFrom_v (g:List (List Nat)) (hg:G.Ok g) (hr:VPure Tryz.prog 45 [vl (vl vnat) g] (.bool true)):VPure Tryz.prog 58 [vl (vl vnat) g] (.tuple [vl (vl vnat) (G.froms g),vint 0]):=by
 intro S;refine QB (c:=jd Tryz.f58) Tryz.func58 Tryz.ntmps58 fun hwf=>?_
 have hm256:=hg.max;have hb24:g.length*24≤140737488355328:=by omega
 have hb0:g.length≤140737488355328:=by omega
 repeat first|refine QG ?_|refine QY ?_
 refine QT ?_;refine QP ?_;refine jm rfl (hr) ?_;refine QW ?_
 repeat first|refine QG ?_|refine QY ?_ (r:=by conv=>lhs;simp[QV,hb24,hb0])
 have h0:FromAt S (St S [] [some (1,List.replicate g.length V.nils)]) (lid S.nx 0) (List.replicate g.length .nils) (List.replicate g.length []) g.length:=by
  refine ⟨Jn, ?_,by simp⟩;have:zg (List.replicate g.length [])=List.replicate g.length []:=by simp [zg]
  rw [this];exact RowsAt.start (by simp [jv]) (by simp [lid]) (by rw [jE]; simp [lid]) (by simp)
 have htot:=G.edges_len hg.row 0;refine vw_gen (fun T=>FromAt S T (lid S.nx 0) (List.replicate g.length .nils) (List.replicate g.length []) g.length) h0 ?_;intro T h0;generalize lid S.nx 0=oo at h0 ⊢
 repeat first|refine QG ?_|refine QY ?_
 refine QT ?_;refine jc [0,4,5] rfl (fun c σ S' => ∃ (i:Nat) (cells:List V) (rows:List (List Nat)),i≤g.length∧c=g.length-i∧FromAt S S' oo cells rows g.length∧G.pushAll rows (G.edges (g.drop i) i)=G.froms g∧G.total rows+(G.edges (g.drop i) i).length≤128*g.length∧σ=[(0,vl (vl vnat) g),(4, .slice oo 0 g.length),(5,vnat i)]) g.length ?_ ?_
 ·exact ⟨0,_,_,by omega,rfl,h0,rfl,by simpa [G.total_rep] using htot,by simp [Fr.only,Fr.look,vnat]⟩
 ·rintro c σ T ⟨i,cells,rows,hi,rfl,hF,hp,ht,rfl⟩
  by_cases hlt:i<g.length
  ·have hw1:IntKind.i64.wrap ((i:Int)+1)=(i:Int)+1:=wrap_i64 (by omega) (by omega);have hr128:=hg.row _ (List.getElem_mem hlt)
   repeat first|refine QG ?_|refine QY ?_ (r:=by conv=>lhs;simp[QV,hlt])
   rw [G.edges_drop g hlt] at hp ht;refine QT ?_;refine jc [0,4,5,6] rfl (fun c σ S' => ∃ (k:Nat) (cells:List V) (rows:List (List Nat)),k≤g[i].length∧c=g[i].length-k∧FromAt S S' oo cells rows g.length∧G.pushAll rows ((g[i].drop k).map (·,i)++G.edges (g.drop (i+1)) (i+1))=G.froms g∧G.total rows+((g[i].drop k).map (·,i)++G.edges (g.drop (i+1)) (i+1)).length≤128*g.length∧σ=[(0,vl (vl vnat) g),(4, .slice oo 0 g.length),(5,vnat i),(6,vnat k)]) g[i].length ?_ ?_
   ·exact ⟨0,_,_,by omega,rfl,hF,hp,by simpa using ht,by simp [Fr.only,Fr.look,vnat]⟩
   ·rintro c σ T ⟨k,cells,rows,hk,rfl,hF,hp,ht,rfl⟩;refine Zl fun hTwf => ?_
    have hTn:=hTwf.gone T.nx (Nat.le_refl _)
    by_cases hkl:k<g[i].length
    ·have hw2:IntKind.i64.wrap ((k:Int)+1)=(k:Int)+1:=wrap_i64 (by omega) (by omega);rw [G.map_drop hkl] at hp ht;simp only [List.cons_append,List.length_cons,G.pushAll_cons] at hp ht;have hgk:g[i][k]<g.length:=hg.elt _ (List.getElem_mem hlt) _ (List.getElem_mem hkl);have hkr:g[i][k]<rows.length:=by rw [hF.len]; exact hgk
     have hrow:=G.row_le_total rows g[i][k];have htp:=G.total_push (i:=i) hkr;have hget:=hF.arr.get;have hool:=hF.arr.lt;have hcl:cells.length=g.length:=by rw [hF.arr.len,jap,hF.len]
     have hgkc:g[i][k]<cells.length:=by omega
     have h1:oo<T.nx+1:=by omega
     have h2:oo<T.nx+1+1:=by omega
     have g1:(T.add (1,[V.int .i64 (i:Int)])).get (T.nx+1)=none:=by rw [Kk,if_neg (by omega)]; exact hTwf.gone _ (by omega)
     rcases hF.arr.row _ _ (JV hkr) with ⟨hc,hr0⟩ | ⟨id,hc,hid,hne,hb,hidl,_⟩
     ·have hr0':rows.getD g[i][k] []=[]:=by simpa using hr0
      obtain ⟨_,hce⟩:=List.getElem?_eq_some_iff.1 hc;have hzc:(T.del oo).get oo=none:=by rw [zO,if_pos rfl]
      have s0:(T.del oo).Sub T:=Store.Sub.ofDel T oo;have s1:=s0.add (c:=(1,[V.int .i64 (i:Int)])) hTn;have t1:=T.sub_refl.shp.add (c:=(1,[V.int .i64 (i:Int)])) hTn;have s2:=s1.add (c:=(1,[V.int .i64 (i:Int)])) g1;have t2:=t1.add (c:=(1,[V.int .i64 (i:Int)])) g1;have hgo:((T.add (1,[V.int .i64 (i:Int)])).add (1,[V.int .i64 (i:Int)])).get oo=some (1,cells):=by rw [Ws (by exact h1),Ws hool]; exact hget
      repeat first|refine QG ?_|refine QY ?_ (r:=by conv=>lhs;simp[QV,hlt,hkl])
      refine QT ?_;refine QJ (T.del oo) (T) [45] ?_ (hz:=⟨s0,T.sub_refl.shp⟩) (r:=by conv=>lhs; simp [QV,hlt,hkl,hget,hgk,hgkc,hce,hool]);refine jS rfl (by conv=>lhs; simp [QV,YN]) (⟨s1,t1⟩) ?_;refine jS rfl (by conv=>lhs; simp [QV,YN,jcE]) (⟨s2,t2⟩) ?_;refine QM (by conv=>lhs;simp[QV,hgk,hget]) ?_;refine jS rfl (by conv=>lhs; simp [QV,hgo,hgk,hgkc]) (⟨s2.upd (c:=(1,cells.set g[i][k] (V.slice (T.nx+1) 0 1))) hzc,t2.upd (c:=(1,cells.set g[i][k] (V.slice (T.nx+1) 0 1))) hgo rfl⟩) ?_;refine QN ?_
      repeat first|refine QG ?_|refine QY ?_ (r:=by conv=>lhs;simp[QV,hw2])
      show jp _ _ _ _ _ _ _;exact again ⟨Nat.sub_lt_sub_left hkl (Nat.lt_succ_self k),k+1,_,_,hkl,rfl,hF.nil (i:=i) hgk hr0' hc,hp,by omega,by simp [Fr.only,Fr.look,vnat]⟩
     ·have hlr:((rows.getD g[i][k] []).map vnat).length=(rows.getD g[i][k] []).length:=by simp
      rw [hlr] at hc;obtain ⟨_,hce⟩:=List.getElem?_eq_some_iff.1 hc;have hb8:((rows.getD g[i][k] []).length+1)*8≤140737488355328:=by omega
      have hb1:(rows.getD g[i][k] []).length+1≤140737488355328:=by omega
      have hcf:=hF.app (i:=i) hgk hb hc;simp only [YV,List.length_map] at hcf;generalize hrw:rows.getD g[i][k] []=row at hce hb8 hb1 hid hcf;have hne':oo≠id:=Ne.symm hne;have hzc:((T.del oo).del id).get oo=none:=by rw [zO,if_neg hne',zO,if_pos rfl]
      have hzi:((T.del oo).del id).get id=none:=by rw [zO,if_pos rfl]
      have hsi:(T.del id).get id=none:=by rw [zO,if_pos rfl]
      have s0:((T.del oo).del id).Sub T:=(Store.Sub.ofDel _ _).trans (Store.Sub.ofDel _ _);have t0:(T.del id).Shp T:=(Store.Sub.ofDel _ _).shp;have s1:=s0.add (c:=(1,[V.int .i64 (i:Int)])) hTn;have t1:=t0.add (c:=(1,[V.int .i64 (i:Int)])) hTn;have g2:((T.add (1,[V.int .i64 (i:Int)])).del id).get (T.nx+1)=none:=by rw [zO,if_neg (by omega)]; exact g1
      have s2:=(s1.del hzi).add (c:=(1,row.map vnat++[V.int .i64 (i:Int)])) g2;have t2:=(t1.del hsi).add (c:=(1,row.map vnat++[V.int .i64 (i:Int)])) g2;have hgo:(((T.add (1,[V.int .i64 (i:Int)])).del id).add (1,row.map vnat++[V.int .i64 (i:Int)])).get oo=some (1,cells):=by rw [Ws (by exact h1),YI hne',Ws hool]; exact hget
      have hgid:(T.add (1,[V.int .i64 (i:Int)])).get id=some (1,row.map vnat):=by rw [Ws hidl]; exact hid
      repeat first|refine QG ?_|refine QY ?_ (r:=by conv=>lhs;simp[QV,hlt,hkl])
      refine QT ?_;refine QJ ((T.del oo).del id) (T.del id) [45] ?_ (hz:=⟨s0,t0⟩) (r:=by conv=>lhs; simp [QV,hlt,hkl,hget,hgk,hgkc,hce,hool,hne',YI]);refine jS rfl (by conv=>lhs; simp [QV,YN]) (⟨s1,t1⟩) ?_;refine jS rfl (by conv=>lhs; simp [QV,YN,jcE,hgid,hb8,hb1]) (⟨s2,t2⟩) ?_;refine QM (by conv=>lhs;simp[QV,hgk,hget,hne',YI]) ?_;refine jS rfl (by conv=>lhs; simp [QV,hgo,hgk,hgkc]) (⟨s2.upd (c:=(1,cells.set g[i][k] (V.slice (T.nx+1) 0 (row.length+1)))) hzc,t2.upd (c:=(1,cells.set g[i][k] (V.slice (T.nx+1) 0 (row.length+1)))) hgo rfl⟩) ?_;refine QN ?_
      repeat first|refine QG ?_|refine QY ?_ (r:=by conv=>lhs;simp[QV,hw2])
      show jp _ _ _ _ _ _ _;exact again ⟨Nat.sub_lt_sub_left hkl (Nat.lt_succ_self k),k+1,_,_,hkl,rfl,hcf,hp,by omega,by simp [Fr.only,Fr.look,vnat]⟩
    ·repeat first|refine QG ?_|refine QY ?_ (r:=by conv=>lhs;simp[QV,hlt,hkl,hw1])
     have:k=g[i].length:=by omega
     subst this;simp at hp ht;show jp _ _ _ _ _ _ _;exact again ⟨Nat.sub_lt_sub_left hlt (Nat.lt_succ_self i),i+1,_,_,hlt,rfl,hF,hp,by simpa using ht,by simp [Fr.only,Fr.look,vnat]⟩
  ·have hig:i=g.length:=by omega
   subst hig;refine QT ?_;refine QY ?_;refine QT ?_;refine jH rfl rfl rfl ?_;refine QT ?_;refine jQ 0 rfl rfl ?_;simp [G.edges,G.pushAll] at hp;obtain ⟨T2,k1,k2,k3,k4,k5⟩:=hF.arr.freeze (N:=51) (b0:=S.nx) (KZ rows);refine jo k1 ?_
   repeat first|refine QG ?_|refine QY ?_
   have hfr:=Ghost.freeze1 (len:=g.length) k2 (by simp [V.closed1]) (by simp [zg,hF.len]);rw [jbz,hp] at hfr;have hag:Agree S (T2.del oo):=by
    have h0:=hF.agree;refine ⟨by show S.nx≤T2.nx; rw [k3]; exact h0.1,fun o ho => ?_⟩;have hb:=hF.arr.base;rw [YI (by omega),k4 o (.inl ho) (by omega)];exact h0.2 o ho
   exact zw hwf ((Ghost.tuple [] [vint 0] hfr).toB _) hag rfl
theorem Meet_v (S:Store) (rank:List Nat) (near:List Int) (hrl:rank.length=near.length) (o7 o10 or on:Nat) (h7:S.get o7=some (1,[.slice or 0 rank.length])) (hr:S.get or=some (1,rank.map vnat)) (h10:S.get o10=some (1,[.slice on 0 near.length])) (hn:S.get on=some (1,near.map vint))
  (f:Nat) (a b c:Int) (hm:G.meetF rank near f a b=some c):VCalls Tryz.prog 112 [vint a,vint b, .ptr o7 0, .ptr o10 0] S (fun r S'=>r=vint c∧S'=S):=by
 refine QB (c:=jd Tryz.f112) Tryz.func112 Tryz.ntmps112 fun hwf=>?_
 have lt : ∀ o c,S.get o=some c→o<S.nx:=by
  intro o c ho;rcases Nat.lt_or_ge o S.nx with h | h
  ·exact h
  ·rw [hwf.gone o h] at ho; cases ho
 have k7 := @jk S [] [] o7 (lt _ _ h7);have kr := @jk S [] [] or (lt _ _ hr);have k10 := @jk S [] [] o10 (lt _ _ h10);have kn := @jk S [] [] on (lt _ _ hn)
 repeat first|refine QG ?_|refine QY ?_
 refine QT ?_;refine jc [0,1,2,3] rfl (fun n σ S' => ∃ a b:Int,G.meetF rank near n a b=some c∧σ=[(0,vint a),(1,vint b),(2, .ptr o7 0),(3, .ptr o10 0)]∧S'=St S [] []) f ?_ ?_
 ·exact ⟨a,b,hm,by simp [Fr.only,Fr.look,vint],rfl⟩
 ·rintro n σ T ⟨a,b,hm,rfl,rfl⟩
  cases n with
  | zero=>cases hm
  | succ n =>
   simp only [G.meetF] at hm
   by_cases hab:a=b
   ·rw [if_pos hab] at hm
    cases hm
    subst hab
    repeat first|refine QG ?_|refine QY ?_
    exact ja hwf rfl rfl
   ·rw [if_neg hab] at hm;split at hm
    ·rename_i hok;obtain ⟨a0,a1,b0,b1⟩:=hok;have ha:a.toNat<near.length:=by omega
     have hb:b.toNat<near.length:=by omega
     have har:a.toNat<rank.length:=by omega
     have hbr:b.toNat<rank.length:=by omega
     have a1':a<(rank.length:Int):=by omega
     have b1':b<(rank.length:Int):=by omega
     have e1:rank.getD a.toNat 0=rank[a.toNat]:=by simp [har]
     have e2:rank.getD b.toNat 0=rank[b.toNat]:=by simp [hbr]
     have e3:near.getD a.toNat 0=near[a.toNat]:=by simp [ha]
     have e4:near.getD b.toNat 0=near[b.toNat]:=by simp [hb]
     rw [e1,e2,e3,e4] at hm;split at hm
     ·rename_i hlt
      repeat first|refine QG ?_|refine QY ?_ (r:=by conv=>lhs;simp[QV,k7,kr,k10,kn,h7,hr,h10,hn,hab,a0,a1,b0,b1,ha,hb,har,hbr,a1',b1',hlt])
      show jp _ _ _ _ _ _ _;exact again ⟨Nat.lt_succ_self n,_,_,hm,by simp [Fr.only,Fr.look,vint],rfl⟩
     ·rename_i hlt
      repeat first|refine QG ?_|refine QY ?_ (r:=by conv=>lhs;simp[QV,k7,kr,k10,kn,h7,hr,h10,hn,hab,a0,a1,b0,b1,ha,hb,har,hbr,a1',b1',hlt])
      show jp _ _ _ _ _ _ _;exact again ⟨Nat.lt_succ_self n,_,_,hm,by simp [Fr.only,Fr.look,vint],rfl⟩
    ·cases hm
theorem gOrd_v (g:List (List Nat)) (hg:G.Ok g):VPure Tryz.prog 110 [vl (vl vnat) g] (vl vnat (G.order g)):=by
 obtain ⟨t,h1,h2,h3⟩:=G.order_ends hg;have hp:=hg.pos;have hm:=hg.max;have e:g.length=(g.length-1)+1:=by omega
 have:=gOrder_v g hg (g.length-1) t (by rw [←e]; exact h1) (by omega);simpa [G.order,h1] using this
theorem NearestErr_v (g:List (List Int)) (hg:g.length<2^63) (hl : ∀ l∈g,l.length<2^63) (hr:G.right g=false):VPure Tryz.prog 77 [vl (vl vint) g] (.tuple [vl vint [],vint 1]):=by
 intro S;refine QB (c:=jd Tryz.f77) Tryz.func77 Tryz.ntmps77 fun hwf=>?_
 repeat first|refine QG ?_|refine QY ?_
 refine QT ?_;refine QP ?_;refine jm rfl (FromErr_v g hg hl hr) ?_;refine QW ?_
 repeat first|refine QG ?_|refine QY ?_
 exact jh (l:=[]) hwf ((Ghost.tuple [] [vint 1] (Ghost.nils_list _)).toB _) rfl
def KY (S:Store) (rank:List Nat) (near:List Int):Store :=
 St S [] [some (1,rank.map vnat),some (1,[.slice (lid S.nx 0) 0 rank.length]),some (1,[.int .i64 (-1)]),some (1,near.map vint),some (1,[.slice (lid S.nx 3) 0 near.length])]
theorem Nearest_v (g:List (List Nat)) (hg:G.Ok g) (hr:VPure Tryz.prog 113 [vl (vl vnat) g] (.bool true)) (l:List Nat) (hl:G.order g=l) (hl1:1≤l.length) (hlt : ∀ x∈l,x<g.length) (fr:List (List Nat)) (hfr:G.froms g=fr) (hfl:fr.length=g.length) (hfe : ∀ r∈fr, ∀ x∈r,x<g.length) (hfm : ∀ r∈fr,r.length≤2^20)
  (hll:l.length≤g.length) (F K:Nat) (nearF:List Int) (hchk:G.chk (G.rankTo g.length l l.length) fr F l.tail K ((List.replicate g.length (-1)).set 0 0)=some nearF) :
  VPure Tryz.prog 77 [vl (vl vnat) g] (.tuple [vl vint (nearF.set 0 (-1)),vint 0]):=by
 intro S;refine QB (c:=jd Tryz.f77) Tryz.func77 Tryz.ntmps77 fun hwf=>?_
 have hp:0<g.length:=hg.pos;have hm256:=hg.max;have hb8:g.length*8≤140737488355328:=by omega
 have hb0:g.length≤140737488355328:=by omega
 refine QT ?_;refine QY ?_;refine QT ?_;refine QP ?_;refine jm rfl (hfr▸From_v g hg hr) ?_;refine QW ?_
 repeat first|refine QG ?_|refine QY ?_
 refine QT ?_;refine QP ?_;refine jm rfl (hl▸gOrd_v g hg) ?_;refine QW ?_
 repeat first|refine QG ?_|refine QY ?_ (r:=by conv=>lhs;simp[QV,hb8,hb0])
 refine QT ?_;refine jc [0,4,6,7,31,32,33] rfl (fun c σ S' => ∃ k:Nat,k≤l.length∧c=l.length-k∧σ=[(0,vl (vl vnat) g),(4,vl (vl vnat) fr),(6,vl vnat l),(7, .ptr (lid S.nx 1) 0),(31,vl vnat l),(32,vnat l.length),(33,vnat k)]∧S'=St S [] [some (1,(G.rankTo g.length l k).map vnat),some (1,[.slice (lid S.nx 0) 0 g.length])]) l.length ?_ ?_
 ·exact ⟨0,by omega,rfl,by simp [Fr.only,Fr.look,vnat],by simp [G.rankTo,vnat]⟩
 ·rintro c σ T ⟨k,hk,rfl,rfl,rfl⟩;have hrl:=G.rankTo_len g.length l k
  by_cases hkt:k<l.length
  ·have hw:IntKind.i64.wrap ((k:Int)+1)=(k:Int)+1:=wrap_i64 (by omega) (by omega);have hlk:=hlt _ (List.getElem_mem hkt);have hst:G.rankTo g.length l (k+1)=(G.rankTo g.length l k).set l[k] k:=by simp [G.rankTo,hkt]
   repeat first|refine QG ?_|refine QY ?_ (r:=by conv=>lhs;simp[QV,hkt,hlk,hrl])
   show jp _ _ _ _ _ _ _;exact again ⟨Nat.sub_lt_sub_left hkt (Nat.lt_succ_self k),k+1,hkt,rfl,by simp [Fr.only,Fr.look,vnat,hw],by rw [hst]⟩
  ·have hkl:k=l.length:=by omega
   subst hkl
   repeat first|refine QG ?_|refine QY ?_ (r:=by conv=>lhs;simp[QV,hkt])
   refine QT ?_;refine QP ?_;refine jT rfl (Repeat_v _ (lid S.nx 2) (-1) g.length hp (by omega) ?_) ?_
   ·simp [jv]
   rintro X T ⟨rfl,rfl⟩;generalize hrank:G.rankTo g.length l l.length=rank at hchk hrl ⊢;refine QW ?_;have hn0:((List.replicate g.length (-1:Int)).set 0 0).length=g.length:=by simp
   repeat first|refine QG ?_|refine QY ?_ (r:=by conv=>lhs;simp[QV,hp])
   refine QT ?_;refine jc [0,4,6,7,10,11,12] rfl (fun c σ S' => ∃ near:List Int,near.length=g.length∧((c=0∧near=nearF∧σ=[(0,vl (vl vnat) g),(4,vl (vl vnat) fr),(6,vl vnat l),(7, .ptr (lid S.nx 1) 0),(10, .ptr (lid S.nx 4) 0),(11, .func 112 [.ptr (lid S.nx 1) 0, .ptr (lid S.nx 4) 0]),(12, .bool false)])∨(G.chk rank fr F l.tail c near=some nearF∧σ=[(0,vl (vl vnat) g),(4,vl (vl vnat) fr),(6,vl vnat l),(7, .ptr (lid S.nx 1) 0),(10, .ptr (lid S.nx 4) 0),(11, .func 112 [.ptr (lid S.nx 1) 0, .ptr (lid S.nx 4) 0]),(12, .bool true)]))∧S'=KY S rank near) K ?_ ?_
   ·refine ⟨_,hn0, .inr ⟨hchk,by simp [Fr.only,Fr.look,vnat]⟩, ?_⟩;simp [KY,hrl,vint,List.map_set]
   ·rintro c σ T ⟨near,hnl,⟨rfl,rfl,rfl⟩ | ⟨hc,rfl⟩,rfl⟩
    ·have hp':0<near.length:=by omega
     unfold KY
     repeat first|refine QG ?_|refine QY ?_ (r:=by conv=>lhs;simp[QV,hp'])
     have hfz:=frz1 (B:=S) (u:=[]) (l:=[some (1,rank.map vnat),some (1,[.slice (lid S.nx 0) 0 rank.length]),some (1,[.int .i64 (-1)]),some (1,(near.set 0 (-1)).map vint),some (1,[.slice (lid S.nx 3) 0 near.length])]) (k:=3) (len:=near.length) (by simp) rfl (jF vint (fun _=>rfl) _) (by simp);exact jh hwf ((Ghost.tuple [] [vint 0] hfz).toB _) rfl
    ·cases c with
     | zero=>cases hc
     | succ c =>
      simp only [G.chk] at hc;obtain ⟨s,hsw,hc⟩:=Option.bind_eq_some_iff.1 hc;have hl1':(1:Int)≤(l.length:Int):=by omega
      repeat first|refine QG ?_|refine QY ?_ (r:=by conv=>lhs;simp[QV,hl1'])
      refine QT ?_;refine jc [0,4,6,7,10,11,12,52,53,54] rfl (fun c σ S' => ∃ (k:Nat) (near:List Int) (t:Bool),near.length=g.length∧k≤l.tail.length∧c=l.tail.length-k∧G.sweepF rank fr F (l.tail.drop k) near t=some s∧σ=[(0,vl (vl vnat) g),(4,vl (vl vnat) fr),(6,vl vnat l),(7, .ptr (lid S.nx 1) 0),(10, .ptr (lid S.nx 4) 0),(11, .func 112 [.ptr (lid S.nx 1) 0, .ptr (lid S.nx 4) 0]),(12, .bool t),(52,vl vnat l.tail),(53,vnat (l.length-1)),(54,vnat k)]∧S'=KY S rank near) l.tail.length ?_ ?_
      ·exact ⟨0,near,false,hnl,by omega,rfl,hsw,by simp [Fr.only,Fr.look,vnat],rfl⟩
      ·rintro c' σ T ⟨k,near,t,hnl,hk,rfl,hsw,rfl,rfl⟩;have htl:l.tail.length=l.length-1:=by simp
       by_cases hkt:k<l.tail.length
       ·have hw:IntKind.i64.wrap ((k:Int)+1)=(k:Int)+1:=wrap_i64 (by omega) (by omega);have hkt':k<l.length-1:=by omega
        have hk1:k+1<l.length:=by omega
        have hel:l[k+1]=l.tail[k]:=by simp
        rw [List.drop_eq_getElem_cons hkt,G.sweepF] at hsw;obtain ⟨b,hpk,hsw⟩:=Option.bind_eq_some_iff.1 hsw;have hlk:=hlt _ (List.mem_of_mem_tail (List.getElem_mem hkt));generalize hn:l.tail[k]=n at hpk hsw hlk hel;have hnf:n<fr.length:=by omega
        have hfn:fr.getD n []=fr[n]:=by simp [hnf]
        rw [hfn] at hpk;have hmr:=hfe _ (List.getElem_mem hnf);have hmm:=hfm _ (List.getElem_mem hnf);have hnn:n<near.length:=by omega
        have hng:near.getD n 0=near[n]:=by simp [hnn]
        rw [hng] at hsw;unfold KY
        repeat first|refine QG ?_|refine QY ?_ (r:=by conv=>lhs;simp[QV,hkt',hk1,hel,hnf])
        refine QT ?_;refine jc [0,4,6,7,10,11,12,14,15,52,53,54,61,62,63] rfl (fun c σ S' => ∃ (j:Nat) (best:Int),j≤fr[n].length∧c=fr[n].length-j∧G.pickF rank near F (fr[n].drop j) best=some b∧σ=[(0,vl (vl vnat) g),(4,vl (vl vnat) fr),(6,vl vnat l),(7, .ptr (lid S.nx 1) 0),(10, .ptr (lid S.nx 4) 0),(11, .func 112 [.ptr (lid S.nx 1) 0, .ptr (lid S.nx 4) 0]),(12, .bool t),(14,vnat n),(15,vint best),(52,vl vnat l.tail),(53,vnat (l.length-1)),(54,vnat k),(61,vl vnat fr[n]),(62,vnat fr[n].length),(63,vnat j)]∧S'=KY S rank near) fr[n].length ?_ ?_
        ·exact ⟨0, -1,by omega,rfl,hpk,by simp [Fr.only,Fr.look,vnat,vint],rfl⟩
        ·rintro c'' σ T ⟨j,best,hj,rfl,hpk,rfl,rfl⟩
         by_cases hjt:j<fr[n].length
         ·have hwj:IntKind.i64.wrap ((j:Int)+1)=(j:Int)+1:=wrap_i64 (by omega) (by omega);rw [List.drop_eq_getElem_cons hjt,G.pickF] at hpk;have hpg:=hmr _ (List.getElem_mem hjt);generalize hp':fr[n][j]=p at hpk hpg;have hpn:p<near.length:=by omega
          have hpd:near.getD p 0=near[p]:=by simp [hpn]
          rw [hpd] at hpk;unfold KY
          by_cases h1:near[p]<0
          ·rw [if_pos h1] at hpk
           repeat first|refine QG ?_|refine QY ?_ (r:=by conv=>lhs;simp[QV,hjt,hp',hpn,h1])
           show jp _ _ _ _ _ _ _;exact again ⟨Nat.sub_lt_sub_left hjt (Nat.lt_succ_self j),j+1,best,hjt,rfl,hpk,by simp [Fr.only,Fr.look,vnat,vint,hwj],rfl⟩
          ·rw [if_neg h1] at hpk
           by_cases h2:best<0
           ·rw [if_pos h2] at hpk
            repeat first|refine QG ?_|refine QY ?_ (r:=by conv=>lhs;simp[QV,hjt,hp',hpn,h1,h2])
            show jp _ _ _ _ _ _ _;exact again ⟨Nat.sub_lt_sub_left hjt (Nat.lt_succ_self j),j+1,p,hjt,rfl,hpk,by simp [Fr.only,Fr.look,vnat,vint,hwj],rfl⟩
           ·rw [if_neg h2] at hpk;obtain ⟨q,hq,hpk⟩:=Option.bind_eq_some_iff.1 hpk
            repeat first|refine QG ?_|refine QY ?_ (r:=by conv=>lhs;simp[QV,hjt,hp',hpn,h1,h2])
            refine QT ?_;refine QP ?_;refine zQ rfl rfl rfl (Meet_v _ rank near (by omega) (lid S.nx 1) (lid S.nx 4) (lid S.nx 0) (lid S.nx 3) ?_ ?_ ?_ ?_ F best p q hq) ?_
            ·simp [jv]
            ·simp [jv]
            ·simp [jv]
            ·simp [jv]
            rintro X T ⟨rfl,rfl⟩;refine QW ?_
            repeat first|refine QG ?_|refine QY ?_
            show jp _ _ _ _ _ _ _;exact again ⟨Nat.sub_lt_sub_left hjt (Nat.lt_succ_self j),j+1,q,hjt,rfl,hpk,by simp [Fr.only,Fr.look,vnat,vint,hwj],rfl⟩
         ·have hje:j=fr[n].length:=by omega
          subst hje;rw [List.drop_length,G.pickF] at hpk
          cases hpk
          unfold KY
          cases t with
          | true =>
           repeat first|refine QG ?_|refine QY ?_ (r:=by conv=>lhs;simp[QV,hjt,hnn])
           show jp _ _ _ _ _ _ _;exact again ⟨Nat.sub_lt_sub_left hkt (Nat.lt_succ_self k),k+1,near.set n b,true,by simp [hnl],hkt,rfl,by simpa using hsw,by simp [Fr.only,Fr.look,vnat,hw],by simp [KY,vint]⟩
          | false =>
           repeat first|refine QG ?_|refine QY ?_ (r:=by conv=>lhs;simp[QV,hjt,hnn])
           show jp _ _ _ _ _ _ _;exact again ⟨Nat.sub_lt_sub_left hkt (Nat.lt_succ_self k),k+1,near.set n b, !decide (near[n]=b),by simp [hnl],hkt,rfl,by simpa using hsw,by simp [Fr.only,Fr.look,vnat,hw],by simp [KY,vint]⟩
       ·have hkl:k=l.tail.length:=by omega
        subst hkl;rw [List.drop_length,G.sweepF] at hsw
        cases hsw
        have hkt' : ¬ l.tail.length<l.length-1:=by omega
        repeat first|refine QG ?_|refine QY ?_ (r:=by conv=>lhs;simp[QV,hkt'])
        cases t with
        | true =>
         show jp _ _ _ _ _ _ _;exact again ⟨Nat.lt_succ_self c,near,hnl, .inr ⟨hc,by simp [Fr.only,Fr.look]⟩,rfl⟩
        | false =>
         show jp _ _ _ _ _ _ _;exact again ⟨Nat.succ_pos c,near,hnl, .inl ⟨rfl,by simpa using hc,by simp [Fr.only,Fr.look]⟩,rfl⟩
end Go.Vw
/-
 What the walk in depth meets; its order.
-/
namespace Go.Vw.G
open Go.Vw
abbrev Met (m:List Bool) (n:Nat):Prop:=m.getD n false=true
inductive From (g:List (List Nat)) (m:List Bool) (n:Nat):Nat→Prop
 | start (h : ¬ Met m n):From g m n n
 | step {a k:Nat} (h:From g m n a) (hk:k∈g.getD a []) (hm : ¬ Met m k):From g m n k
theorem From.not {g:List (List Nat)} {m:List Bool} {n b:Nat} (h:From g m n b) : ¬ Met m b:=by
 cases h<;>assumption
theorem From.less {g:List (List Nat)} {m m':List Bool} {n b:Nat} (hm : ∀ k,Met m k→Met m' k) (h:From g m' n b):From g m n b:=by
 induction h with
 | start h=>exact .start fun hk=>h (hm _ hk)
 | step _ hk hn ih=>exact .step ih hk fun h=>hn (hm _ h)
theorem From.cons {g:List (List Nat)} {m:List Bool} {n k b:Nat} (hn : ¬ Met m n) (hk:k∈g.getD n []) (h:From g m k b):From g m n b:=by
 induction h with
 | start h=>exact .step (.start hn) hk h
 | step _ hk' hm ih=>exact .step ih hk' hm
theorem jcq {m:List Bool} {n:Nat} (h:n<m.length) (k:Nat):Met (m.set n true) k↔k=n∨Met m k:=by
 unfold Met
 by_cases e:n=k
 ·subst e; rw [getD_set_self' h]; simp
 ·rw [getD_set_other e];constructor
  ·exact fun h => .inr h
  ·rintro (h | h)
   ·exact absurd h.symm e
   ·exact h
structure Left (g:List (List Nat)) (roots:List Nat) (s t:WS):Prop where
 len:t.1.length=s.1.length
 mono : ∀ k,Met s.1 k→Met t.1 k
 root : ∀ r∈roots,Met t.1 r
 kids : ∀ b,Met t.1 b → ¬ Met s.1 b → ∀ k∈g.getD b [],Met t.1 k
 way : ∀ b,Met t.1 b → ¬ Met s.1 b → ∃ r∈roots,From g s.1 r b
 done : ∃ d,t.2=s.2++d∧d.Nodup∧(∀ b,b∈d↔Met t.1 b ∧ ¬ Met s.1 b)
 /-- Behind each that is done stand, further back, nodes from which it is reached: but for the roots. -/
 behind : ∀ b,Met t.1 b → ¬ Met s.1 b→b∉roots → ∃ p d1 d2 d3,t.2=s.2++(d1++b::d2++p::d3)∧b∈g.getD p []
theorem Left.nil {g:List (List Nat)} (s:WS):Left g [] s s :=
 ⟨rfl,fun _ h=>h,by simp,fun b h1 h2=>absurd h1 h2,fun b h1 h2=>absurd h1 h2,⟨[],by simp,by simp,fun b=>⟨fun h=>by simp at h,fun h=>absurd h.1 h.2⟩⟩,fun b h1 h2=>absurd h1 h2⟩
theorem Left.met {g:List (List Nat)} {k:Nat} {l:List Nat} {s t:WS} (hk:Met s.1 k) (h:Left g l s t):Left g (k::l) s t:=by
 refine ⟨h.len,h.mono,fun r hr => ?_,h.kids,fun b h1 h2 => ?_,h.done,fun b h1 h2 h3=>h.behind b h1 h2 fun hb=>h3 (List.mem_cons_of_mem _ hb)⟩
 ·rcases List.mem_cons.1 hr with rfl | hr
  ·exact h.mono _ hk
  ·exact h.root r hr
 ·obtain ⟨r,hr,hw⟩:=h.way b h1 h2;exact ⟨r,List.mem_cons_of_mem _ hr,hw⟩
theorem Left.cons {g:List (List Nat)} {k:Nat} {l:List Nat} {s t u:WS} (h:Left g [k] s t) (h':Left g l t u):Left g (k::l) s u:=by
 obtain ⟨d,e1,n1,m1⟩:=h.done;obtain ⟨d',e2,n2,m2⟩:=h'.done;refine ⟨h'.len.trans h.len,fun x hx=>h'.mono x (h.mono x hx),fun r hr => ?_,fun b h1 h2 => ?_,fun b h1 h2 => ?_,⟨d++d', ?_, ?_,fun b => ?_⟩,fun b h1 h2 h3 => ?_⟩
 ·rcases List.mem_cons.1 hr with rfl | hr
  ·exact h'.mono _ (h.root _ (by simp))
  ·exact h'.root r hr
 ·intro c hc
  by_cases hb:Met t.1 b
  ·exact h'.mono _ (h.kids b hb h2 c hc)
  ·exact h'.kids b h1 hb c hc
 ·by_cases hb:Met t.1 b
  ·obtain ⟨r,hr,hw⟩:=h.way b hb h2;simp at hr; subst hr;exact ⟨r,by simp,hw⟩
  ·obtain ⟨r,hr,hw⟩:=h'.way b h1 hb;exact ⟨r,List.mem_cons_of_mem _ hr,hw.less h.mono⟩
 ·rw [e2,e1,List.append_assoc]
 ·rw [List.nodup_append];refine ⟨n1,n2,fun x hx y hy e => ?_⟩;subst e;exact ((m2 x).1 hy).2 ((m1 x).1 hx).1
 ·rw [List.mem_append,m1,m2];constructor
  ·rintro (⟨a,b⟩ | ⟨a,b⟩)
   ·exact ⟨h'.mono _ a,b⟩
   ·exact ⟨a,fun hs=>b (h.mono _ hs)⟩
  ·rintro ⟨a,c⟩
   by_cases hb:Met t.1 b
   ·exact .inl ⟨hb,c⟩
   ·exact .inr ⟨a,hb⟩
 ·by_cases hb:Met t.1 b
  ·obtain ⟨p,d1,d2,d3,e,hp⟩:=h.behind b hb h2 (by simpa using fun e=>h3 (by simp [e]));exact ⟨p,d1,d2,d3++d',by rw [e2,e]; simp,hp⟩
  ·obtain ⟨p,d1,d2,d3,e,hp⟩:=h'.behind b h1 hb fun hm=>h3 (List.mem_cons_of_mem _ hm)
   exact ⟨p,d++d1,d2,d3,by rw [e,e1]; simp,hp⟩
theorem Left.walk {g:List (List Nat)} {n:Nat} {s t:WS} (hn:n<s.1.length) (hm : ¬ Met s.1 n) (h:Left g (g.getD n []) (s.1.set n true,s.2) t):Left g [n] s (t.1,t.2++[n]):=by
 have hset:=jcq hn;have hnt:Met t.1 n:=h.mono n ((hset n).2 (.inl rfl));obtain ⟨d,e1,n1,m1⟩:=h.done;have hnd:n∉d:=fun hd=>((m1 n).1 hd).2 ((hset n).2 (.inl rfl))
 refine ⟨by have:=h.len; simpa using this,fun k hk=>h.mono k ((hset k).2 (.inr hk)),fun r hr=>by simp at hr; subst hr; exact hnt,fun b h1 h2 c hc => ?_,fun b h1 h2=>⟨n,by simp, ?_⟩,⟨d++[n],by simp [e1], ?_,fun b => ?_⟩,fun b h1 h2 h3 => ?_⟩
 ·by_cases e:b=n
  ·subst e; exact h.root c hc
  ·exact h.kids b h1 (fun hs=>by rcases (hset b).1 hs with h | h; exact e h; exact h2 h) c hc
 ·by_cases e:b=n
  ·subst e; exact .start hm
  ·obtain ⟨r,hr,hw⟩:=h.way b h1 (fun hs=>by rcases (hset b).1 hs with h | h; exact e h; exact h2 h);exact From.cons hm hr (hw.less fun k hk=>(hset k).2 (.inr hk))
 ·rw [List.nodup_append];exact ⟨n1,by simp,fun x hx y hy e=>by simp at hy; subst hy; subst e; exact hnd hx⟩
 ·rw [List.mem_append,m1,hset];simp only [List.mem_singleton,not_or];constructor
  ·rintro (⟨a,_,c⟩ | rfl)
   ·exact ⟨a,c⟩
   ·exact ⟨hnt,hm⟩
  ·rintro ⟨a,c⟩
   by_cases e:b=n
   ·exact .inr e
   ·exact .inl ⟨a,e,c⟩
 ·have e:b≠n:=by simpa using h3
  have hb2 : ¬ Met (s.1.set n true) b:=fun hs=>by rcases (hset b).1 hs with h | h; exact e h; exact h2 h
  by_cases hr:b∈g.getD n []
  ·have hbd:b∈d:=(m1 b).2 ⟨h1,hb2⟩;obtain ⟨d1,d2,rfl⟩:=List.append_of_mem hbd;exact ⟨n,d1,d2,[],by simp only [e1]; simp,hr⟩
  ·obtain ⟨p,d1,d2,d3,e2,hp⟩:=h.behind b h1 hb2 hr;exact ⟨p,d1,d2,d3++[n],by simp only [e2]; simp,hp⟩
theorem jaw {g:List (List Nat)} {f:Nat} (ih : ∀ n s t,s.1.length=g.length→n<s.1.length → ¬ Met s.1 n→walk g f n s=some t→Left g [n] s t) : ∀ (l:List Nat) (s t:WS),s.1.length=g.length→(∀ k∈l,k<s.1.length)→kids g f l s=some t→Left g l s t
 | [],s,t,_,_,h=>by cases h; exact Left.nil s
 | k::l,s,t,hs,hl,h=>by
  rw [kids_cons] at h;split at h
  ·rename_i hm;exact Left.met hm (jaw ih l s t hs (fun k hk=>hl k (List.mem_cons_of_mem _ hk)) h)
  ·rename_i hm;obtain ⟨u,h1,h2⟩:=Option.bind_eq_some_iff.1 h;have a:=ih k s u hs (hl k List.mem_cons_self) (by simpa using hm) h1;exact a.cons (jaw ih l u t (a.len.trans hs) (fun k hk=>by rw [a.len]; exact hl k (List.mem_cons_of_mem _ hk)) h2)
theorem ZK {g:List (List Nat)} (hg:Ok g) : ∀ (f n:Nat) (s t:WS),s.1.length=g.length→n<s.1.length → ¬ Met s.1 n→walk g f n s=some t→Left g [n] s t
 | 0,n,s,t,_,_,_,h=>by cases h
 | f+1,n,s,t,hs,hn,hm,h=>by
  rw [walk_succ] at h;obtain ⟨u,h1,rfl⟩:=Option.map_eq_some_iff.1 h;refine Left.walk hn hm (jaw (ZK hg f) _ _ u (by simpa using hs) (fun k hk => ?_) h1);have hng:n<g.length:=by omega
  have e:g.getD n []=g[n]:=by simp [hng]
  rw [e] at hk;have:=hg.elt _ (List.getElem_mem hng) k hk;simp only [List.length_set];omega
theorem JW {g:List (List Nat)} (hg:Ok g) {m:List Bool} (hm:m.length=g.length) (h0 : ¬ Met m 0) (b:Nat):Met (Je g m) b↔Met m b∨From g m 0 b:=by
 obtain ⟨t,h1,h2,h3,h4⟩:=metFrom_ends hg hm (by simpa using h0);have hl:=ZK hg _ 0 (m,[]) t hm (by have:=hg.pos; show 0<m.length; omega) h0 h1;rw [h2];constructor
 ·intro h
  by_cases hb:Met m b
  ·exact .inl hb
  ·obtain ⟨r,hr,hw⟩:=hl.way b h hb;simp at hr; subst hr;exact .inr hw
 ·rintro (h | h)
  ·exact hl.mono b h
  ·induction h with
   | start _=>exact hl.root 0 (by simp)
   | step ha hk _ ih=>exact hl.kids _ ih ha.not _ hk
abbrev R (g:List (List Nat)) (b:Nat):Prop:=From g (List.replicate g.length false) 0 b
theorem qe (n k:Nat) : ¬ Met (List.replicate n false) k:=by unfold Met; rw [rep_getD]; simp
structure qG (g:List (List Nat)) (l:List Nat):Prop where
 nd:l.Nodup
 mem : ∀ b,b∈l↔R g b
 head : ∃ r,l=0::r
 lt : ∀ b∈l,b<g.length
 par : ∀ b∈l,b≠0 → ∃ p d1 d2 d3,l=d1++p::d2++b::d3∧b∈g.getD p []
theorem R.lt {g:List (List Nat)} (hg:Ok g) {b:Nat} (h:R g b):b<g.length:=by
 cases h with
 | start _=>exact hg.pos
 | step ha hk _ =>
  rename_i a _
  by_cases hal:a<g.length
  ·have e:g.getD a []=g[a]:=by simp [hal]
   rw [e] at hk;exact hg.elt _ (List.getElem_mem hal) _ hk
  ·have e:g.getD a []=[]:=by simp [List.getElem?_eq_none (by omega:g.length≤a)]
   rw [e] at hk; simp at hk
theorem order_ok {g:List (List Nat)} (hg:Ok g):qG g (order g):=by
 obtain ⟨t,h1,h2,h3⟩:=order_ends hg;have hl:=ZK hg _ 0 (List.replicate g.length false,[]) t (by simp) (by have:=hg.pos; simp only [List.length_replicate]; omega) (qe _ _) h1;have ho:order g=t.2.reverse:=by simp [order,h1]
 obtain ⟨d,e1,n1,m1⟩:=hl.done;simp only [List.nil_append] at e1;have hmem : ∀ b,b∈order g↔R g b:=by
  intro b;have:=JW hg (m:=List.replicate g.length false) (by simp) (qe _ _) b;have hme:Je g (List.replicate g.length false)=t.1:=by simp [Je,h1]
  rw [hme] at this;rw [ho,List.mem_reverse,e1,m1,this];constructor
  ·rintro ⟨h | h,_⟩
   ·exact absurd h (qe _ _)
   ·exact h
  ·exact fun h=>⟨.inr h,qe _ _⟩
 refine ⟨by rw [ho,e1]; exact List.pairwise_reverse.2 (n1.imp fun h=>Ne.symm h),hmem, ?_,fun b hb=>((hmem b).1 hb).lt hg,fun b hb hb0 => ?_⟩
 ·have hp:=hg.pos;obtain ⟨f,hf⟩ : ∃ f,g.length=f+1:=⟨g.length-1,by omega⟩
  rw [hf,walk_succ] at h1;obtain ⟨u,_,rfl⟩:=Option.map_eq_some_iff.1 h1;exact ⟨u.2.reverse,by rw [ho]; simp⟩
 ·have hbt:Met t.1 b:=by
   have:=(hmem b).1 hb;have hme:Je g (List.replicate g.length false)=t.1:=by simp [Je,h1]
   rw [←hme];exact (JW hg (by simp) (qe _ _) b).2 (.inr this)
  obtain ⟨p,d1,d2,d3,e,hp⟩:=hl.behind b hbt (qe _ _) (by simpa using hb0);simp only [List.nil_append] at e;exact ⟨p,d3.reverse,d2.reverse,d1.reverse,by rw [ho,e]; simp,hp⟩
end Go.Vw.G
/-
 Dominators: what the nearest ones are, and that both ways find them.
-/
namespace Go.Vw.G
open Go.Vw
/-! ### Where nodes stand in the order -/
theorem jbu {n:Nat} {l:List Nat} (hn:l.Nodup) (hl : ∀ x∈l,x<n) : ∀ (k i:Nat),k≤l.length→(hi:i<l.length)→i<k→(rankTo n l k).getD l[i] 0=i
 | 0,i,_,_,h=>by omega
 | k+1,i,hk,hi,h=>by
  have hkl:k<l.length:=by omega
  have e:l.getD k 0=l[k]:=by simp [hkl]
  simp only [rankTo,e]
  by_cases hik:k=i
  ·subst hik;rw [getD_set_self' (by rw [rankTo_len]; exact hl _ (List.getElem_mem hi))]
  ·have hne:l[k]≠l[i]:=fun h=>hik ((List.getElem_inj hn).1 h)
   rw [getD_set_other hne];exact jbu hn hl k i (by omega) hi (by omega)
section
variable {g:List (List Nat)} {l:List Nat}
def rk (g:List (List Nat)) (l:List Nat) (x:Nat):Nat:=(rankTo g.length l l.length).getD x 0
theorem rk_at (h:qG g l) {i:Nat} (hi:i<l.length):rk g l l[i]=i:=jbu h.nd h.lt _ i (Nat.le_refl _) hi hi
theorem rk_inj (h:qG g l) {a b:Nat} (ha:a∈l) (hb:b∈l) (e:rk g l a=rk g l b):a=b:=by
 obtain ⟨i,hi,rfl⟩:=List.getElem_of_mem ha;obtain ⟨j,hj,rfl⟩:=List.getElem_of_mem hb;rw [rk_at h hi,rk_at h hj] at e;subst e; rfl
theorem Ym (h:qG g l):rk g l 0=0:=by
 obtain ⟨r,rfl⟩:=h.head;have:=rk_at h (i:=0) (by simp);simpa using this
theorem Wu (h:qG g l):0∈l:=by obtain ⟨r,rfl⟩:=h.head; simp
theorem rk_pos (h:qG g l) {a:Nat} (ha:a∈l) (h0:a≠0):0<rk g l a:=by
 rcases Nat.eq_zero_or_pos (rk g l a) with e | e
 ·exact absurd (rk_inj h ha (Wu h) (e.trans (Ym h).symm)) h0
 ·exact e
theorem rk_lt (h:qG g l) {a:Nat} (ha:a∈l):rk g l a<l.length:=by
 obtain ⟨i,hi,rfl⟩:=List.getElem_of_mem ha;rw [rk_at h hi]; exact hi
theorem par_rk (h:qG g l) {b:Nat} (hb:b∈l) (h0:b≠0) : ∃ p,p∈l∧rk g l p<rk g l b∧b∈g.getD p []:=by
 obtain ⟨p,d1,d2,d3,e,hp⟩:=h.par b hb h0;have hp1:d1.length<l.length:=by rw [e]; simp
 have hb1:d1.length+1+d2.length<l.length:=by rw [e]; simp; omega
 have ep:l[d1.length]=p:=by simp [e]
 have eb:l[d1.length+1+d2.length]=b:=by
  simp only [e];rw [List.getElem_append_right (by simp; omega)];simp [show d1.length+1+d2.length-(d1.length+(d2.length+1))=0 by omega]
 refine ⟨p,by rw [e]; simp, ?_,hp⟩;have a1:=rk_at h hp1;have a2:=rk_at h hb1;rw [ep] at a1; rw [eb] at a2;omega
/-! ### Ways that avoid a node, with so many steps back at most -/
inductive Way (g:List (List Nat)) (l:List Nat) (y:Nat):Nat→Nat→Prop
 | start (k:Nat) (h:0≠y):Way g l y k 0
 | on {k a n:Nat} (h:Way g l y k a) (hn:n∈g.getD a []) (hr:rk g l a<rk g l n) (hy:n≠y):Way g l y k n
 | back {k a n:Nat} (h:Way g l y k a) (hn:n∈g.getD a []) (hy:n≠y):Way g l y (k+1) n
theorem Way.ne {y k n:Nat} (h:Way g l y k n):n≠y:=by cases h<;>assumption
theorem Way.more {y k n:Nat} (h:Way g l y k n):Way g l y (k+1) n:=by
 induction h with
 | start k h=>exact .start _ h
 | on _ hn hr hy ih=>exact .on ih hn hr hy
 | back _ hn hy ih=>exact .back ih hn hy
theorem Way.le {y k k' n:Nat} (h:Way g l y k n) (hk:k≤k'):Way g l y k' n:=by
 induction hk with
 | refl=>exact h
 | step _ ih=>exact ih.more
theorem Way.other {y z k n:Nat} (h:Way g l y k n):Way g l z k n∨(∃ k',k'≤k∧Way g l y k' z):=by
 induction h with
 | start k h =>
  by_cases e:0=z
  ·subst e; exact .inr ⟨k,Nat.le_refl _, .start _ h⟩
  ·exact .inl (.start _ e)
 | @on k a n ha hn hr hy ih =>
  by_cases e:n=z
  ·subst e; exact .inr ⟨k,Nat.le_refl _, .on ha hn hr hy⟩
  ·rcases ih with h | h
   ·exact .inl (.on h hn hr e)
   ·exact .inr h
 | @back k a n ha hn hy ih =>
  by_cases e:n=z
  ·subst e; exact .inr ⟨k+1,Nat.le_refl _, .back ha hn hy⟩
  ·rcases ih with h | ⟨k',h1,h2⟩
   ·exact .inl (.back h hn e)
   ·exact .inr ⟨k',by omega,h2⟩
def DomK (g:List (List Nat)) (l:List Nat) (k y n:Nat):Prop := ¬ Way g l y k n
def Dom (g:List (List Nat)) (l:List Nat) (y n:Nat):Prop := ∀ k, ¬ Way g l y k n
theorem DomK.less {k k' y n:Nat} (h:DomK g l k y n) (hk:k'≤k):DomK g l k' y n:=fun hw=>h (hw.le hk)
theorem DomK.trans {k y z n:Nat} (h:DomK g l k y z) (h':DomK g l k z n):DomK g l k y n:=by
 intro hw;rcases hw.other (z:=z) with h1 | ⟨k',h1,h2⟩
 ·exact h' h1
 ·exact h (h2.le h1)
theorem DomK.self (k n:Nat):DomK g l k n n:=fun hw=>hw.ne rfl
theorem Dom.trans {y z n:Nat} (h:Dom g l y z) (h':Dom g l z n):Dom g l y n:=fun k=>DomK.trans (h k) (h' k)
theorem Dom.self (n:Nat):Dom g l n n:=fun k=>DomK.self k n
theorem Way.reached {y k n:Nat} (h:Way g l y k n):R g n:=by
 induction h with
 | start k h=>exact .start (qe _ _)
 | on _ hn _ _ ih=>exact .step ih hn (qe _ _)
 | back _ hn _ ih=>exact .step ih hn (qe _ _)
theorem From.way {y n:Nat} {m:List Bool} (hm:Met m y) (h:From g m 0 n) : ∃ k,Way g l y k n:=by
 induction h with
 | start h=>exact ⟨0, .start 0 fun e=>h (e▸hm)⟩
 | step _ hk hn ih =>
  obtain ⟨k,ih⟩:=ih;exact ⟨k+1, .back ih hk fun e=>hn (e▸hm)⟩
theorem Way.fromM {y k n:Nat} {m:List Bool} (hm : ∀ b,Met m b→b=y) (h:Way g l y k n):From g m 0 n:=by
 induction h with
 | start k h=>exact .start fun h'=>h (hm _ h')
 | on _ hn _ hy ih=>exact .step ih hn fun h'=>hy (hm _ h')
 | back _ hn hy ih=>exact .step ih hn fun h'=>hy (hm _ h')
theorem straight (h:qG g l) {y:Nat} : ∀ (r n:Nat),rk g l n=r→n∈l→(∀ x∈l,rk g l x≤r→x≠y)→Way g l y 0 n:=by
 intro r
 induction r using Nat.strongRecOn with
 | _ r ih =>
  intro n hr hn hy
  by_cases h0:n=0
  ·subst h0; exact .start _ (hy 0 hn (by omega))
  ·obtain ⟨p,hp,hlt,hk⟩:=par_rk h hn h0;exact .on (ih _ (by omega) p rfl hp fun x hx hle=>hy x hx (by omega)) hk (by omega) (hy n hn (by omega))
theorem Dom.rk (h:qG g l) {y n:Nat} (hd:Dom g l y n) (hy:y∈l) (hn:n∈l) (hne:y≠n):rk g l y<rk g l n:=by
 rcases Nat.lt_or_ge (G.rk g l y) (G.rk g l n) with h1 | h1
 ·exact h1
 ·exfalso
  refine hd 0 (straight h _ n rfl hn fun x hx hle e => ?_);subst e;have:G.rk g l x=G.rk g l n:=by omega
  exact hne (rk_inj h hx hn this)
theorem Dom.anti (h:qG g l) {y n:Nat} (hd:Dom g l y n) (hd':Dom g l n y) (hy:y∈l) (hn:n∈l):y=n:=by
 by_cases e:y=n
 ·exact e
 ·have:=hd.rk h hy hn e;have:=hd'.rk h hn hy (Ne.symm e);omega
theorem Dom.zero (h:qG g l) {n:Nat}:Dom g l 0 n:=by
 intro k hw
 induction hw with
 | start k h=>exact h rfl
 | on _ _ _ _ ih=>exact ih
 | back _ _ _ ih=>exact ih
theorem Dom.pred {d n p:Nat} (hd:Dom g l d n) (hne:d≠n) (hp:n∈g.getD p []):Dom g l d p:=fun k hw=>hd (k+1) (.back hw hp (Ne.symm hne))
theorem Dom.mem (h:qG g l) {y n:Nat} (hd:Dom g l y n) (hn:n∈l):y∈l:=by
 by_cases hy:y∈l
 ·exact hy
 ·exact absurd (straight h _ n rfl hn fun x hx _ e=>hy (by rw [←e]; exact hx)) (hd 0)
end
end Go.Vw.G
