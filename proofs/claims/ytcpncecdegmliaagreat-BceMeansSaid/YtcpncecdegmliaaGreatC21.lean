import Derived.Test.YtcpncecdegmliaaGreatC20
/- Part of the proof. -/
set_option linter.unusedVariables false
set_option linter.unusedSimpArgs false
set_option maxRecDepth 10000
set_option maxHeartbeats 8000000
namespace Go.Vw
open Go.Proofs Go.RowKit
attribute [-simp] List.map_set
theorem Right_v (g:List (List Int)) (hg:g.length<2^63) (hl : ∀ l∈g,l.length<2^63):VPure Tryz.prog 64 [vl (vl vint) g] (.bool (G.right g)):=by
 intro S;refine qE rfl ?_;refine qu (c:=jc Tryz.f64) Tryz.func64 rfl rfl (by simp [Tryz.ntmps64]) ?_;rw [Tryz.ntmps64];refine QT ?_;refine QY ?_;refine jt 1 rfl (Ghost.box (get_add _ _) (jbt _ _)) (by conv=>lhs; simp [Fr.set]) ?_;have hag:Agree S ((S.add (1,[vl (vl vint) g])).del S.nx):=((Agree.refl S).add _).del (Nat.le_refl _);generalize (S.add (1,[vl (vl vint) g])).del S.nx=S1 at hag ⊢
 by_cases h0:(g.length:Int)=0
 ·have hq:((g.length:Int)==0)=true:=by simp [h0]
  refine QT ?_;refine QY ?_ (r:=by conv=>lhs;simp[QV,jz,hq]);refine QT ?_;refine jI rfl rfl rfl ?_;refine QT ?_;refine QY ?_;refine QT ?_;refine jC rfl ?_;have:G.right g=false:=by simp [G.right]; omega
  rw [this];exact Gives.same hag
 ·have hq:((g.length:Int)==0)=false:=by simpa using h0
  by_cases h1:(256:Int)<g.length
  ·refine QT ?_;refine QY ?_ (r:=by conv=>lhs;simp[QV,jz,hq,h1]);refine QT ?_;refine jI rfl rfl rfl ?_;refine QT ?_;refine QY ?_;refine QT ?_;refine jC rfl ?_;have:G.right g=false:=by simp [G.right]; omega
   rw [this];exact Gives.same hag
  ·have hfin:G.right g=g.all (G.rowOk g.length):=by
    have a1:decide (1≤g.length)=true:=by simp; omega
    have a2:decide (g.length≤256)=true:=by simp; omega
    simp [G.right,a1,a2]
   rw [hfin];refine QT ?_;refine QY ?_ (r:=by conv=>lhs;simp[QV,jz,hq,h1]);refine QT ?_;refine jH rfl rfl rfl ?_;refine QT ?_;refine jG rfl ?_;refine QT ?_;refine QY ?_ (r:=by conv=>lhs;simp[QV,jz]);refine QT ?_;refine jR 0 rfl rfl ?_;refine QT ?_;refine jd [0,1,13,14,15] rfl (fun n σ S' => ∃ (k:Nat),k≤g.length∧n=g.length-k∧(g.drop k).all (G.rowOk g.length)=g.all (G.rowOk g.length)∧σ=[(0,vl (vl vint) g),(1, .ref (vl (vl vint) g)),(13,vl (vl vint) g),(14,vnat g.length),(15,vnat k)]∧S'=S1) g.length ?_ ?_
   ·exact ⟨0,by omega,rfl,rfl,by simp [Fr.only,Fr.look,vnat,vint],rfl⟩
   ·rintro n σ S' ⟨k,hk,rfl,hd,rfl,rfl⟩
    by_cases hk6:k<g.length
    ·have h7:(k:Int)<(g.length:Int):=by omega
     have hst:(g.drop k).all (G.rowOk g.length)=(G.rowOk g.length g[k]&&(g.drop (k+1)).all (G.rowOk g.length)):=by
      rw [List.drop_eq_getElem_cons hk6,List.all_cons]
     have hw:IntKind.i64.wrap ((k:Int)+1)=(k:Int)+1:=wrap_i64 (by omega) (by omega);have hlk:g[k].length<2^63:=hl _ (List.getElem_mem hk6);refine QT ?_;refine QY ?_ (r:=by conv=>lhs;simp[QV,h7]);refine QT ?_;refine jI rfl rfl rfl ?_;refine QT ?_;refine jG rfl ?_;refine QT ?_;refine jR 1 rfl rfl ?_;refine QT ?_;refine QY ?_ (r:=by conv=>lhs;simp[QV,jS,hk6])
     by_cases h2:(128:Int)<g[k].length
     ·refine QT ?_;refine QY ?_ (r:=by conv=>lhs;simp[QV,jz,h2]);refine QT ?_;refine jI rfl rfl rfl ?_;refine QT ?_;refine QY ?_;refine QT ?_;refine jC rfl ?_;have:G.rowOk g.length g[k]=false:=by simp [G.rowOk]; omega
      rw [←hd,hst,this];exact Gives.same hag
     ·have h3:G.rowOk g.length g[k] = !(g[k].any (G.wild g.length)):=by
       have:decide (g[k].length≤128)=true:=by simp; omega
       simp [G.rowOk,this]
      rw [h3] at hst;refine QT ?_;refine QP ?_ (r:=by conv=>lhs;simp[QV,jz,h2]);refine jb rfl (AnyWild_v g g[k] hlk) ?_;refine QW ?_
      cases hc:g[k].any (G.wild g.length)
      ·rw [hc] at hst;refine jH rfl rfl (by simp [ev,Fr.look,hc]) ?_;refine QT ?_;refine jG rfl ?_;refine QT ?_;refine QY ?_ (r:=by conv=>lhs;simp[QV,hw]);exact again ⟨Nat.sub_lt_sub_left (by omega) (Nat.lt_succ_self k),k+1,by omega,rfl,by rw [←hd,hst]; rfl,by simp [Fr.only,Fr.look,vnat,vint],rfl⟩
      ·rw [hc] at hst;refine jI rfl rfl (by simp [ev,Fr.look,hc]) ?_;refine QT ?_;refine QY ?_;refine QT ?_;refine jC rfl ?_;rw [←hd,hst];exact Gives.same hag
    ·have h7 : ¬ (k:Int)<(g.length:Int):=by omega
     refine QT ?_;refine QY ?_ (r:=by conv=>lhs;simp[QV,h7]);refine QT ?_;refine jH rfl rfl rfl ?_;refine QT ?_;refine jW 0 rfl rfl ?_;refine QT ?_;refine QY ?_;refine QT ?_;refine jC rfl ?_;have:g.drop k=[]:=by rw [List.drop_eq_nil_iff]; omega
     rw [←hd,this];exact Gives.same hag
theorem RRight_v (g:List (List Int)) (hg:g.length<2^63) (hl : ∀ l∈g,l.length<2^63):VPure Tryz.prog 42 [vl (vl vint) g] (.bool (G.right g)):=by
 intro S;refine qE rfl ?_;refine qu (c:=jc Tryz.f42) Tryz.func42 rfl rfl (by simp [Tryz.ntmps42]) ?_;rw [Tryz.ntmps42];refine QT ?_;refine QY ?_
 by_cases h0:(g.length:Int)<1
 ·refine QT ?_;refine QY ?_ (r:=by conv=>lhs;simp[QV,jz,h0]);refine QT ?_;refine jI rfl rfl rfl ?_;refine QT ?_;refine QY ?_;refine QT ?_;refine jC rfl ?_;have:G.right g=false:=by simp [G.right]; omega
  rw [this];exact Gives.same (Agree.refl S)
 ·by_cases h1:(256:Int)<g.length
  ·refine QT ?_;refine QY ?_ (r:=by conv=>lhs;simp[QV,jz,h0,h1]);refine QT ?_;refine jI rfl rfl rfl ?_;refine QT ?_;refine QY ?_;refine QT ?_;refine jC rfl ?_;have:G.right g=false:=by simp [G.right]; omega
   rw [this];exact Gives.same (Agree.refl S)
  ·have hfin:G.right g=g.all (G.rowOk g.length):=by
    have a1:decide (1≤g.length)=true:=by simp; omega
    have a2:decide (g.length≤256)=true:=by simp; omega
    simp [G.right,a1,a2]
   rw [hfin];refine QT ?_;refine QY ?_ (r:=by conv=>lhs;simp[QV,jz,h0,h1]);refine QT ?_;refine jH rfl rfl rfl ?_;refine QT ?_;refine jG rfl ?_;refine QT ?_;refine QY ?_;refine QT ?_;refine jR 0 rfl rfl ?_;refine QT ?_;refine jd [0,3] rfl (fun n σ S' => ∃ (k:Nat),k≤g.length∧n=g.length-k∧(g.drop k).all (G.rowOk g.length)=g.all (G.rowOk g.length)∧σ=[(0,vl (vl vint) g),(3,vnat k)]∧S'=S) g.length ?_ ?_
   ·exact ⟨0,by omega,rfl,rfl,by simp [Fr.only,Fr.look,vnat,vint],rfl⟩
   ·rintro n σ S' ⟨k,hk,rfl,hd,rfl,rfl⟩
    by_cases hk6:k<g.length
    ·have h7:(k:Int)<(g.length:Int):=by omega
     have hst:(g.drop k).all (G.rowOk g.length)=(G.rowOk g.length g[k]&&(g.drop (k+1)).all (G.rowOk g.length)):=by
      rw [List.drop_eq_getElem_cons hk6,List.all_cons]
     have hw:IntKind.i64.wrap ((k:Int)+1)=(k:Int)+1:=wrap_i64 (by omega) (by omega);have hlk:g[k].length<2^63:=hl _ (List.getElem_mem hk6);refine QT ?_;refine QY ?_ (r:=by conv=>lhs;simp[QV,jz,h7]);refine QT ?_;refine jI rfl rfl rfl ?_;refine QT ?_;refine jG rfl ?_;refine QT ?_;refine jR 1 rfl rfl ?_
     by_cases h2:(128:Int)<g[k].length
     ·refine QT ?_;refine QY ?_ (r:=by conv=>lhs;simp[QV,jS,hk6,jz,h2]);refine QT ?_;refine jI rfl rfl rfl ?_;refine QT ?_;refine QY ?_;refine QT ?_;refine jC rfl ?_;have:G.rowOk g.length g[k]=false:=by simp [G.rowOk]; omega
      rw [←hd,hst,this];exact Gives.same (Agree.refl S')
     ·have h3:G.rowOk g.length g[k] = !(g[k].any (G.wild g.length)):=by
       have:decide (g[k].length≤128)=true:=by simp; omega
       simp [G.rowOk,this]
      rw [h3] at hst;refine QT ?_;refine QY ?_ (r:=by conv=>lhs;simp[QV,jS,hk6,jz,h2]);refine QT ?_;refine jH rfl rfl rfl ?_;refine QT ?_;refine jG rfl ?_;refine QT ?_;refine QY ?_;refine QT ?_;refine jR 2 rfl rfl ?_;refine QT ?_;refine jd [0,3,4] rfl (fun n σ S'' => ∃ (j:Nat),j≤g[k].length∧n=g[k].length-j∧(g[k].drop j).any (G.wild g.length)=g[k].any (G.wild g.length)∧σ=[(0,vl (vl vint) g),(3,vnat k),(4,vnat j)]∧S''=S') g[k].length ?_ ?_
      ·exact ⟨0,by omega,rfl,rfl,by simp [Fr.only,Fr.look,vnat,vint],rfl⟩
      ·rintro n σ S'' ⟨j,hj,rfl,he,rfl,rfl⟩
       by_cases hj6:j<g[k].length
       ·have i7:(j:Int)<(g[k].length:Int):=by omega
        have ist:(g[k].drop j).any (G.wild g.length)=(G.wild g.length g[k][j]||(g[k].drop (j+1)).any (G.wild g.length)):=by
         rw [List.drop_eq_getElem_cons hj6,List.any_cons]
        have iw:IntKind.i64.wrap ((j:Int)+1)=(j:Int)+1:=wrap_i64 (by omega) (by omega);refine QT ?_;refine QY ?_ (r:=by conv=>lhs;simp[QV,jS,hk6,jz,i7]);refine QT ?_;refine jI rfl rfl rfl ?_;refine QT ?_;refine jG rfl ?_;refine QT ?_;refine jR 3 rfl rfl ?_
        by_cases n0:g[k][j]<0
        ·refine QT ?_;refine QY ?_ (r:=by conv=>lhs;simp[QV,jS,hk6,jS,hj6,n0]);refine QT ?_;refine jI rfl rfl rfl ?_;refine QT ?_;refine QY ?_;refine QT ?_;refine jC rfl ?_;have:G.wild g.length g[k][j]=true:=by simp [G.wild,n0]
         rw [←hd,hst, ←he,ist,this];exact Gives.same (Agree.refl S'')
        ·by_cases n1:(g.length:Int)≤g[k][j]
         ·refine QT ?_;refine QY ?_ (r:=by conv=>lhs;simp[QV,jS,hk6,jS,hj6,n0,jz,n1]);refine QT ?_;refine jI rfl rfl rfl ?_;refine QT ?_;refine QY ?_;refine QT ?_;refine jC rfl ?_;have:G.wild g.length g[k][j]=true:=by simp [G.wild,n1]
          rw [←hd,hst, ←he,ist,this];exact Gives.same (Agree.refl S'')
         ·refine QT ?_;refine QY ?_ (r:=by conv=>lhs;simp[QV,jS,hk6,jS,hj6,n0,jz,n1]);refine QT ?_;refine jH rfl rfl rfl ?_;refine QT ?_;refine jG rfl ?_;refine QT ?_;refine QY ?_ (r:=by conv=>lhs;simp[QV,iw]);have:G.wild g.length g[k][j]=false:=by simp [G.wild,n0,n1]
          rw [this] at ist;exact again ⟨Nat.sub_lt_sub_left (by omega) (Nat.lt_succ_self j),j+1,by omega,rfl,by rw [←he,ist]; rfl,by simp [Fr.only,Fr.look,vnat,vint],rfl⟩
       ·have i7 : ¬ (j:Int)<(g[k].length:Int):=by omega
        refine QT ?_;refine QY ?_ (r:=by conv=>lhs;simp[QV,jS,hk6,jz,i7]);refine QT ?_;refine jH rfl rfl rfl ?_;refine QT ?_;refine jW 2 rfl rfl ?_;have hz:g[k].drop j=[]:=by rw [List.drop_eq_nil_iff]; omega
        rw [hz] at he;rw [←he] at hst;refine QT ?_;refine QY ?_ (r:=by conv=>lhs;simp[QV,hw]);exact again ⟨Nat.sub_lt_sub_left (by omega) (Nat.lt_succ_self k),k+1,by omega,rfl,by rw [←hd,hst]; rfl,by simp [Fr.only,Fr.look,vnat,vint],rfl⟩
    ·have h7 : ¬ (k:Int)<(g.length:Int):=by omega
     refine QT ?_;refine QY ?_ (r:=by conv=>lhs;simp[QV,jz,h7]);refine QT ?_;refine jH rfl rfl rfl ?_;refine QT ?_;refine jW 0 rfl rfl ?_;refine QT ?_;refine QY ?_;refine QT ?_;refine jC rfl ?_;have:g.drop k=[]:=by rw [List.drop_eq_nil_iff]; omega
     rw [←hd,this];exact Gives.same (Agree.refl S')
def zg (rows:List (List Nat)):List (List V):=rows.map (·.map vnat)
theorem natRows_len (rows:List (List Nat)):(zg rows).length=rows.length:=by simp [zg]
theorem Yz {rows:List (List Nat)} {k i:Nat} (h:k<rows.length):zg (G.push rows k i)=(zg rows).set k ((rows.getD k []).map vnat++[.int .i64 (i:Int)]):=by
 simp [zg,G.push,List.map_set,vnat]
theorem KP {rows:List (List Nat)} {k:Nat} (h:k<rows.length):(zg rows)[k]? = some ((rows.getD k []).map vnat):=by
 simp [zg,h]
theorem jaL (rows:List (List Nat)) : ∀ row∈zg rows,row.all V.closed1=true:=by
 intro row h;simp only [zg,List.mem_map] at h;obtain ⟨r,_,rfl⟩:=h;simp [vnat,V.closed1]
theorem natRows_vl (rows:List (List Nat)):V.list ((zg rows).map V.list)=vl (vl vnat) rows:=by
 simp [zg,vl]
theorem FromErr_v (g:List (List Int)) (hg:g.length<2^63) (hl : ∀ l∈g,l.length<2^63) (hr:G.right g=false):VPure Tryz.prog 66 [vl (vl vint) g] (.tuple [vl vnat [],vint 1]):=by
 intro S;refine QB (c:=jc Tryz.f66) Tryz.func66 Tryz.ntmps66 fun hwf=>?_
 repeat first|refine QG ?_|refine QY ?_
 refine QT ?_;refine QP ?_;refine jb rfl (Right_v g hg hl) ?_;refine QM (by conv=>lhs;simp[QV,hr]) ?_;refine QN ?_
 repeat first|refine QG ?_|refine QY ?_
 exact jf (l:=[]) hwf ((Ghost.tuple [] [vint 1] (Ghost.nils_list _)).toB _) rfl
structure FromAt (S T:Store) (oo:Nat) (cells:List V) (rows:List (List Nat)) (n:Nat):Prop where
 agree:Agree S T
 arr:RowsAt T S.nx oo [] cells (zg rows)
 len:rows.length=n
theorem FromAt.nil {S T:Store} {oo n k i:Nat} {cells:List V} {rows:List (List Nat)} (h:FromAt S T oo cells rows n) (hk:k<n) (hr:rows.getD k []=[]) (hc:cells[k]? = some .nils):FromAt S (jaX T oo cells k (.int .i64 (i:Int))) oo (cells.set k (.slice (T.nx+1) 0 1)) (G.push rows k i) n:=by
 have hlt:k<rows.length:=by rw [h.len]; exact hk
 refine ⟨((h.agree.add _).add _).upd h.arr.base _, ?_,by simp [G.push_length,h.len]⟩;rw [Yz hlt,hr];refine h.arr.nil ?_ (by simp) hc;rw [KP hlt,hr]; rfl
theorem FromAt.app {S T:Store} {oo n k i id:Nat} {cells:List V} {rows:List (List Nat)} (h:FromAt S T oo cells rows n) (hk:k<n) (hid:S.nx≤id) (hc:cells[k]? = some (.slice id 0 (rows.getD k []).length)):FromAt S (ZA T oo cells k id ((rows.getD k []).map vnat) (.int .i64 (i:Int))) oo (cells.set k (.slice (T.nx+1) 0 ((rows.getD k []).length+1))) (G.push rows k i) n:=by
 have hlt:k<rows.length:=by rw [h.len]; exact hk
 refine ⟨(((h.agree.add _).del hid).add _).upd h.arr.base _, ?_,by simp [G.push_length,h.len]⟩;rw [Yz hlt];have:=h.arr.app (x := .int .i64 (i:Int)) (id:=id) (KP hlt) (by simp) (by simpa using hc);simpa using this
theorem From_v (g:List (List Nat)) (hg:G.Ok g) (hr:VPure Tryz.prog 64 [vl (vl vnat) g] (.bool true)):VPure Tryz.prog 66 [vl (vl vnat) g] (.tuple [vl (vl vnat) (G.froms g),vint 0]):=by
 intro S;refine QB (c:=jc Tryz.f66) Tryz.func66 Tryz.ntmps66 fun hwf=>?_
 have hm256:=hg.max;have hb24:g.length*24≤140737488355328:=by omega
 have hb0:g.length≤140737488355328:=by omega
 repeat first|refine QG ?_|refine QY ?_
 refine QT ?_;refine QP ?_;refine jb rfl (hr) ?_;refine QW ?_
 repeat first|refine QG ?_|refine QY ?_ (r:=by conv=>lhs;simp[QV,hb24,hb0])
 have h0:FromAt S (St S [] [some (1,List.replicate g.length V.nils)]) (lid S.nx 0) (List.replicate g.length .nils) (List.replicate g.length []) g.length:=by
  refine ⟨zu, ?_,by simp⟩;have:zg (List.replicate g.length [])=List.replicate g.length []:=by simp [zg]
  rw [this];exact RowsAt.start (by simp [ju]) (by simp [lid]) (by rw [jP]; simp [lid]) (by simp)
 have htot:=G.edges_len hg.row 0;refine vw_gen (fun T=>FromAt S T (lid S.nx 0) (List.replicate g.length .nils) (List.replicate g.length []) g.length) h0 ?_;intro T h0;generalize lid S.nx 0=oo at h0 ⊢
 repeat first|refine QG ?_|refine QY ?_
 refine QT ?_;refine jd [4,15,16,17] rfl (fun c σ S' => ∃ (i:Nat) (cells:List V) (rows:List (List Nat)),i≤g.length∧c=g.length-i∧FromAt S S' oo cells rows g.length∧G.pushAll rows (G.edges (g.drop i) i)=G.froms g∧G.total rows+(G.edges (g.drop i) i).length≤128*g.length∧σ=[(4, .slice oo 0 g.length),(15,vl (vl vnat) g),(16,vnat g.length),(17,vnat i)]) g.length ?_ ?_
 ·exact ⟨0,_,_,by omega,rfl,h0,rfl,by simpa [G.total_rep] using htot,by simp [Fr.only,Fr.look,vnat]⟩
 ·rintro c σ T ⟨i,cells,rows,hi,rfl,hF,hp,ht,rfl⟩
  by_cases hlt:i<g.length
  ·have hw1:IntKind.i64.wrap ((i:Int)+1)=(i:Int)+1:=wrap_i64 (by omega) (by omega);have hr128:=hg.row _ (List.getElem_mem hlt)
   repeat first|refine QG ?_|refine QY ?_ (r:=by conv=>lhs;simp[QV,hlt])
   rw [G.edges_drop g hlt] at hp ht;refine QT ?_;refine jd [4,5,15,16,17,22,23,24] rfl (fun c σ S' => ∃ (k:Nat) (cells:List V) (rows:List (List Nat)),k≤g[i].length∧c=g[i].length-k∧FromAt S S' oo cells rows g.length∧G.pushAll rows ((g[i].drop k).map (·,i)++G.edges (g.drop (i+1)) (i+1))=G.froms g∧G.total rows+((g[i].drop k).map (·,i)++G.edges (g.drop (i+1)) (i+1)).length≤128*g.length∧σ=[(4, .slice oo 0 g.length),(5,vnat i),(15,vl (vl vnat) g),(16,vnat g.length),(17,vnat i),(22,vl vnat g[i]),(23,vnat g[i].length),(24,vnat k)]) g[i].length ?_ ?_
   ·exact ⟨0,_,_,by omega,rfl,hF,hp,by simpa using ht,by simp [Fr.only,Fr.look,vnat]⟩
   ·rintro c σ T ⟨k,cells,rows,hk,rfl,hF,hp,ht,rfl⟩
    by_cases hkl:k<g[i].length
    ·have hw2:IntKind.i64.wrap ((k:Int)+1)=(k:Int)+1:=wrap_i64 (by omega) (by omega);rw [G.map_drop hkl] at hp ht;simp only [List.cons_append,List.length_cons,G.pushAll_cons] at hp ht;have hgk:g[i][k]<g.length:=hg.elt _ (List.getElem_mem hlt) _ (List.getElem_mem hkl);have hkr:g[i][k]<rows.length:=by rw [hF.len]; exact hgk
     have hrow:=G.row_le_total rows g[i][k];have htp:=G.total_push (i:=i) hkr;have hget:=hF.arr.get;have hool:=hF.arr.lt;have hcl:cells.length=g.length:=by rw [hF.arr.len,natRows_len,hF.len]
     have hgkc:g[i][k]<cells.length:=by omega
     have h1:oo<T.nx+1:=by omega
     have h2:oo<T.nx+1+1:=by omega
     rcases hF.arr.row _ _ (KP hkr) with ⟨hc,hr0⟩ | ⟨id,hc,hid,hne,hb,hidl,_⟩
     ·have hr0':rows.getD g[i][k] []=[]:=by simpa using hr0
      obtain ⟨_,hce⟩:=List.getElem?_eq_some_iff.1 hc
      repeat first|refine QG ?_|refine QY ?_ (r:=by conv=>lhs;simp[QV,hlt,hkl,hw2])
      repeat first|refine QG ?_|refine QY ?_ (r:=by conv=>lhs;simp[QV,hlt,hkl,hget,hgk,add_new,add_nx',add_old,hool,h1,h2,hgkc,hce,hw2])
      show jy _ _ _ _ _ _ _;exact again ⟨Nat.sub_lt_sub_left hkl (Nat.lt_succ_self k),k+1,_,_,hkl,rfl,hF.nil (i:=i) hgk hr0' hc,hp,by omega,by simp [Fr.only,Fr.look,vnat]⟩
     ·have hlr:((rows.getD g[i][k] []).map vnat).length=(rows.getD g[i][k] []).length:=by simp
      rw [hlr] at hc;obtain ⟨_,hce⟩:=List.getElem?_eq_some_iff.1 hc;have hb8:((rows.getD g[i][k] []).length+1)*8≤140737488355328:=by omega
      have hb1:(rows.getD g[i][k] []).length+1≤140737488355328:=by omega
      have hcf:=hF.app (i:=i) hgk hb hc;simp only [ZA,List.length_map] at hcf;generalize hrw:rows.getD g[i][k] []=row at hce hb8 hb1 hid hcf;have hne':oo≠id:=Ne.symm hne
      repeat first|refine QG ?_|refine QY ?_ (r:=by conv=>lhs;simp[QV,hlt,hkl,hw2])
      repeat first|refine QG ?_|refine QY ?_ (r:=by conv=>lhs;simp[QV,hlt,hkl,hget,hgk,add_new,add_nx',add_old,del_old,del_nx,hool,h1,h2,hgkc,hce,hw2,hid,hidl,hne',hb8,hb1])
      show jy _ _ _ _ _ _ _;exact again ⟨Nat.sub_lt_sub_left hkl (Nat.lt_succ_self k),k+1,_,_,hkl,rfl,hcf,hp,by omega,by simp [Fr.only,Fr.look,vnat]⟩
    ·repeat first|refine QG ?_|refine QY ?_ (r:=by conv=>lhs;simp[QV,hlt,hkl,hw1])
     have:k=g[i].length:=by omega
     subst this;simp at hp ht;show jy _ _ _ _ _ _ _;exact again ⟨Nat.sub_lt_sub_left hlt (Nat.lt_succ_self i),i+1,_,_,hlt,rfl,hF,hp,by simpa using ht,by simp [Fr.only,Fr.look,vnat]⟩
  ·have hig:i=g.length:=by omega
   subst hig;refine QT ?_;refine QY ?_;refine QT ?_;refine jH rfl rfl rfl ?_;refine QT ?_;refine jW 0 rfl rfl ?_;simp [G.edges,G.pushAll] at hp;obtain ⟨T2,k1,k2,k3,k4,k5⟩:=hF.arr.freeze (N:=41) (b0:=S.nx) (jaL rows);refine jF k1 ?_
   repeat first|refine QG ?_|refine QY ?_
   have hfr:=Ghost.freeze1 (len:=g.length) k2 (by simp [V.closed1]) (by simp [zg,hF.len]);rw [natRows_vl,hp] at hfr;have hag:Agree S (T2.del oo):=by
    have h0:=hF.agree;refine ⟨by show S.nx≤T2.nx; rw [k3]; exact h0.1,fun o ho => ?_⟩;have hb:=hF.arr.base;rw [del_old (by omega),k4 o (.inl ho) (by omega)];exact h0.2 o ho
   exact qA hwf ((Ghost.tuple [] [vint 0] hfr).toB _) hag rfl
theorem Meet_v (S:Store) (rank:List Nat) (near:List Int) (hrl:rank.length=near.length) (o7 o10 or on:Nat) (h7:S.get o7=some (1,[.slice or 0 rank.length])) (hr:S.get or=some (1,rank.map vnat)) (h10:S.get o10=some (1,[.slice on 0 near.length])) (hn:S.get on=some (1,near.map vint))
  (f:Nat) (a b c:Int) (hm:G.meetF rank near f a b=some c):VCalls Tryz.prog 68 [vint a,vint b, .ptr o7 0, .ptr o10 0] S (fun r S'=>r=vint c∧S'=S):=by
 refine QB (c:=jc Tryz.f68) Tryz.func68 Tryz.ntmps68 fun hwf=>?_
 have lt : ∀ o c,S.get o=some c→o<S.nx:=by
  intro o c ho;rcases Nat.lt_or_ge o S.nx with h | h
  ·exact h
  ·rw [hwf.gone o h] at ho; cases ho
 have k7 := @jm S [] [] o7 (lt _ _ h7);have kr := @jm S [] [] or (lt _ _ hr);have k10 := @jm S [] [] o10 (lt _ _ h10);have kn := @jm S [] [] on (lt _ _ hn)
 repeat first|refine QG ?_|refine QY ?_
 refine QT ?_;refine jd [0,1,2,3] rfl (fun n σ S' => ∃ a b:Int,G.meetF rank near n a b=some c∧σ=[(0,vint a),(1,vint b),(2, .ptr o7 0),(3, .ptr o10 0)]∧S'=St S [] []) f ?_ ?_
 ·exact ⟨a,b,hm,by simp [Fr.only,Fr.look,vint],rfl⟩
 ·rintro n σ T ⟨a,b,hm,rfl,rfl⟩
  cases n with
  | zero=>cases hm
  | succ n =>
   simp only [G.meetF] at hm
   by_cases hab:a=b
   ·rw [if_pos hab] at hm
    cases hm
    subst hab
    repeat first|refine QG ?_|refine QY ?_
    exact ja hwf rfl rfl
   ·rw [if_neg hab] at hm;split at hm
    ·rename_i hok;obtain ⟨a0,a1,b0,b1⟩:=hok;have ha:a.toNat<near.length:=by omega
     have hb:b.toNat<near.length:=by omega
     have har:a.toNat<rank.length:=by omega
     have hbr:b.toNat<rank.length:=by omega
     have a1':a<(rank.length:Int):=by omega
     have b1':b<(rank.length:Int):=by omega
     have e1:rank.getD a.toNat 0=rank[a.toNat]:=by simp [har]
     have e2:rank.getD b.toNat 0=rank[b.toNat]:=by simp [hbr]
     have e3:near.getD a.toNat 0=near[a.toNat]:=by simp [ha]
     have e4:near.getD b.toNat 0=near[b.toNat]:=by simp [hb]
     rw [e1,e2,e3,e4] at hm;split at hm
     ·rename_i hlt
      repeat first|refine QG ?_|refine QY ?_ (r:=by conv=>lhs;simp[QV,k7,kr,k10,kn,h7,hr,h10,hn,hab,a0,a1,b0,b1,ha,hb,har,hbr,a1',b1',hlt])
      show jy _ _ _ _ _ _ _;exact again ⟨Nat.lt_succ_self n,_,_,hm,by simp [Fr.only,Fr.look,vint],rfl⟩
     ·rename_i hlt
      repeat first|refine QG ?_|refine QY ?_ (r:=by conv=>lhs;simp[QV,k7,kr,k10,kn,h7,hr,h10,hn,hab,a0,a1,b0,b1,ha,hb,har,hbr,a1',b1',hlt])
      show jy _ _ _ _ _ _ _;exact again ⟨Nat.lt_succ_self n,_,_,hm,by simp [Fr.only,Fr.look,vint],rfl⟩
    ·cases hm
theorem gOrd_v (g:List (List Nat)) (hg:G.Ok g):VPure Tryz.prog 65 [vl (vl vnat) g] (vl vnat (G.order g)):=by
 obtain ⟨t,h1,h2,h3⟩:=G.order_ends hg;have hp:=hg.pos;have hm:=hg.max;have e:g.length=(g.length-1)+1:=by omega
 have:=gOrder_v g hg (g.length-1) t (by rw [←e]; exact h1) (by omega);simpa [G.order,h1] using this
theorem NearestErr_v (g:List (List Int)) (hg:g.length<2^63) (hl : ∀ l∈g,l.length<2^63) (hr:G.right g=false):VPure Tryz.prog 20 [vl (vl vint) g] (.tuple [vl vint [],vint 1]):=by
 intro S;refine QB (c:=jc Tryz.f20) Tryz.func20 Tryz.ntmps20 fun hwf=>?_
 repeat first|refine QG ?_|refine QY ?_
 refine QT ?_;refine QP ?_;refine jb rfl (FromErr_v g hg hl hr) ?_;refine QW ?_
 repeat first|refine QG ?_|refine QY ?_
 exact jf (l:=[]) hwf ((Ghost.tuple [] [vint 1] (Ghost.nils_list _)).toB _) rfl
def KE (S:Store) (rank:List Nat) (near:List Int):Store :=
 St S [] [some (1,rank.map vnat),some (1,[.slice (lid S.nx 0) 0 rank.length]),some (1,[.int .i64 (-1)]),some (1,near.map vint),some (1,[.slice (lid S.nx 3) 0 near.length])]
theorem Nearest_v (g:List (List Nat)) (hg:G.Ok g) (hr:VPure Tryz.prog 64 [vl (vl vnat) g] (.bool true)) (l:List Nat) (hl:G.order g=l) (hl1:1≤l.length) (hlt : ∀ x∈l,x<g.length) (fr:List (List Nat)) (hfr:G.froms g=fr) (hfl:fr.length=g.length) (hfe : ∀ r∈fr, ∀ x∈r,x<g.length) (hfm : ∀ r∈fr,r.length≤2^20)
  (hll:l.length≤g.length) (F K:Nat) (nearF:List Int) (hchk:G.chk (G.rankTo g.length l l.length) fr F l.tail K ((List.replicate g.length (-1)).set 0 0)=some nearF) :
  VPure Tryz.prog 20 [vl (vl vnat) g] (.tuple [vl vint (nearF.set 0 (-1)),vint 0]):=by
 intro S;refine QB (c:=jc Tryz.f20) Tryz.func20 Tryz.ntmps20 fun hwf=>?_
 have hp:0<g.length:=hg.pos;have hm256:=hg.max;have hb8:g.length*8≤140737488355328:=by omega
 have hb0:g.length≤140737488355328:=by omega
 refine QT ?_;refine QY ?_;refine QT ?_;refine QP ?_;refine jb rfl (hfr▸From_v g hg hr) ?_;refine QW ?_
 repeat first|refine QG ?_|refine QY ?_
 refine QT ?_;refine QP ?_;refine jb rfl (hl▸gOrd_v g hg) ?_;refine QW ?_
 repeat first|refine QG ?_|refine QY ?_ (r:=by conv=>lhs;simp[QV,hb8,hb0])
 refine QT ?_;refine jd [0,4,6,7,31,32,33] rfl (fun c σ S' => ∃ k:Nat,k≤l.length∧c=l.length-k∧σ=[(0,vl (vl vnat) g),(4,vl (vl vnat) fr),(6,vl vnat l),(7, .ptr (lid S.nx 1) 0),(31,vl vnat l),(32,vnat l.length),(33,vnat k)]∧S'=St S [] [some (1,(G.rankTo g.length l k).map vnat),some (1,[.slice (lid S.nx 0) 0 g.length])]) l.length ?_ ?_
 ·exact ⟨0,by omega,rfl,by simp [Fr.only,Fr.look,vnat],by simp [G.rankTo,vnat]⟩
 ·rintro c σ T ⟨k,hk,rfl,rfl,rfl⟩;have hrl:=G.rankTo_len g.length l k
  by_cases hkt:k<l.length
  ·have hw:IntKind.i64.wrap ((k:Int)+1)=(k:Int)+1:=wrap_i64 (by omega) (by omega);have hlk:=hlt _ (List.getElem_mem hkt);have hst:G.rankTo g.length l (k+1)=(G.rankTo g.length l k).set l[k] k:=by simp [G.rankTo,hkt]
   repeat first|refine QG ?_|refine QY ?_ (r:=by conv=>lhs;simp[QV,hkt,hlk,hrl])
   show jy _ _ _ _ _ _ _;exact again ⟨Nat.sub_lt_sub_left hkt (Nat.lt_succ_self k),k+1,hkt,rfl,by simp [Fr.only,Fr.look,vnat,hw],by rw [hst]⟩
  ·have hkl:k=l.length:=by omega
   subst hkl
   repeat first|refine QG ?_|refine QY ?_ (r:=by conv=>lhs;simp[QV,hkt])
   refine QT ?_;refine QP ?_;refine jO rfl (Repeat_v _ (lid S.nx 2) (-1) g.length hp (by omega) ?_) ?_
   ·simp [ju]
   rintro X T ⟨rfl,rfl⟩;generalize hrank:G.rankTo g.length l l.length=rank at hchk hrl ⊢;refine QW ?_;have hn0:((List.replicate g.length (-1:Int)).set 0 0).length=g.length:=by simp
   repeat first|refine QG ?_|refine QY ?_ (r:=by conv=>lhs;simp[QV,hp])
   refine QT ?_;refine jd [0,4,6,7,10,11,12] rfl (fun c σ S' => ∃ near:List Int,near.length=g.length∧((c=0∧near=nearF∧σ=[(0,vl (vl vnat) g),(4,vl (vl vnat) fr),(6,vl vnat l),(7, .ptr (lid S.nx 1) 0),(10, .ptr (lid S.nx 4) 0),(11, .func 68 [.ptr (lid S.nx 1) 0, .ptr (lid S.nx 4) 0]),(12, .bool false)])∨(G.chk rank fr F l.tail c near=some nearF∧σ=[(0,vl (vl vnat) g),(4,vl (vl vnat) fr),(6,vl vnat l),(7, .ptr (lid S.nx 1) 0),(10, .ptr (lid S.nx 4) 0),(11, .func 68 [.ptr (lid S.nx 1) 0, .ptr (lid S.nx 4) 0]),(12, .bool true)]))∧S'=KE S rank near) K ?_ ?_
   ·refine ⟨_,hn0, .inr ⟨hchk,by simp [Fr.only,Fr.look,vnat]⟩, ?_⟩;simp [KE,hrl,vint,List.map_set]
   ·rintro c σ T ⟨near,hnl,⟨rfl,rfl,rfl⟩ | ⟨hc,rfl⟩,rfl⟩
    ·have hp':0<near.length:=by omega
     unfold KE
     repeat first|refine QG ?_|refine QY ?_ (r:=by conv=>lhs;simp[QV,hp'])
     have hfz:=frz1 (B:=S) (u:=[]) (l:=[some (1,rank.map vnat),some (1,[.slice (lid S.nx 0) 0 rank.length]),some (1,[.int .i64 (-1)]),some (1,(near.set 0 (-1)).map vint),some (1,[.slice (lid S.nx 3) 0 near.length])]) (k:=3) (len:=near.length) (by simp) rfl (jq vint (fun _=>rfl) _) (by simp);exact jf hwf ((Ghost.tuple [] [vint 0] hfz).toB _) rfl
    ·cases c with
     | zero=>cases hc
     | succ c =>
      simp only [G.chk] at hc;obtain ⟨s,hsw,hc⟩:=Option.bind_eq_some_iff.1 hc;have hl1':(1:Int)≤(l.length:Int):=by omega
      repeat first|refine QG ?_|refine QY ?_ (r:=by conv=>lhs;simp[QV,hl1'])
      refine QT ?_;refine jd [0,4,6,7,10,11,12,52,53,54] rfl (fun c σ S' => ∃ (k:Nat) (near:List Int) (t:Bool),near.length=g.length∧k≤l.tail.length∧c=l.tail.length-k∧G.sweepF rank fr F (l.tail.drop k) near t=some s∧σ=[(0,vl (vl vnat) g),(4,vl (vl vnat) fr),(6,vl vnat l),(7, .ptr (lid S.nx 1) 0),(10, .ptr (lid S.nx 4) 0),(11, .func 68 [.ptr (lid S.nx 1) 0, .ptr (lid S.nx 4) 0]),(12, .bool t),(52,vl vnat l.tail),(53,vnat (l.length-1)),(54,vnat k)]∧S'=KE S rank near) l.tail.length ?_ ?_
      ·exact ⟨0,near,false,hnl,by omega,rfl,hsw,by simp [Fr.only,Fr.look,vnat],rfl⟩
      ·rintro c' σ T ⟨k,near,t,hnl,hk,rfl,hsw,rfl,rfl⟩;have htl:l.tail.length=l.length-1:=by simp
       by_cases hkt:k<l.tail.length
       ·have hw:IntKind.i64.wrap ((k:Int)+1)=(k:Int)+1:=wrap_i64 (by omega) (by omega);have hkt':k<l.length-1:=by omega
        have hk1:k+1<l.length:=by omega
        have hel:l[k+1]=l.tail[k]:=by simp
        rw [List.drop_eq_getElem_cons hkt,G.sweepF] at hsw;obtain ⟨b,hpk,hsw⟩:=Option.bind_eq_some_iff.1 hsw;have hlk:=hlt _ (List.mem_of_mem_tail (List.getElem_mem hkt));generalize hn:l.tail[k]=n at hpk hsw hlk hel;have hnf:n<fr.length:=by omega
        have hfn:fr.getD n []=fr[n]:=by simp [hnf]
        rw [hfn] at hpk;have hmr:=hfe _ (List.getElem_mem hnf);have hmm:=hfm _ (List.getElem_mem hnf);have hnn:n<near.length:=by omega
        have hng:near.getD n 0=near[n]:=by simp [hnn]
        rw [hng] at hsw;unfold KE
        repeat first|refine QG ?_|refine QY ?_ (r:=by conv=>lhs;simp[QV,hkt',hk1,hel,hnf])
        refine QT ?_;refine jd [0,4,6,7,10,11,12,14,15,52,53,54,61,62,63] rfl (fun c σ S' => ∃ (j:Nat) (best:Int),j≤fr[n].length∧c=fr[n].length-j∧G.pickF rank near F (fr[n].drop j) best=some b∧σ=[(0,vl (vl vnat) g),(4,vl (vl vnat) fr),(6,vl vnat l),(7, .ptr (lid S.nx 1) 0),(10, .ptr (lid S.nx 4) 0),(11, .func 68 [.ptr (lid S.nx 1) 0, .ptr (lid S.nx 4) 0]),(12, .bool t),(14,vnat n),(15,vint best),(52,vl vnat l.tail),(53,vnat (l.length-1)),(54,vnat k),(61,vl vnat fr[n]),(62,vnat fr[n].length),(63,vnat j)]∧S'=KE S rank near) fr[n].length ?_ ?_
        ·exact ⟨0, -1,by omega,rfl,hpk,by simp [Fr.only,Fr.look,vnat,vint],rfl⟩
        ·rintro c'' σ T ⟨j,best,hj,rfl,hpk,rfl,rfl⟩
         by_cases hjt:j<fr[n].length
         ·have hwj:IntKind.i64.wrap ((j:Int)+1)=(j:Int)+1:=wrap_i64 (by omega) (by omega);rw [List.drop_eq_getElem_cons hjt,G.pickF] at hpk;have hpg:=hmr _ (List.getElem_mem hjt);generalize hp':fr[n][j]=p at hpk hpg;have hpn:p<near.length:=by omega
          have hpd:near.getD p 0=near[p]:=by simp [hpn]
          rw [hpd] at hpk;unfold KE
          by_cases h1:near[p]<0
          ·rw [if_pos h1] at hpk
           repeat first|refine QG ?_|refine QY ?_ (r:=by conv=>lhs;simp[QV,hjt,hp',hpn,h1])
           show jy _ _ _ _ _ _ _;exact again ⟨Nat.sub_lt_sub_left hjt (Nat.lt_succ_self j),j+1,best,hjt,rfl,hpk,by simp [Fr.only,Fr.look,vnat,vint,hwj],rfl⟩
          ·rw [if_neg h1] at hpk
           by_cases h2:best<0
           ·rw [if_pos h2] at hpk
            repeat first|refine QG ?_|refine QY ?_ (r:=by conv=>lhs;simp[QV,hjt,hp',hpn,h1,h2])
            show jy _ _ _ _ _ _ _;exact again ⟨Nat.sub_lt_sub_left hjt (Nat.lt_succ_self j),j+1,p,hjt,rfl,hpk,by simp [Fr.only,Fr.look,vnat,vint,hwj],rfl⟩
           ·rw [if_neg h2] at hpk;obtain ⟨q,hq,hpk⟩:=Option.bind_eq_some_iff.1 hpk
            repeat first|refine QG ?_|refine QY ?_ (r:=by conv=>lhs;simp[QV,hjt,hp',hpn,h1,h2])
            refine QT ?_;refine QP ?_;refine zj rfl rfl rfl (Meet_v _ rank near (by omega) (lid S.nx 1) (lid S.nx 4) (lid S.nx 0) (lid S.nx 3) ?_ ?_ ?_ ?_ F best p q hq) ?_
            ·simp [ju]
            ·simp [ju]
            ·simp [ju]
            ·simp [ju]
            rintro X T ⟨rfl,rfl⟩;refine QW ?_
            repeat first|refine QG ?_|refine QY ?_
            show jy _ _ _ _ _ _ _;exact again ⟨Nat.sub_lt_sub_left hjt (Nat.lt_succ_self j),j+1,q,hjt,rfl,hpk,by simp [Fr.only,Fr.look,vnat,vint,hwj],rfl⟩
         ·have hje:j=fr[n].length:=by omega
          subst hje;rw [List.drop_length,G.pickF] at hpk
          cases hpk
          unfold KE
          cases t with
          | true =>
           repeat first|refine QG ?_|refine QY ?_ (r:=by conv=>lhs;simp[QV,hjt,hnn])
           show jy _ _ _ _ _ _ _;exact again ⟨Nat.sub_lt_sub_left hkt (Nat.lt_succ_self k),k+1,near.set n b,true,by simp [hnl],hkt,rfl,by simpa using hsw,by simp [Fr.only,Fr.look,vnat,hw],by simp [KE,vint]⟩
          | false =>
           repeat first|refine QG ?_|refine QY ?_ (r:=by conv=>lhs;simp[QV,hjt,hnn])
           show jy _ _ _ _ _ _ _;exact again ⟨Nat.sub_lt_sub_left hkt (Nat.lt_succ_self k),k+1,near.set n b, !decide (near[n]=b),by simp [hnl],hkt,rfl,by simpa using hsw,by simp [Fr.only,Fr.look,vnat,hw],by simp [KE,vint]⟩
       ·have hkl:k=l.tail.length:=by omega
        subst hkl;rw [List.drop_length,G.sweepF] at hsw
        cases hsw
        have hkt' : ¬ l.tail.length<l.length-1:=by omega
        repeat first|refine QG ?_|refine QY ?_ (r:=by conv=>lhs;simp[QV,hkt'])
        cases t with
        | true =>
         show jy _ _ _ _ _ _ _;exact again ⟨Nat.lt_succ_self c,near,hnl, .inr ⟨hc,by simp [Fr.only,Fr.look]⟩,rfl⟩
        | false =>
         show jy _ _ _ _ _ _ _;exact again ⟨Nat.succ_pos c,near,hnl, .inl ⟨rfl,by simpa using hc,by simp [Fr.only,Fr.look]⟩,rfl⟩
end Go.Vw
