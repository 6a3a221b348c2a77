import Derived.Test.YtkfllaokjaldnaaGreatC11
import Derived.Test.YtkfllaokjaldnaaGreatProg
import Derived.Test.YtkfllaokjaldnaaGreatC13
/-
  Part of the proof (texts GFromW, GNear, GNear2).
-/
set_option linter.unusedVariables false
set_option linter.unusedSimpArgs false
namespace Go.Vw
open Go.Proofs Go.RowKit
set_option maxRecDepth 10000
set_option maxHeartbeats 4000000
def qQ (rows:List (List Nat)):List (List V):=rows.map (·.map vnat)
theorem ZM (rows:List (List Nat)):(qQ rows).length=rows.length:=by simp [qQ]
theorem YC {rows:List (List Nat)} {k i:Nat} (h:k<rows.length):qQ (G.push rows k i)=(qQ rows).set k ((rows.getD k []).map vnat++[.int .i64 (i:Int)]):=by
 simp [qQ,G.push,List.map_set,vnat]
theorem JK {rows:List (List Nat)} {k:Nat} (h:k<rows.length):(qQ rows)[k]? = some ((rows.getD k []).map vnat):=by
 simp [qQ,h]
theorem KJ (rows:List (List Nat)) : ∀ row∈qQ rows,row.all V.closed1=true:=by
 intro row h
 simp only [qQ,List.mem_map] at h
 obtain ⟨r,_,rfl⟩:=h
 simp [vnat,V.closed1]
theorem jaT (rows:List (List Nat)):V.list ((qQ rows).map V.list)=vl (vl vnat) rows:=by
 simp [qQ,vl]
theorem FromErr_v (g:List (List Int)) (hg:g.length<2^63) (hl : ∀ l∈g,l.length<2^63) (hr:G.right g=false):VPure Tryz.prog 78 [vl (vl vint) g] (.tuple [vl vnat [],vint 1]):=by
 intro S
 refine jb (c:=jf Tryz.f78) Tryz.func78 rfl rfl (by simp [Tryz.ntmps78]) ?_
 rw [Tryz.ntmps78]
 intro hwf
 repeat (first|refine QG ?_|refine QY ?_)
 repeat refine QS ?_
 refine QP ?_
 refine jo rfl (Right_v g hg hl) ?_
 refine QM (by conv=>lhs;simp[-List.map_set,QV,hr]) ?_
 refine QN ?_
 repeat (first|refine QG ?_|refine QY ?_)
 exact jh (l:=[]) hwf ((Ghost.tuple [] [vint 1] (Ghost.nils_list _)).toB _) rfl
structure FromAt (S T:Store) (oo:Nat) (cells:List V) (rows:List (List Nat)) (n:Nat):Prop where
 agree:Agree S T
 arr:RowsAt T S.nx oo [] cells (qQ rows)
 len:rows.length=n
theorem FromAt.nil {S T:Store} {oo n k i:Nat} {cells:List V} {rows:List (List Nat)} (h:FromAt S T oo cells rows n) (hk:k<n) (hr:rows.getD k []=[]) (hc:cells[k]? = some .nils):FromAt S (jaK T oo cells k (.int .i64 (i:Int))) oo (cells.set k (.slice (T.nx+1) 0 1)) (G.push rows k i) n:=by
 have hlt:k<rows.length:=by rw [h.len]; exact hk
 refine ⟨((h.agree.add _).add _).upd h.arr.base _, ?_,by simp [G.push_length,h.len]⟩
 rw [YC hlt,hr]
 refine h.arr.nil ?_ (by simp) hc
 rw [JK hlt,hr]; rfl
theorem FromAt.app {S T:Store} {oo n k i id:Nat} {cells:List V} {rows:List (List Nat)} (h:FromAt S T oo cells rows n) (hk:k<n) (hid:S.nx≤id) (hc:cells[k]? = some (.slice id 0 (rows.getD k []).length)):FromAt S (Yx T oo cells k id ((rows.getD k []).map vnat) (.int .i64 (i:Int))) oo (cells.set k (.slice (T.nx+1) 0 ((rows.getD k []).length+1))) (G.push rows k i) n:=by
 have hlt:k<rows.length:=by rw [h.len]; exact hk
 refine ⟨(((h.agree.add _).del hid).add _).upd h.arr.base _, ?_,by simp [G.push_length,h.len]⟩
 rw [YC hlt]
 have:=h.arr.app (x := .int .i64 (i:Int)) (id:=id) (JK hlt) (by simp) (by simpa using hc)
 simpa using this
theorem From_v (g:List (List Nat)) (hg:G.Ok g) (hr:VPure Tryz.prog 113 [vl (vl vnat) g] (.bool true)):VPure Tryz.prog 78 [vl (vl vnat) g] (.tuple [vl (vl vnat) (G.froms g),vint 0]):=by
 intro S
 refine jb (c:=jf Tryz.f78) Tryz.func78 rfl rfl (by simp [Tryz.ntmps78]) ?_
 rw [Tryz.ntmps78]
 intro hwf
 have hm256:=hg.max
 have hb24:g.length*24≤140737488355328:=by omega
 have hb0:g.length≤140737488355328:=by omega
 repeat (first|refine QG ?_|refine QY ?_)
 repeat refine QS ?_
 refine QP ?_
 refine jo rfl (hr) ?_
 refine QM (by conv=>lhs;simp[-List.map_set,QV]) ?_
 refine QN ?_
 repeat (first|refine QG ?_|refine QY ?_ (r:=by conv=>lhs;simp[-List.map_set,QV,hb24,hb0]))
 have h0:FromAt S (St S [] [some (1,List.replicate g.length V.nils)]) (lid S.nx 0) (List.replicate g.length .nils) (List.replicate g.length []) g.length:=by
  refine ⟨KC, ?_,by simp⟩
  have:qQ (List.replicate g.length [])=List.replicate g.length []:=by simp [qQ]
  rw [this]
  exact RowsAt.start (by simp [jN]) (by simp [lid]) (by rw [qo]; simp [lid]) (by simp)
 have htot:=G.edges_len hg.row 0
 refine vw_gen (fun T=>FromAt S T (lid S.nx 0) (List.replicate g.length .nils) (List.replicate g.length []) g.length) h0 ?_
 intro T h0
 generalize lid S.nx 0=oo at h0 ⊢
 repeat (first|refine QG ?_|refine QY ?_)
 repeat refine QS ?_
 refine jd [4,15,16,17] rfl (fun c σ S' => ∃ (i:Nat) (cells:List V) (rows:List (List Nat)),i≤g.length∧c=g.length-i∧FromAt S S' oo cells rows g.length∧G.pushAll rows (G.edges (g.drop i) i)=G.froms g∧G.total rows+(G.edges (g.drop i) i).length≤128*g.length∧σ=[(4, .slice oo 0 g.length),(15,vl (vl vnat) g),(16,vnat g.length),(17,vnat i)]) g.length ?_ ?_
 ·exact ⟨0,_,_,by omega,rfl,h0,rfl,by simpa [G.total_rep] using htot,by simp [Fr.only,Fr.look,vnat]⟩
 ·rintro c σ T ⟨i,cells,rows,hi,rfl,hF,hp,ht,rfl⟩
  by_cases hlt:i<g.length
  ·have hw1:IntKind.i64.wrap ((i:Int)+1)=(i:Int)+1:=wrap_i64 (by omega) (by omega)
   have hr128:=hg.row _ (List.getElem_mem hlt)
   repeat (first|refine QG ?_|refine QY ?_ (r:=by conv=>lhs;simp[-List.map_set,QV,hlt]))
   rw [G.edges_drop g hlt] at hp ht
   repeat refine QS ?_
   refine jd [4,5,15,16,17,22,23,24] rfl (fun c σ S' => ∃ (k:Nat) (cells:List V) (rows:List (List Nat)),k≤g[i].length∧c=g[i].length-k∧FromAt S S' oo cells rows g.length∧G.pushAll rows ((g[i].drop k).map (·,i)++G.edges (g.drop (i+1)) (i+1))=G.froms g∧G.total rows+((g[i].drop k).map (·,i)++G.edges (g.drop (i+1)) (i+1)).length≤128*g.length∧σ=[(4, .slice oo 0 g.length),(5,vnat i),(15,vl (vl vnat) g),(16,vnat g.length),(17,vnat i),(22,vl vnat g[i]),(23,vnat g[i].length),(24,vnat k)]) g[i].length ?_ ?_
   ·exact ⟨0,_,_,by omega,rfl,hF,hp,by simpa using ht,by simp [Fr.only,Fr.look,vnat]⟩
   ·rintro c σ T ⟨k,cells,rows,hk,rfl,hF,hp,ht,rfl⟩
    by_cases hkl:k<g[i].length
    ·have hw2:IntKind.i64.wrap ((k:Int)+1)=(k:Int)+1:=wrap_i64 (by omega) (by omega)
     rw [G.map_drop hkl] at hp ht
     simp only [List.cons_append,List.length_cons,G.pushAll_cons] at hp ht
     have hgk:g[i][k]<g.length:=hg.elt _ (List.getElem_mem hlt) _ (List.getElem_mem hkl)
     have hkr:g[i][k]<rows.length:=by rw [hF.len]; exact hgk
     have hrow:=G.row_le_total rows g[i][k]
     have htp:=G.total_push (i:=i) hkr
     have hget:=hF.arr.get
     have hool:=hF.arr.lt
     have hcl:cells.length=g.length:=by rw [hF.arr.len,ZM,hF.len]
     have hgkc:g[i][k]<cells.length:=by omega
     have h1:oo<T.nx+1:=by omega
     have h2:oo<T.nx+1+1:=by omega
     rcases hF.arr.row _ _ (JK hkr) with ⟨hc,hr0⟩ | ⟨id,hc,hid,hne,hb,hidl,_⟩
     ·have hr0':rows.getD g[i][k] []=[]:=by simpa using hr0
      obtain ⟨_,hce⟩:=List.getElem?_eq_some_iff.1 hc
      repeat (first|refine QG ?_|refine QY ?_ (r:=by conv=>lhs;simp[-List.map_set,QV,hlt,hkl,hw2]))
      repeat (first|refine QG ?_|refine QY ?_ (r:=by conv=>lhs;simp[-List.map_set,QV,hlt,hkl,hget,hgk,jbY,Yr,KZ,hool,h1,h2,hgkc,hce,hw2]))
      show jv _ _ _ _ _ _ _
      exact again ⟨Nat.sub_lt_sub_left hkl (Nat.lt_succ_self k),k+1,_,_,hkl,rfl,hF.nil (i:=i) hgk hr0' hc,hp,by omega,by simp [Fr.only,Fr.look,vnat]⟩
     ·have hlr:((rows.getD g[i][k] []).map vnat).length=(rows.getD g[i][k] []).length:=by simp
      rw [hlr] at hc
      obtain ⟨_,hce⟩:=List.getElem?_eq_some_iff.1 hc
      have hb8:((rows.getD g[i][k] []).length+1)*8≤140737488355328:=by omega
      have hb1:(rows.getD g[i][k] []).length+1≤140737488355328:=by omega
      have hcf:=hF.app (i:=i) hgk hb hc
      simp only [Yx,List.length_map] at hcf
      generalize hrw:rows.getD g[i][k] []=row at hce hb8 hb1 hid hcf
      have hne':oo≠id:=Ne.symm hne
      repeat (first|refine QG ?_|refine QY ?_ (r:=by conv=>lhs;simp[-List.map_set,QV,hlt,hkl,hw2]))
      repeat (first|refine QG ?_|refine QY ?_ (r:=by conv=>lhs;simp[-List.map_set,QV,hlt,hkl,hget,hgk,jbY,Yr,KZ,Yl,del_nx,hool,h1,h2,hgkc,hce,hw2,hid,hidl,hne',hb8,hb1]))
      show jv _ _ _ _ _ _ _
      exact again ⟨Nat.sub_lt_sub_left hkl (Nat.lt_succ_self k),k+1,_,_,hkl,rfl,hcf,hp,by omega,by simp [Fr.only,Fr.look,vnat]⟩
    ·repeat (first|refine QG ?_|refine QY ?_ (r:=by conv=>lhs;simp[-List.map_set,QV,hlt,hkl,hw1]))
     have:k=g[i].length:=by omega
     subst this
     simp at hp ht
     show jv _ _ _ _ _ _ _
     exact again ⟨Nat.sub_lt_sub_left hlt (Nat.lt_succ_self i),i+1,_,_,hlt,rfl,hF,hp,by simpa using ht,by simp [Fr.only,Fr.look,vnat]⟩
  ·have hig:i=g.length:=by omega
   subst hig
   repeat refine QS ?_
   refine QP ?_
   refine QN ?_
   repeat refine QS ?_
   refine jD rfl rfl rfl ?_
   repeat refine QS ?_
   refine jL 0 rfl rfl ?_
   simp [G.edges,G.pushAll] at hp
   obtain ⟨T2,k1,k2,k3,k4,k5⟩:=hF.arr.freeze (N:=41) (b0:=S.nx) (KJ rows)
   refine ju k1 ?_
   repeat (first|refine QG ?_|refine QY ?_)
   have hfr:=Ghost.freeze1 (len:=g.length) k2 (by simp [V.closed1]) (by simp [qQ,hF.len])
   rw [jaT,hp] at hfr
   have hag:Agree S (T2.del oo):=by
    have h0:=hF.agree
    refine ⟨by show S.nx≤T2.nx; rw [k3]; exact h0.1,fun o ho => ?_⟩
    have hb:=hF.arr.base
    rw [Yl (by omega),k4 o (.inl ho) (by omega)]
    exact h0.2 o ho
   exact Jd hwf ((Ghost.tuple [] [vint 0] hfr).toB _) hag rfl
theorem RFromErr_v (g:List (List Int)) (hg:g.length<2^63) (hl : ∀ l∈g,l.length<2^63) (hr:G.right g=false):VPure Tryz.prog 58 [vl (vl vint) g] (.tuple [vl vnat [],vint 1]):=by
 intro S
 refine jb (c:=jf Tryz.f58) Tryz.func58 rfl rfl (by simp [Tryz.ntmps58]) ?_
 rw [Tryz.ntmps58]
 intro hwf
 repeat (first|refine QG ?_|refine QY ?_)
 repeat refine QS ?_
 refine QP ?_
 refine jo rfl (Zd g hg hl) ?_
 refine QM (by conv=>lhs;simp[-List.map_set,QV,hr]) ?_
 refine QN ?_
 repeat (first|refine QG ?_|refine QY ?_)
 exact jh (l:=[]) hwf ((Ghost.tuple [] [vint 1] (Ghost.nils_list _)).toB _) rfl
theorem RFrom_v (g:List (List Nat)) (hg:G.Ok g) (hr:VPure Tryz.prog 45 [vl (vl vnat) g] (.bool true)):VPure Tryz.prog 58 [vl (vl vnat) g] (.tuple [vl (vl vnat) (G.froms g),vint 0]):=by
 intro S
 refine jb (c:=jf Tryz.f58) Tryz.func58 rfl rfl (by simp [Tryz.ntmps58]) ?_
 rw [Tryz.ntmps58]
 intro hwf
 have hm256:=hg.max
 have hb24:g.length*24≤140737488355328:=by omega
 have hb0:g.length≤140737488355328:=by omega
 repeat (first|refine QG ?_|refine QY ?_)
 repeat refine QS ?_
 refine QP ?_
 refine jo rfl (hr) ?_
 refine QM (by conv=>lhs;simp[-List.map_set,QV]) ?_
 refine QN ?_
 repeat (first|refine QG ?_|refine QY ?_ (r:=by conv=>lhs;simp[-List.map_set,QV,hb24,hb0]))
 have h0:FromAt S (St S [] [some (1,List.replicate g.length V.nils)]) (lid S.nx 0) (List.replicate g.length .nils) (List.replicate g.length []) g.length:=by
  refine ⟨KC, ?_,by simp⟩
  have:qQ (List.replicate g.length [])=List.replicate g.length []:=by simp [qQ]
  rw [this]
  exact RowsAt.start (by simp [jN]) (by simp [lid]) (by rw [qo]; simp [lid]) (by simp)
 have htot:=G.edges_len hg.row 0
 refine vw_gen (fun T=>FromAt S T (lid S.nx 0) (List.replicate g.length .nils) (List.replicate g.length []) g.length) h0 ?_
 intro T h0
 generalize lid S.nx 0=oo at h0 ⊢
 repeat (first|refine QG ?_|refine QY ?_)
 repeat refine QS ?_
 refine jd [0,4,5] rfl (fun c σ S' => ∃ (i:Nat) (cells:List V) (rows:List (List Nat)),i≤g.length∧c=g.length-i∧FromAt S S' oo cells rows g.length∧G.pushAll rows (G.edges (g.drop i) i)=G.froms g∧G.total rows+(G.edges (g.drop i) i).length≤128*g.length∧σ=[(0,vl (vl vnat) g),(4, .slice oo 0 g.length),(5,vnat i)]) g.length ?_ ?_
 ·exact ⟨0,_,_,by omega,rfl,h0,rfl,by simpa [G.total_rep] using htot,by simp [Fr.only,Fr.look,vnat]⟩
 ·rintro c σ T ⟨i,cells,rows,hi,rfl,hF,hp,ht,rfl⟩
  by_cases hlt:i<g.length
  ·have hw1:IntKind.i64.wrap ((i:Int)+1)=(i:Int)+1:=wrap_i64 (by omega) (by omega)
   have hr128:=hg.row _ (List.getElem_mem hlt)
   repeat (first|refine QG ?_|refine QY ?_ (r:=by conv=>lhs;simp[-List.map_set,QV,hlt]))
   rw [G.edges_drop g hlt] at hp ht
   repeat refine QS ?_
   refine jd [0,4,5,6] rfl (fun c σ S' => ∃ (k:Nat) (cells:List V) (rows:List (List Nat)),k≤g[i].length∧c=g[i].length-k∧FromAt S S' oo cells rows g.length∧G.pushAll rows ((g[i].drop k).map (·,i)++G.edges (g.drop (i+1)) (i+1))=G.froms g∧G.total rows+((g[i].drop k).map (·,i)++G.edges (g.drop (i+1)) (i+1)).length≤128*g.length∧σ=[(0,vl (vl vnat) g),(4, .slice oo 0 g.length),(5,vnat i),(6,vnat k)]) g[i].length ?_ ?_
   ·exact ⟨0,_,_,by omega,rfl,hF,hp,by simpa using ht,by simp [Fr.only,Fr.look,vnat]⟩
   ·rintro c σ T ⟨k,cells,rows,hk,rfl,hF,hp,ht,rfl⟩
    refine jaq fun hTwf => ?_
    have hTn:=hTwf.gone T.nx (Nat.le_refl _)
    by_cases hkl:k<g[i].length
    ·have hw2:IntKind.i64.wrap ((k:Int)+1)=(k:Int)+1:=wrap_i64 (by omega) (by omega)
     rw [G.map_drop hkl] at hp ht
     simp only [List.cons_append,List.length_cons,G.pushAll_cons] at hp ht
     have hgk:g[i][k]<g.length:=hg.elt _ (List.getElem_mem hlt) _ (List.getElem_mem hkl)
     have hkr:g[i][k]<rows.length:=by rw [hF.len]; exact hgk
     have hrow:=G.row_le_total rows g[i][k]
     have htp:=G.total_push (i:=i) hkr
     have hget:=hF.arr.get
     have hool:=hF.arr.lt
     have hcl:cells.length=g.length:=by rw [hF.arr.len,ZM,hF.len]
     have hgkc:g[i][k]<cells.length:=by omega
     have h1:oo<T.nx+1:=by omega
     have h2:oo<T.nx+1+1:=by omega
     have g1:(T.add (1,[V.int .i64 (i:Int)])).get (T.nx+1)=none:=by rw [JY,if_neg (by omega)]; exact hTwf.gone _ (by omega)
     rcases hF.arr.row _ _ (JK hkr) with ⟨hc,hr0⟩ | ⟨id,hc,hid,hne,hb,hidl,_⟩
     ·have hr0':rows.getD g[i][k] []=[]:=by simpa using hr0
      obtain ⟨_,hce⟩:=List.getElem?_eq_some_iff.1 hc
      have hzc:(T.del oo).get oo=none:=by rw [zx,if_pos rfl]
      have s0:(T.del oo).Sub T:=Store.Sub.ofDel T oo
      have s1:=s0.add (c:=(1,[V.int .i64 (i:Int)])) hTn
      have t1:=T.sub_refl.shp.add (c:=(1,[V.int .i64 (i:Int)])) hTn
      have s2:=s1.add (c:=(1,[V.int .i64 (i:Int)])) g1
      have t2:=t1.add (c:=(1,[V.int .i64 (i:Int)])) g1
      have hgo:((T.add (1,[V.int .i64 (i:Int)])).add (1,[V.int .i64 (i:Int)])).get oo=some (1,cells):=by rw [KZ (by exact h1),KZ hool]; exact hget
      repeat (first|refine QG ?_|refine QY ?_ (r:=by conv=>lhs;simp[-List.map_set,QV,hlt,hkl]))
      repeat refine QS ?_
      refine jQ (T.del oo) (T) [45] rfl (by kernel_rfl) (by conv=>lhs; reduce) (by conv=>lhs; reduce) (by kernel_rfl) (by kernel_rfl) (⟨s0,T.sub_refl.shp⟩) (by conv=>lhs; simp [-List.map_set,QV,hlt,hkl,hget,hgk,hgkc,hce,hool]) ?_
      refine jg rfl (by conv=>lhs; simp [-List.map_set,QV,Yr]) (⟨s1,t1⟩) ?_
      refine jg rfl (by conv=>lhs; simp [-List.map_set,QV,Yr,jbY]) (⟨s2,t2⟩) ?_
      refine QM (by conv=>lhs;simp[-List.map_set,QV,hgk,hget]) ?_
      refine jg rfl (by conv=>lhs; simp [-List.map_set,QV,hgo,hgk,hgkc]) (⟨s2.upd (c:=(1,cells.set g[i][k] (V.slice (T.nx+1) 0 1))) hzc,t2.upd (c:=(1,cells.set g[i][k] (V.slice (T.nx+1) 0 1))) hgo rfl⟩) ?_
      refine QN ?_
      repeat (first|refine QG ?_|refine QY ?_ (r:=by conv=>lhs;simp[-List.map_set,QV,hw2]))
      show jv _ _ _ _ _ _ _
      exact again ⟨Nat.sub_lt_sub_left hkl (Nat.lt_succ_self k),k+1,_,_,hkl,rfl,hF.nil (i:=i) hgk hr0' hc,hp,by omega,by simp [Fr.only,Fr.look,vnat]⟩
     ·have hlr:((rows.getD g[i][k] []).map vnat).length=(rows.getD g[i][k] []).length:=by simp
      rw [hlr] at hc
      obtain ⟨_,hce⟩:=List.getElem?_eq_some_iff.1 hc
      have hb8:((rows.getD g[i][k] []).length+1)*8≤140737488355328:=by omega
      have hb1:(rows.getD g[i][k] []).length+1≤140737488355328:=by omega
      have hcf:=hF.app (i:=i) hgk hb hc
      simp only [Yx,List.length_map] at hcf
      generalize hrw:rows.getD g[i][k] []=row at hce hb8 hb1 hid hcf
      have hne':oo≠id:=Ne.symm hne
      have hzc:((T.del oo).del id).get oo=none:=by rw [zx,if_neg hne',zx,if_pos rfl]
      have hzi:((T.del oo).del id).get id=none:=by rw [zx,if_pos rfl]
      have hsi:(T.del id).get id=none:=by rw [zx,if_pos rfl]
      have s0:((T.del oo).del id).Sub T:=(Store.Sub.ofDel _ _).trans (Store.Sub.ofDel _ _)
      have t0:(T.del id).Shp T:=(Store.Sub.ofDel _ _).shp
      have s1:=s0.add (c:=(1,[V.int .i64 (i:Int)])) hTn
      have t1:=t0.add (c:=(1,[V.int .i64 (i:Int)])) hTn
      have g2:((T.add (1,[V.int .i64 (i:Int)])).del id).get (T.nx+1)=none:=by rw [zx,if_neg (by omega)]; exact g1
      have s2:=(s1.del hzi).add (c:=(1,row.map vnat++[V.int .i64 (i:Int)])) g2
      have t2:=(t1.del hsi).add (c:=(1,row.map vnat++[V.int .i64 (i:Int)])) g2
      have hgo:(((T.add (1,[V.int .i64 (i:Int)])).del id).add (1,row.map vnat++[V.int .i64 (i:Int)])).get oo=some (1,cells):=by rw [KZ (by exact h1),Yl hne',KZ hool]; exact hget
      have hgid:(T.add (1,[V.int .i64 (i:Int)])).get id=some (1,row.map vnat):=by rw [KZ hidl]; exact hid
      repeat (first|refine QG ?_|refine QY ?_ (r:=by conv=>lhs;simp[-List.map_set,QV,hlt,hkl]))
      repeat refine QS ?_
      refine jQ ((T.del oo).del id) (T.del id) [45] rfl (by kernel_rfl) (by conv=>lhs; reduce) (by conv=>lhs; reduce) (by kernel_rfl) (by kernel_rfl) (⟨s0,t0⟩) (by conv=>lhs; simp [-List.map_set,QV,hlt,hkl,hget,hgk,hgkc,hce,hool,hne',Yl]) ?_
      refine jg rfl (by conv=>lhs; simp [-List.map_set,QV,Yr]) (⟨s1,t1⟩) ?_
      refine jg rfl (by conv=>lhs; simp [-List.map_set,QV,Yr,jbY,hgid,hb8,hb1]) (⟨s2,t2⟩) ?_
      refine QM (by conv=>lhs;simp[-List.map_set,QV,hgk,hget,hne',Yl]) ?_
      refine jg rfl (by conv=>lhs; simp [-List.map_set,QV,hgo,hgk,hgkc]) (⟨s2.upd (c:=(1,cells.set g[i][k] (V.slice (T.nx+1) 0 (row.length+1)))) hzc,t2.upd (c:=(1,cells.set g[i][k] (V.slice (T.nx+1) 0 (row.length+1)))) hgo rfl⟩) ?_
      refine QN ?_
      repeat (first|refine QG ?_|refine QY ?_ (r:=by conv=>lhs;simp[-List.map_set,QV,hw2]))
      show jv _ _ _ _ _ _ _
      exact again ⟨Nat.sub_lt_sub_left hkl (Nat.lt_succ_self k),k+1,_,_,hkl,rfl,hcf,hp,by omega,by simp [Fr.only,Fr.look,vnat]⟩
    ·repeat (first|refine QG ?_|refine QY ?_ (r:=by conv=>lhs;simp[-List.map_set,QV,hlt,hkl,hw1]))
     have:k=g[i].length:=by omega
     subst this
     simp at hp ht
     show jv _ _ _ _ _ _ _
     exact again ⟨Nat.sub_lt_sub_left hlt (Nat.lt_succ_self i),i+1,_,_,hlt,rfl,hF,hp,by simpa using ht,by simp [Fr.only,Fr.look,vnat]⟩
  ·have hig:i=g.length:=by omega
   subst hig
   repeat refine QS ?_
   refine QP ?_
   refine QN ?_
   repeat refine QS ?_
   refine jD rfl rfl rfl ?_
   repeat refine QS ?_
   refine jL 0 rfl rfl ?_
   simp [G.edges,G.pushAll] at hp
   obtain ⟨T2,k1,k2,k3,k4,k5⟩:=hF.arr.freeze (N:=51) (b0:=S.nx) (KJ rows)
   refine ju k1 ?_
   repeat (first|refine QG ?_|refine QY ?_)
   have hfr:=Ghost.freeze1 (len:=g.length) k2 (by simp [V.closed1]) (by simp [qQ,hF.len])
   rw [jaT,hp] at hfr
   have hag:Agree S (T2.del oo):=by
    have h0:=hF.agree
    refine ⟨by show S.nx≤T2.nx; rw [k3]; exact h0.1,fun o ho => ?_⟩
    have hb:=hF.arr.base
    rw [Yl (by omega),k4 o (.inl ho) (by omega)]
    exact h0.2 o ho
   exact Jd hwf ((Ghost.tuple [] [vint 0] hfr).toB _) hag rfl
end Go.Vw

namespace Go.Vw
open Go.Proofs Go.RowKit
set_option maxRecDepth 10000
set_option maxHeartbeats 4000000
theorem Meet_v (S:Store) (rank:List Nat) (near:List Int) (hrl:rank.length=near.length) (o7 o10 or on:Nat) (h7:S.get o7=some (1,[.slice or 0 rank.length])) (hr:S.get or=some (1,rank.map vnat)) (h10:S.get o10=some (1,[.slice on 0 near.length])) (hn:S.get on=some (1,near.map vint))
  (f:Nat) (a b c:Int) (hm:G.meetF rank near f a b=some c):VCalls Tryz.prog 112 [vint a,vint b, .ptr o7 0, .ptr o10 0] S (fun r S'=>r=vint c∧S'=S):=by
 refine jb (c:=jf Tryz.f112) Tryz.func112 rfl rfl (by simp [Tryz.ntmps112]) ?_
 rw [Tryz.ntmps112]
 intro hwf
 have lt : ∀ o c,S.get o=some c→o<S.nx:=by
  intro o c ho
  rcases Nat.lt_or_ge o S.nx with h | h
  ·exact h
  ·rw [hwf.gone o h] at ho; cases ho
 have k7 := @jy S [] [] o7 (lt _ _ h7)
 have kr := @jy S [] [] or (lt _ _ hr)
 have k10 := @jy S [] [] o10 (lt _ _ h10)
 have kn := @jy S [] [] on (lt _ _ hn)
 repeat (first|refine QG ?_|refine QY ?_)
 repeat refine QS ?_
 refine jd [0,1,2,3] rfl (fun n σ S' => ∃ a b:Int,G.meetF rank near n a b=some c∧σ=[(0,vint a),(1,vint b),(2, .ptr o7 0),(3, .ptr o10 0)]∧S'=St S [] []) f ?_ ?_
 ·exact ⟨a,b,hm,by simp [Fr.only,Fr.look,vint],rfl⟩
 ·rintro n σ T ⟨a,b,hm,rfl,rfl⟩
  cases n with
  | zero=>cases hm
  | succ n =>
   simp only [G.meetF] at hm
   by_cases hab:a=b
   ·rw [if_pos hab] at hm
    cases hm
    subst hab
    repeat (first|refine QG ?_|refine QY ?_)
    exact ja hwf rfl rfl
   ·rw [if_neg hab] at hm
    split at hm
    ·rename_i hok
     obtain ⟨a0,a1,b0,b1⟩:=hok
     have ha:a.toNat<near.length:=by omega
     have hb:b.toNat<near.length:=by omega
     have har:a.toNat<rank.length:=by omega
     have hbr:b.toNat<rank.length:=by omega
     have a1':a<(rank.length:Int):=by omega
     have b1':b<(rank.length:Int):=by omega
     have e1:rank.getD a.toNat 0=rank[a.toNat]:=by simp [har]
     have e2:rank.getD b.toNat 0=rank[b.toNat]:=by simp [hbr]
     have e3:near.getD a.toNat 0=near[a.toNat]:=by simp [ha]
     have e4:near.getD b.toNat 0=near[b.toNat]:=by simp [hb]
     rw [e1,e2,e3,e4] at hm
     split at hm
     ·rename_i hlt
      repeat (first|refine QG ?_|refine QY ?_ (r:=by conv=>lhs;simp[-List.map_set,QV,k7,kr,k10,kn,h7,hr,h10,hn,hab,a0,a1,b0,b1,ha,hb,har,hbr,a1',b1',hlt]))
      show jv _ _ _ _ _ _ _
      exact again ⟨Nat.lt_succ_self n,_,_,hm,by simp [Fr.only,Fr.look,vint],rfl⟩
     ·rename_i hlt
      repeat (first|refine QG ?_|refine QY ?_ (r:=by conv=>lhs;simp[-List.map_set,QV,k7,kr,k10,kn,h7,hr,h10,hn,hab,a0,a1,b0,b1,ha,hb,har,hbr,a1',b1',hlt]))
      show jv _ _ _ _ _ _ _
      exact again ⟨Nat.lt_succ_self n,_,_,hm,by simp [Fr.only,Fr.look,vint],rfl⟩
    ·cases hm
end Go.Vw

namespace Go.Vw
open Go.Proofs Go.RowKit
set_option maxRecDepth 10000
set_option maxHeartbeats 8000000
theorem gOrd_v (g:List (List Nat)) (hg:G.Ok g):VPure Tryz.prog 110 [vl (vl vnat) g] (vl vnat (G.order g)):=by
 obtain ⟨t,h1,h2,h3⟩:=G.order_ends hg
 have hp:=hg.pos
 have hm:=hg.max
 have e:g.length=(g.length-1)+1:=by omega
 have:=gOrder_v g hg (g.length-1) t (by rw [←e]; exact h1) (by omega)
 simpa [G.order,h1] using this
theorem NearestErr_v (g:List (List Int)) (hg:g.length<2^63) (hl : ∀ l∈g,l.length<2^63) (hr:G.right g=false):VPure Tryz.prog 77 [vl (vl vint) g] (.tuple [vl vint [],vint 1]):=by
 intro S
 refine jb (c:=jf Tryz.f77) Tryz.func77 rfl rfl (by simp [Tryz.ntmps77]) ?_
 rw [Tryz.ntmps77]
 intro hwf
 repeat (first|refine QG ?_|refine QY ?_)
 repeat refine QS ?_
 refine QP ?_
 refine jo rfl (FromErr_v g hg hl hr) ?_
 refine QM (by conv=>lhs;simp[-List.map_set,QV]) ?_
 refine QN ?_
 repeat (first|refine QG ?_|refine QY ?_)
 exact jh (l:=[]) hwf ((Ghost.tuple [] [vint 1] (Ghost.nils_list _)).toB _) rfl
def KI (S:Store) (rank:List Nat) (near:List Int):Store :=
 St S [] [some (1,rank.map vnat),some (1,[.slice (lid S.nx 0) 0 rank.length]),some (1,[.int .i64 (-1)]),some (1,near.map vint),some (1,[.slice (lid S.nx 3) 0 near.length])]
theorem Nearest_v (g:List (List Nat)) (hg:G.Ok g) (hr:VPure Tryz.prog 113 [vl (vl vnat) g] (.bool true)) (l:List Nat) (hl:G.order g=l) (hl1:1≤l.length) (hlt : ∀ x∈l,x<g.length) (fr:List (List Nat)) (hfr:G.froms g=fr) (hfl:fr.length=g.length) (hfe : ∀ r∈fr, ∀ x∈r,x<g.length) (hfm : ∀ r∈fr,r.length≤2^20)
  (hll:l.length≤g.length) (F K:Nat) (nearF:List Int) (hchk:G.chk (G.rankTo g.length l l.length) fr F l.tail K ((List.replicate g.length (-1)).set 0 0)=some nearF) :
  VPure Tryz.prog 77 [vl (vl vnat) g] (.tuple [vl vint (nearF.set 0 (-1)),vint 0]):=by
 intro S
 refine jb (c:=jf Tryz.f77) Tryz.func77 rfl rfl (by simp [Tryz.ntmps77]) ?_
 rw [Tryz.ntmps77]
 intro hwf
 have hp:0<g.length:=hg.pos
 have hm256:=hg.max
 have hb8:g.length*8≤140737488355328:=by omega
 have hb0:g.length≤140737488355328:=by omega
 repeat refine QS ?_
 refine QP ?_
 refine QN ?_
 repeat refine QS ?_
 refine QP ?_
 refine jo rfl (hfr▸From_v g hg hr) ?_
 refine QM (by conv=>lhs;simp[-List.map_set,QV]) ?_
 refine QN ?_
 repeat (first|refine QG ?_|refine QY ?_)
 repeat refine QS ?_
 refine QP ?_
 refine jo rfl (hl▸gOrd_v g hg) ?_
 refine QM (by conv=>lhs;simp[-List.map_set,QV]) ?_
 refine QN ?_
 repeat (first|refine QG ?_|refine QY ?_ (r:=by conv=>lhs;simp[-List.map_set,QV,hb8,hb0]))
 repeat refine QS ?_
 refine jd [0,4,6,7,31,32,33] rfl (fun c σ S' => ∃ k:Nat,k≤l.length∧c=l.length-k∧σ=[(0,vl (vl vnat) g),(4,vl (vl vnat) fr),(6,vl vnat l),(7, .ptr (lid S.nx 1) 0),(31,vl vnat l),(32,vnat l.length),(33,vnat k)]∧S'=St S [] [some (1,(G.rankTo g.length l k).map vnat),some (1,[.slice (lid S.nx 0) 0 g.length])]) l.length ?_ ?_
 ·exact ⟨0,by omega,rfl,by simp [Fr.only,Fr.look,vnat],by simp [G.rankTo,vnat]⟩
 ·rintro c σ T ⟨k,hk,rfl,rfl,rfl⟩
  have hrl:=G.rankTo_len g.length l k
  by_cases hkt:k<l.length
  ·have hw:IntKind.i64.wrap ((k:Int)+1)=(k:Int)+1:=wrap_i64 (by omega) (by omega)
   have hlk:=hlt _ (List.getElem_mem hkt)
   have hst:G.rankTo g.length l (k+1)=(G.rankTo g.length l k).set l[k] k:=by simp [G.rankTo,hkt]
   repeat (first|refine QG ?_|refine QY ?_ (r:=by conv=>lhs;simp[-List.map_set,QV,hkt,hlk,hrl]))
   show jv _ _ _ _ _ _ _
   exact again ⟨Nat.sub_lt_sub_left hkt (Nat.lt_succ_self k),k+1,hkt,rfl,by simp [Fr.only,Fr.look,vnat,hw],by rw [hst]⟩
  ·have hkl:k=l.length:=by omega
   subst hkl
   repeat (first|refine QG ?_|refine QY ?_ (r:=by conv=>lhs;simp[-List.map_set,QV,hkt]))
   repeat refine QS ?_
   refine QP ?_
   refine qh rfl (Repeat_v _ (lid S.nx 2) (-1) g.length hp (by omega) ?_) ?_
   ·simp [jN]
   rintro X T ⟨rfl,rfl⟩
   generalize hrank:G.rankTo g.length l l.length=rank at hchk hrl ⊢
   refine QM (by conv=>lhs;simp[-List.map_set,QV]) ?_
   refine QN ?_
   have hn0:((List.replicate g.length (-1:Int)).set 0 0).length=g.length:=by simp
   repeat (first|refine QG ?_|refine QY ?_ (r:=by conv=>lhs;simp[-List.map_set,QV,hp]))
   repeat refine QS ?_
   refine jd [0,4,6,7,10,11,12] rfl (fun c σ S' => ∃ near:List Int,near.length=g.length∧((c=0∧near=nearF∧σ=[(0,vl (vl vnat) g),(4,vl (vl vnat) fr),(6,vl vnat l),(7, .ptr (lid S.nx 1) 0),(10, .ptr (lid S.nx 4) 0),(11, .func 112 [.ptr (lid S.nx 1) 0, .ptr (lid S.nx 4) 0]),(12, .bool false)])∨(G.chk rank fr F l.tail c near=some nearF∧σ=[(0,vl (vl vnat) g),(4,vl (vl vnat) fr),(6,vl vnat l),(7, .ptr (lid S.nx 1) 0),(10, .ptr (lid S.nx 4) 0),(11, .func 112 [.ptr (lid S.nx 1) 0, .ptr (lid S.nx 4) 0]),(12, .bool true)]))∧S'=KI S rank near) K ?_ ?_
   ·refine ⟨_,hn0, .inr ⟨hchk,by simp [Fr.only,Fr.look,vnat]⟩, ?_⟩
    simp [KI,hrl,vint,List.map_set]
   ·rintro c σ T ⟨near,hnl,⟨rfl,rfl,rfl⟩ | ⟨hc,rfl⟩,rfl⟩
    ·have hp':0<near.length:=by omega
     unfold KI
     repeat (first|refine QG ?_|refine QY ?_ (r:=by conv=>lhs;simp[-List.map_set,QV,hp']))
     have hfz:=frz1 (B:=S) (u:=[]) (l:=[some (1,rank.map vnat),some (1,[.slice (lid S.nx 0) 0 rank.length]),some (1,[.int .i64 (-1)]),some (1,(near.set 0 (-1)).map vint),some (1,[.slice (lid S.nx 3) 0 near.length])]) (k:=3) (len:=near.length) (by simp) rfl (jF vint (fun _=>rfl) _) (by simp)
     exact jh hwf ((Ghost.tuple [] [vint 0] hfz).toB _) rfl
    ·cases c with
     | zero=>cases hc
     | succ c =>
      simp only [G.chk] at hc
      obtain ⟨s,hsw,hc⟩:=Option.bind_eq_some_iff.1 hc
      have hl1':(1:Int)≤(l.length:Int):=by omega
      repeat (first|refine QG ?_|refine QY ?_ (r:=by conv=>lhs;simp[-List.map_set,QV,hl1']))
      repeat refine QS ?_
      refine jd [0,4,6,7,10,11,12,52,53,54] rfl (fun c σ S' => ∃ (k:Nat) (near:List Int) (t:Bool),near.length=g.length∧k≤l.tail.length∧c=l.tail.length-k∧G.sweepF rank fr F (l.tail.drop k) near t=some s∧σ=[(0,vl (vl vnat) g),(4,vl (vl vnat) fr),(6,vl vnat l),(7, .ptr (lid S.nx 1) 0),(10, .ptr (lid S.nx 4) 0),(11, .func 112 [.ptr (lid S.nx 1) 0, .ptr (lid S.nx 4) 0]),(12, .bool t),(52,vl vnat l.tail),(53,vnat (l.length-1)),(54,vnat k)]∧S'=KI S rank near) l.tail.length ?_ ?_
      ·exact ⟨0,near,false,hnl,by omega,rfl,hsw,by simp [Fr.only,Fr.look,vnat],rfl⟩
      ·rintro c' σ T ⟨k,near,t,hnl,hk,rfl,hsw,rfl,rfl⟩
       have htl:l.tail.length=l.length-1:=by simp
       by_cases hkt:k<l.tail.length
       ·have hw:IntKind.i64.wrap ((k:Int)+1)=(k:Int)+1:=wrap_i64 (by omega) (by omega)
        have hkt':k<l.length-1:=by omega
        have hk1:k+1<l.length:=by omega
        have hel:l[k+1]=l.tail[k]:=by simp
        rw [List.drop_eq_getElem_cons hkt,G.sweepF] at hsw
        obtain ⟨b,hpk,hsw⟩:=Option.bind_eq_some_iff.1 hsw
        have hlk:=hlt _ (List.mem_of_mem_tail (List.getElem_mem hkt))
        generalize hn:l.tail[k]=n at hpk hsw hlk hel
        have hnf:n<fr.length:=by omega
        have hfn:fr.getD n []=fr[n]:=by simp [hnf]
        rw [hfn] at hpk
        have hmr:=hfe _ (List.getElem_mem hnf)
        have hmm:=hfm _ (List.getElem_mem hnf)
        have hnn:n<near.length:=by omega
        have hng:near.getD n 0=near[n]:=by simp [hnn]
        rw [hng] at hsw
        unfold KI
        repeat (first|refine QG ?_|refine QY ?_ (r:=by conv=>lhs;simp[-List.map_set,QV,hkt',hk1,hel,hnf]))
        repeat refine QS ?_
        refine jd [0,4,6,7,10,11,12,14,15,52,53,54,61,62,63] rfl (fun c σ S' => ∃ (j:Nat) (best:Int),j≤fr[n].length∧c=fr[n].length-j∧G.pickF rank near F (fr[n].drop j) best=some b∧σ=[(0,vl (vl vnat) g),(4,vl (vl vnat) fr),(6,vl vnat l),(7, .ptr (lid S.nx 1) 0),(10, .ptr (lid S.nx 4) 0),(11, .func 112 [.ptr (lid S.nx 1) 0, .ptr (lid S.nx 4) 0]),(12, .bool t),(14,vnat n),(15,vint best),(52,vl vnat l.tail),(53,vnat (l.length-1)),(54,vnat k),(61,vl vnat fr[n]),(62,vnat fr[n].length),(63,vnat j)]∧S'=KI S rank near) fr[n].length ?_ ?_
        ·exact ⟨0, -1,by omega,rfl,hpk,by simp [Fr.only,Fr.look,vnat,vint],rfl⟩
        ·rintro c'' σ T ⟨j,best,hj,rfl,hpk,rfl,rfl⟩
         by_cases hjt:j<fr[n].length
         ·have hwj:IntKind.i64.wrap ((j:Int)+1)=(j:Int)+1:=wrap_i64 (by omega) (by omega)
          rw [List.drop_eq_getElem_cons hjt,G.pickF] at hpk
          have hpg:=hmr _ (List.getElem_mem hjt)
          generalize hp':fr[n][j]=p at hpk hpg
          have hpn:p<near.length:=by omega
          have hpd:near.getD p 0=near[p]:=by simp [hpn]
          rw [hpd] at hpk
          unfold KI
          by_cases h1:near[p]<0
          ·rw [if_pos h1] at hpk
           repeat (first|refine QG ?_|refine QY ?_ (r:=by conv=>lhs;simp[-List.map_set,QV,hjt,hp',hpn,h1]))
           show jv _ _ _ _ _ _ _
           exact again ⟨Nat.sub_lt_sub_left hjt (Nat.lt_succ_self j),j+1,best,hjt,rfl,hpk,by simp [Fr.only,Fr.look,vnat,vint,hwj],rfl⟩
          ·rw [if_neg h1] at hpk
           by_cases h2:best<0
           ·rw [if_pos h2] at hpk
            repeat (first|refine QG ?_|refine QY ?_ (r:=by conv=>lhs;simp[-List.map_set,QV,hjt,hp',hpn,h1,h2]))
            show jv _ _ _ _ _ _ _
            exact again ⟨Nat.sub_lt_sub_left hjt (Nat.lt_succ_self j),j+1,p,hjt,rfl,hpk,by simp [Fr.only,Fr.look,vnat,vint,hwj],rfl⟩
           ·rw [if_neg h2] at hpk
            obtain ⟨q,hq,hpk⟩:=Option.bind_eq_some_iff.1 hpk
            repeat (first|refine QG ?_|refine QY ?_ (r:=by conv=>lhs;simp[-List.map_set,QV,hjt,hp',hpn,h1,h2]))
            repeat refine QS ?_
            refine QP ?_
            refine zz rfl rfl rfl (Meet_v _ rank near (by omega) (lid S.nx 1) (lid S.nx 4) (lid S.nx 0) (lid S.nx 3) ?_ ?_ ?_ ?_ F best p q hq) ?_
            ·simp [jN]
            ·simp [jN]
            ·simp [jN]
            ·simp [jN]
            rintro X T ⟨rfl,rfl⟩
            refine QM (by conv=>lhs;simp[-List.map_set,QV]) ?_
            refine QN ?_
            repeat (first|refine QG ?_|refine QY ?_)
            show jv _ _ _ _ _ _ _
            exact again ⟨Nat.sub_lt_sub_left hjt (Nat.lt_succ_self j),j+1,q,hjt,rfl,hpk,by simp [Fr.only,Fr.look,vnat,vint,hwj],rfl⟩
         ·have hje:j=fr[n].length:=by omega
          subst hje
          rw [List.drop_length,G.pickF] at hpk
          cases hpk
          unfold KI
          cases t with
          | true =>
           repeat (first|refine QG ?_|refine QY ?_ (r:=by conv=>lhs;simp[-List.map_set,QV,hjt,hnn]))
           show jv _ _ _ _ _ _ _
           exact again ⟨Nat.sub_lt_sub_left hkt (Nat.lt_succ_self k),k+1,near.set n b,true,by simp [hnl],hkt,rfl,by simpa using hsw,by simp [Fr.only,Fr.look,vnat,hw],by simp [KI,vint]⟩
          | false =>
           repeat (first|refine QG ?_|refine QY ?_ (r:=by conv=>lhs;simp[-List.map_set,QV,hjt,hnn]))
           show jv _ _ _ _ _ _ _
           exact again ⟨Nat.sub_lt_sub_left hkt (Nat.lt_succ_self k),k+1,near.set n b, !decide (near[n]=b),by simp [hnl],hkt,rfl,by simpa using hsw,by simp [Fr.only,Fr.look,vnat,hw],by simp [KI,vint]⟩
       ·have hkl:k=l.tail.length:=by omega
        subst hkl
        rw [List.drop_length,G.sweepF] at hsw
        cases hsw
        have hkt' : ¬ l.tail.length<l.length-1:=by omega
        repeat (first|refine QG ?_|refine QY ?_ (r:=by conv=>lhs;simp[-List.map_set,QV,hkt']))
        cases t with
        | true =>
         show jv _ _ _ _ _ _ _
         exact again ⟨Nat.lt_succ_self c,near,hnl, .inr ⟨hc,by simp [Fr.only,Fr.look]⟩,rfl⟩
        | false =>
         show jv _ _ _ _ _ _ _
         exact again ⟨Nat.succ_pos c,near,hnl, .inl ⟨rfl,by simpa using hc,by simp [Fr.only,Fr.look]⟩,rfl⟩
end Go.Vw
