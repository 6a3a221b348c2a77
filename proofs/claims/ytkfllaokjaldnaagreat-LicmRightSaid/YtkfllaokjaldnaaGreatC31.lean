import Derived.Test.YtkfllaokjaldnaaGreatC29
import Derived.Test.YtkfllaokjaldnaaGreatC30
import Derived.Test.YtkfllaokjaldnaaGreatC27
import Derived.Test.YtkfllaokjaldnaaGreatC20
import Derived.Test.YtkfllaokjaldnaaGreatC13
import Derived.Test.YtkfllaokjaldnaaGreatC28
/-
  Part of the proof (texts LSuccG, LHomeP, LHome, LClo, LRunH).
-/
set_option linter.unusedVariables false
set_option linter.unusedSimpArgs false
namespace Go.Vw
open Go.Proofs Go.RowKit
set_option maxRecDepth 10000
set_option maxHeartbeats 4000000
theorem ledge_row {T:Store} {e:Ss.Edge} {r:List V} {ii:List Nat} (h:OwL T KC r (ji e).cells ii) : ∃ oa,r=[vint e.to, .slice oa 0 e.args.length]∧ii=[oa]∧T.get oa=some (1,e.args.map vint):=by
 rw [zq] at h
 cases h with
 | c h1 h =>
  obtain ⟨o,rfl,h2,h3⟩:=row_row (l:=e.args) (by rw [WA]; exact h)
  exact ⟨o,rfl,h2,h3⟩
section
variable {S H:Store} {hs:List Nat} {ob:Nat} {bs:List Ss.Block} {T:Store} {rs:List (List V)} {ids:List Nat} {i:Nat}
theorem BInv.row (h:BInv S H hs ob bs T rs ids) (hw:T.Wf) (hi:i<bs.length) : ∃ (op oc oe:Nat) (rc re:List (List V)),
  (rs.flatten.drop (i*6)).take 6=[.slice op 0 bs[i].params.length, .slice oc 0 bs[i].code.length,vint bs[i].term.kind,vint bs[i].term.arg, .slice oe 0 bs[i].term.to.length,vl vint bs[i].term.args]∧(i+1)*6≤rs.flatten.length∧rs.flatten[i*6+1]? = some (.slice oc 0 bs[i].code.length) ∧
  T.get op=some (1,bs[i].params.map vint)∧T.get oc=some (4,rc.flatten)∧(∀ r∈rc,r.length=4)∧rc.length=bs[i].code.length∧T.get oe=some (2,re.flatten)∧re.length=bs[i].term.to.length∧re.flatten.length=bs[i].term.to.length*2 ∧
  (∀ (k:Nat) (hk:k<bs[i].term.to.length), ∃ oa,(re.flatten.drop (k*2)).take 2=[vint bs[i].term.to[k].to, .slice oa 0 bs[i].term.to[k].args.length]) ∧
  ∀ (k:Nat) (hk:k<bs[i].code.length), ∃ oa ou,(rc.flatten.drop (k*4)).take 4=[vint bs[i].code[k].op,vu bs[i].code[k].n, .slice oa 0 bs[i].code[k].args.length, .slice ou 0 bs[i].code[k].outs.length]∧T.get oa=some (1,bs[i].code[k].args.map vint)∧T.get ou=some (1,bs[i].code[k].outs.map vint):=by
 obtain ⟨r1,r2,i1,i2,op,oc,oe,rc,ce,ip,ic,ie,rfl,h6,hl,hop,hoc,hrc,hoe,hie,rfl,hnd,hput⟩:=h.at hw hi
 obtain ⟨re,rfl,hrl,hre⟩:=jbr (enc:=ji) (tys:=KC) (fun x=>by rw [zq]; rfl) hie
 have he2:=hre.len
 have hc4:=hrc.len
 have hall:=h.own.len
 have hfl:=qS hall.2
 have hil:i<(r1++[V.slice op 0 bs[i].params.length, .slice oc 0 bs[i].code.length,vint bs[i].term.kind,vint bs[i].term.arg, .slice oe 0 bs[i].term.to.length,vl vint bs[i].term.args]::r2).length:=by rw [hall.1]; exact hi
 refine ⟨op,oc,oe,rc,re, ?_, ?_,YS h6 hl rfl,hop,hoc,hc4.2,hc4.1,hoe,he2.1, ?_,fun k hk => ?_,fun k hk => ?_⟩
 ·have:=YR (m:=6) hall.2 hil
  rw [this]
  subst hl
  simp
 ·rw [hfl]
  have:blkD.length=6:=rfl
  rw [this]
  exact Nat.mul_le_mul_right 6 hil
 ·rw [qS he2.2,he2.1]; rfl
 ·obtain ⟨e1,e,e2,j1,jj,j2,rfl,hel,rfl,hrow,hep⟩:=hre.at (List.getElem?_eq_getElem hk)
  obtain ⟨oa,rfl,rfl,hoa⟩:=ledge_row hrow
  have:=YR (m:=2) he2.2 (k:=k) (by rw [he2.1]; exact hk)
  refine ⟨oa, ?_⟩
  rw [this]
  subst hel
  simp
 ·obtain ⟨e1,e,e2,j1,jj,j2,rfl,hel,rfl,hrow,hep⟩:=hrc.at (List.getElem?_eq_getElem hk)
  obtain ⟨oa,ou,rfl,rfl,hoa,hou⟩:=ins_row hrow
  have:=YR (m:=4) hc4.2 (k:=k) (by rw [hc4.1]; exact hk)
  refine ⟨oa,ou, ?_,hoa,hou⟩
  rw [this]
  subst hel
  simp
end
theorem SuccG_v {S H:Store} {hs:List Nat} {ob:Nat} {bs:List Ss.Block} {T:Store} {rs:List (List V)} {ids:List Nat} (hI:BInv S H hs ob bs T rs ids) {fi fo:List Int} {ot nt:Nat}
  (cs' : ∀ l,VCalls Tryz.prog 64 [.agg [vl vint fi,vl vint fo, .slice ot 0 nt, .slice ob 0 bs.length]] (St T [] l) fun r T'=>r = .bool true∧T'=St T [] l) (hbl:bs.length≤4096) (htl : ∀ b∈bs,b.term.to.length≤4096) :
  VCalls Tryz.prog 26 [.agg [vl vint fi,vl vint fo, .slice ot 0 nt, .slice ob 0 bs.length]] T fun r T'=>r=vl (vl vint) (Ss.succs bs)∧T'=T:=by
 refine jb (c:=jf Tryz.f26) Tryz.func26 rfl rfl (by simp [Tryz.ntmps26]) ?_
 rw [Tryz.ntmps26]
 intro hwf
 have hcb:=hI.cb
 have lb:=jS hwf hcb
 have bb:=fun u l => @ju T u l ob lb
 repeat (first|refine QG ?_|refine QY ?_)
 repeat refine QS ?_
 refine QP ?_
 refine qd rfl (cs' _) ?_
 rintro X T9 ⟨rfl,rfl⟩
 refine QM (by conv=>lhs;simp[-List.map_set,QV]) ?_
 refine QN ?_
 repeat refine QS ?_
 refine jF rfl rfl rfl ?_
 repeat refine QS ?_
 refine jB rfl ?_
 repeat refine QS ?_
 refine QP ?_
 refine QN ?_
 refine zd 3 1 rfl (by conv=>lhs; simp [Fr.set]) ?_
 repeat (first|refine QG ?_|refine QY ?_ (r:=by conv=>lhs;simp[-List.map_set,QV,bb,hcb]))
 refine jO [3,13,14,15] (by conv=>lhs; simp [Fr.only,Fr.look]) ?_
 have bP:=fun ks=>zA (n:=T.nx) ks lb
 have bT:=fun ks=>qX (n:=T.nx) ks lb
 refine zQ [1] hwf (by decide) (by simp [-List.map_set,bP,bT]) (by conv=>lhs; simp [-List.map_set,bP,bT]) (by conv=>lhs; simp [-List.map_set,bP,bT]) (by conv=>lhs; simp [-List.map_set,bP,bT]) ?_
 repeat refine QS ?_
 refine je [3,13,14,15] rfl (fun c σ S' => ∃ (k:Nat) (out:List (List Int)),k≤bs.length∧c=bs.length-k∧out.length=k∧out=(bs.take k).map Ss.rowOf∧σ=[(3, .slice (lid T.nx 0) 0 k),(13, .slice ob 0 bs.length),(14,vnat bs.length),(15,vnat k)]∧S'=St T [] [some (1,out.map (vl vint))]) bs.length ?_ ?_
 ·exact ⟨0,[],by omega,rfl,rfl,by simp,by simp [Fr.only],by simp⟩
 ·rintro c σ T9 ⟨k,out,hk,rfl,hol,ho,rfl,rfl⟩
  by_cases hkt:k<bs.length
  ·have hw:=jo hkt (by omega)
   obtain ⟨op,oc,oe,rc,re,hrow,hlen,_,_,_,_,_,hge,hrel,hrel2,hre,_⟩:=hI.row hwf hkt
   have htl':=htl _ (List.getElem_mem hkt)
   obtain ⟨⟨ps,code,⟨tk,ta,to,az⟩⟩,hx⟩ : ∃ b,bs[k]=b:=⟨_,rfl⟩
   rw [hx] at htl'
   simp only [hx] at hrow hrel hrel2 hre
   simp only at htl'
   have le:=jS hwf hge
   have be:=fun u l => @ju T u l oe le
   have htk:bs.take (k+1)=bs.take k++[⟨ps,code,⟨tk,ta,to,az⟩⟩]:=by rw [List.take_add_one,List.getElem?_eq_getElem hkt,hx]; rfl
   obtain ⟨cells,hcells⟩ : ∃ c,c=rs.flatten:=⟨_,rfl⟩
   obtain ⟨ce,hce⟩ : ∃ c,c=re.flatten:=⟨_,rfl⟩
   rw [←hcells] at hcb hrow hlen
   rw [←hce] at hge hrel2 hre
   have hl2:k*6+6≤cells.length:=by omega
   repeat refine QS ?_
   refine QP ?_ (r:=by conv=>lhs;simp[-List.map_set,QV,hkt])
   refine QN ?_
   repeat refine QS ?_
   refine jC rfl rfl rfl ?_
   repeat refine QS ?_
   refine jB rfl ?_
   repeat refine QS ?_
   refine jH 1 rfl rfl ?_
   repeat refine QS ?_
   refine QP ?_ (r:=by conv=>lhs;simp[-List.map_set,QV,hkt,bb,hcb,hrow,hl2])
   refine QN ?_
   have eP:=fun ks=>zA (n:=T.nx) ks le
   have eT:=fun ks=>qX (n:=T.nx) ks le
   repeat refine QS ?_
   refine QP ?_
   refine QN ?_
   refine zd 6 1 rfl (by conv=>lhs; simp [Fr.set]) ?_
   repeat (first|refine QG ?_|refine QY ?_ (r:=by conv=>lhs;simp[-List.map_set,QV,be,hge]))
   refine jO [3,6,13,14,15,21,22,23] (by conv=>lhs; simp [Fr.only,Fr.look]) ?_
   refine zQ [0,2] hwf (by decide) (by simp [-List.map_set,bP,bT,eP,eT]) (by conv=>lhs; simp [-List.map_set,bP,bT,eP,eT]) (by conv=>lhs; simp [-List.map_set,bP,bT,eP,eT]) (by conv=>lhs; simp [-List.map_set,bP,bT,eP,eT]) ?_
   repeat refine QS ?_
   refine je [3,6,13,14,15,21,22,23] rfl (fun c σ S' => ∃ (j:Nat) (r:List Int),j≤to.length∧c=to.length-j∧r.length=j∧r=(to.take j).map Ss.Edge.to∧σ=[(3, .slice (lid T.nx 0) 0 k),(6, .slice (lid T.nx 1) 0 j),(13, .slice ob 0 bs.length),(14,vnat bs.length),(15,vnat k),(21, .slice oe 0 to.length),(22,vnat to.length),(23,vnat j)]∧S'=St T [] [some (1,out.map (vl vint)),some (1,r.map vint)]) to.length ?_ ?_
   ·exact ⟨0,[],by omega,rfl,rfl,by simp,by simp [Fr.only],by simp⟩
   ·rintro c σ T9 ⟨j,r,hj,rfl,hrl,hr,rfl,rfl⟩
    by_cases hjt:j<to.length
    ·have hwj:=jo hjt (by omega)
     have hb:(j+1)*8≤140737488355328:=by omega
     have hb':j+1≤140737488355328:=by omega
     obtain ⟨oa,hre2⟩:=hre j hjt
     have hl3:j*2+2≤ce.length:=by omega
     obtain ⟨⟨xt,xa⟩,hx2⟩ : ∃ b,to[j]=b:=⟨_,rfl⟩
     rw [hx2] at hre2
     simp only at hre2
     have htj:to.take (j+1)=to.take j++[⟨xt,xa⟩]:=by rw [List.take_add_one,List.getElem?_eq_getElem hjt,hx2]; rfl
     repeat (first|refine QG ?_|refine QY ?_ (r:=by conv=>lhs;simp[-List.map_set,QV,hjt,be,hge,hre2,hl3,hb,hb',hrl]))
     refine qi [0,4] (by conv=>lhs; simp [Fr.only]) hwf (by decide) (by simp [-List.map_set,bP,bT,eP,eT]) (by conv=>lhs; simp [-List.map_set,bP,bT,eP,eT]) (by conv=>lhs; simp [-List.map_set,bP,bT,eP,eT]) (by conv=>lhs; simp [-List.map_set,bP,bT,eP,eT]) ⟨?_,j+1,r++[xt],hjt,rfl,by simp [hrl],by rw [htj,List.map_append,hr]; rfl,by simp [hwj],by simp⟩
     omega
    ·have hje:j=to.length:=by omega
     subst hje
     rw [List.take_length] at hr
     have hb:(k+1)*24≤140737488355328:=by omega
     have hb':k+1≤140737488355328:=by omega
     repeat refine QS ?_
     refine QP ?_ (r:=by conv=>lhs;simp[-List.map_set,QV,hjt])
     refine QN ?_
     repeat refine QS ?_
     refine jF rfl rfl rfl ?_
     repeat refine QS ?_
     refine jN 2 rfl rfl ?_
     refine jk 6 rfl ((frz1 (k:=1) (len:=to.length) (by simp) (by rfl) (jI vint (fun _=>rfl) _) (by simpa using hrl))) (by conv=>lhs; simp [Fr.set]) ?_
     simp only [List.set_cons_succ,List.set_cons_zero]
     repeat (first|refine QG ?_|refine QY ?_ (r:=by conv=>lhs;simp[-List.map_set,QV,hb,hb',hol]))
     refine qi [3] (by conv=>lhs; simp [Fr.only]) hwf (by decide) (by simp [-List.map_set,bP,bT,eP,eT]) (by conv=>lhs; simp [-List.map_set,bP,bT,eP,eT]) (by conv=>lhs; simp [-List.map_set,bP,bT,eP,eT]) (by conv=>lhs; simp [-List.map_set,bP,bT,eP,eT]) ⟨?_,k+1,out++[r],hkt,rfl,by simp [hol],by rw [htk,List.map_append, ←ho,hr]; rfl,by simp [hw],by simp [vl]⟩
     omega
  ·have hke:k=bs.length:=by omega
   subst hke
   rw [List.take_length] at ho
   repeat (first|refine QG ?_|refine QY ?_ (r:=by conv=>lhs;simp[-List.map_set,QV,hkt]))
   rw [Ss.succs, ←ho]
   exact jh hwf ((frz1 (by simp) (by rfl) (jI (vl vint) (fun _=>rfl) _) (by simpa using hol)).toB _) rfl
end Go.Vw

namespace Ss
/-! ### Where each value is made: the table -/
def hmPut (i:Int) (out:List Int) (l:List Int):List Int:=l.foldl (fun o v=>o.set v.toNat i) out
def hmCode (i:Int) (out:List Int) (code:List Ins):List Int:=code.foldl (fun o x=>hmPut i o x.outs) out
def hmBlk (i:Int) (out:List Int) (b:Block):List Int:=hmCode i (hmPut i out b.params) b.code
def hmAll:Nat→List Block→List Int→List Int
 | _,[],o=>o
 | i,b::r,o=>hmAll (i+1) r (hmBlk (i:Int) o b)
def homesI (f:Fn):List Int:=hmAll 0 f.blocks (List.replicate f.types.length 0)
theorem Ki (i:Int) : ∀ (l out:List Int),(hmPut i out l).length=out.length
 | [],out=>rfl
 | v::l,out=>by
  have:=Ki i l (out.set v.toNat i)
  rw [List.length_set] at this
  exact this
theorem jaP (i:Int) : ∀ (l:List Ins) (out:List Int),(hmCode i out l).length=out.length
 | [],out=>rfl
 | x::l,out=>(jaP i l (hmPut i out x.outs)).trans (Ki i x.outs out)
theorem hmBlk_len (i:Int) (out:List Int) (b:Block):(hmBlk i out b).length=out.length:=(jaP i _ _).trans (Ki i _ _)
theorem hmAll_len : ∀ (bs:List Block) (i:Nat) (out:List Int),(hmAll i bs out).length=out.length
 | [],_,_=>rfl
 | b::r,i,out=>(hmAll_len r (i+1) _).trans (hmBlk_len _ _ _)
theorem homesI_len (f:Fn):(homesI f).length=f.types.length:=by rw [homesI,hmAll_len,List.length_replicate]
theorem jbG (i:Int) {N:Nat} {v:Int} (hv:InR N v) : ∀ (l out:List Int),out.length=N→(∀ w∈l,InR N w)→(hmPut i out l).getD v.toNat 0=if v∈l then i else out.getD v.toNat 0
 | [],out,_,_=>by simp [hmPut]
 | w::l,out,ho,hl=>by
  have ih:=jbG i hv l (out.set w.toNat i) (by simpa using ho) (fun u hu=>hl u (by simp [hu]))
  have e:hmPut i out (w::l)=hmPut i (out.set w.toNat i) l:=rfl
  rw [e,ih]
  have hw:=hl w (by simp)
  by_cases h1:v∈l
  ·rw [if_pos h1,if_pos (by simp [h1])]
  ·rw [if_neg h1]
   by_cases h2:v=w
   ·subst h2
    rw [if_pos (by simp),List.getD_eq_getElem?_getD,List.getElem?_set_self (by have:=hv.1; have:=hv.2; omega)]; rfl
   ·rw [if_neg (by simp [h1,h2]),List.getD_eq_getElem?_getD,List.getElem?_set_ne (by have:=hv.1; have:=hw.1; omega),List.getD_eq_getElem?_getD]
theorem hmCode_at (i:Int) {N:Nat} {v:Int} (hv:InR N v) : ∀ (l:List Ins) (out:List Int),out.length=N→(∀ x∈l, ∀ w∈x.outs,InR N w)→(hmCode i out l).getD v.toNat 0=if v∈zz l then i else out.getD v.toNat 0
 | [],out,_,_=>by simp [hmCode,zz]
 | x::l,out,ho,hl=>by
  have ih:=hmCode_at i hv l (hmPut i out x.outs) (by rw [Ki]; exact ho) (fun u hu=>hl u (by simp [hu]))
  have e:hmCode i out (x::l)=hmCode i (hmPut i out x.outs) l:=rfl
  rw [e,ih,jbG i hv _ _ ho (hl x (by simp))]
  have e2:zz (x::l)=x.outs++zz l:=by simp [zz]
  rw [e2]
  by_cases h1:v∈zz l
  ·rw [if_pos h1,if_pos (by simp [h1])]
  ·rw [if_neg h1]
   by_cases h2:v∈x.outs
   ·rw [if_pos h2,if_pos (by simp [h2])]
   ·rw [if_neg h2,if_neg (by simp [h1,h2])]
theorem hmBlk_at (i:Int) {N:Nat} {v:Int} (hv:InR N v) (b:Block) (out:List Int) (ho:out.length=N) (hp : ∀ w∈b.params,InR N w) (hl : ∀ x∈b.code, ∀ w∈x.outs,InR N w):(hmBlk i out b).getD v.toNat 0=if v∈allB b then i else out.getD v.toNat 0:=by
 rw [hmBlk,hmCode_at i hv _ _ (by rw [Ki]; exact ho) hl,jbG i hv _ _ ho hp,allB]
 by_cases h1:v∈zz b.code
 ·rw [if_pos h1,if_pos (by simp [h1])]
 ·rw [if_neg h1]
  by_cases h2:v∈b.params
  ·rw [if_pos h2,if_pos (by simp [h2])]
  ·rw [if_neg h2,if_neg (by simp [h1,h2])]
theorem hmAll_at {N:Nat} {v:Int} (hv:InR N v) : ∀ (bs:List Block) (i:Nat) (out:List Int),out.length=N→(∀ b∈bs, ∀ w∈b.params,InR N w)→(∀ b∈bs, ∀ x∈b.code, ∀ w∈x.outs,InR N w)→(allL bs).Nodup →
  (v∉allL bs→(hmAll i bs out).getD v.toNat 0=out.getD v.toNat 0) ∧ ∀ (j:Nat) (b:Block),bs[j]? = some b→v∈allB b→(hmAll i bs out).getD v.toNat 0=((i+j:Nat):Int)
 | [],i,out,_,_,_,_=>⟨fun _=>rfl,by simp⟩
 | b::r,i,out,ho,hp,hl,hnd=>by
  have eL:allL (b::r)=allB b++allL r:=by simp [allL]
  rw [eL] at hnd
  obtain ⟨_,n2,n3⟩:=List.nodup_append.1 hnd
  obtain ⟨k1,k2⟩:=hmAll_at hv r (i+1) (hmBlk (i:Int) out b) (by rw [hmBlk_len]; exact ho) (fun c hc=>hp c (by simp [hc])) (fun c hc=>hl c (by simp [hc])) n2
  have hb:=hmBlk_at (i:Int) hv b out ho (hp b (by simp)) (hl b (by simp))
  rw [eL,hmAll]
  refine ⟨fun hn => ?_,fun j c hj hc => ?_⟩
  ·simp only [List.mem_append,not_or] at hn
   rw [k1 hn.2,hb,if_neg hn.1]
  ·cases j with
   | zero =>
    simp only [List.getElem?_cons_zero,Option.some.injEq] at hj
    subst hj
    rw [k1 (fun h=>n3 v hc v h rfl),hb,if_pos hc]; rfl
   | succ j =>
    rw [k2 j c (by simpa using hj) hc]
    congr 1; omega
theorem all_in {f:Fn} (hd:DOk f) : ∀ v∈allL f.blocks,InR f.types.length v:=fun v hv=>by
 obtain ⟨b,hb,hv⟩:=List.mem_flatMap.1 hv
 rcases List.mem_append.1 hv with h | h
 ·exact hd.pars b hb v h
 ·obtain ⟨x,hx,h⟩:=List.mem_flatMap.1 h
  exact hd.outs b hb x hx v h
theorem homes_home {e:Env} {f:Fn} (h:check e f=true) : ∀ v∈allL f.blocks,(homesI f).getD v.toNat 0=qr f v:=by
 intro v hv
 have hd:=check_dok h
 obtain ⟨_,ds,hds,_,_⟩:=qY h
 obtain ⟨hnd,_,hout⟩:=zM hds
 obtain ⟨b,hb,hvb⟩:=List.mem_flatMap.1 hv
 obtain ⟨j,hj⟩:=List.mem_iff_getElem?.1 hb
 have:=(hmAll_at (all_in hd v hv) f.blocks 0 (List.replicate f.types.length 0) (by simp) hd.pars hd.outs hnd).2 j b hj hvb
 rw [homesI,this,Nat.zero_add]
 simp only [qr,hds,Option.getD_some]
 rcases List.mem_append.1 hvb with hp | ho
 ·have:=jW hds j b hj v hp
  rw [Nat.zero_add] at this
  exact (congrArg Def.block this).symm
 ·obtain ⟨y,hy,hvy⟩:=List.mem_flatMap.1 ho
  obtain ⟨k,hk⟩:=List.mem_iff_getElem?.1 hy
  exact (congrArg Def.block (hout j b hj k y hk v hvy)).symm
theorem arg_made {e:Env} {f:Fn} (h:check e f=true) : ∀ b∈f.blocks, ∀ x∈b.code, ∀ a∈x.args,a∈allL f.blocks:=by
 intro b hb x hx a ha
 obtain ⟨_,ds,hds,_,hbs⟩:=qY h
 obtain ⟨_,hmade,_⟩:=zM hds
 obtain ⟨j,hj⟩:=List.mem_iff_getElem?.1 hb
 obtain ⟨k,hk⟩:=List.mem_iff_getElem?.1 hx
 obtain ⟨c1,_⟩:=qD hbs hj
 have hins:=zk c1 hk
 simp only [insOk,Bool.and_eq_true] at hins
 obtain ⟨t,ht⟩:=jbK hins.2 a ha
 simp only [askOk,Bool.and_eq_true,decide_eq_true_eq] at ht
 obtain ⟨⟨⟨⟨q1,q2⟩,q3⟩,q4⟩,q5⟩:=ht
 exact hmade a q1 q4
end Ss

namespace Go.Vw
open Go.Proofs Go.RowKit
set_option maxRecDepth 10000
set_option maxHeartbeats 4000000
theorem Homes_v (f:Ss.Fn) (hf:f.Fits) (hs:f.small=true) (hp : ∀ b∈f.blocks, ∀ v∈b.params,Ss.InR f.types.length v) (ho : ∀ b∈f.blocks, ∀ x∈b.code, ∀ v∈x.outs,Ss.InR f.types.length v) (S:Store) (hwf0:S.Wf) :
  VCalls Tryz.prog 27 [qT f] S fun r T=>r = .slice S.nx 0 f.types.length∧T=St S [] [some (1,(Ss.homesI f).map vint)]:=by
 obtain ⟨hb0,hb1,hb2,_⟩:=qo hs
 have hfb:=hf.2.2.2
 unfold Ss.homesI
 obtain ⟨⟨fi,fo⟩,ts,bs⟩:=f
 simp only at *
 generalize hN:ts.length=N at *
 generalize hz:List.replicate N (0:Int)=z0
 have hzl:z0.length=N:=by rw [←hz]; simp
 have e3:List.replicate N (V.int IntKind.i64 0)=z0.map vint:=by rw [←hz]; simp
 refine jb (c:=jf Tryz.f27) Tryz.func27 rfl rfl (by simp [Tryz.ntmps27]) ?_
 rw [Tryz.ntmps27]
 intro hwf
 repeat refine QS ?_
 refine QP ?_
 refine QN ?_
 refine jk 1 rfl ((JU (k:=0) (by simp) (by rfl) (by rfl) (by simp))) (by conv=>lhs; simp [Fr.set]) ?_
 simp only [List.set_cons_succ,List.set_cons_zero]
 have e1:N*8≤140737488355328:=by omega
 have e2:N≤140737488355328:=by omega
 repeat (first|refine QG ?_|refine QY ?_ (r:=by conv=>lhs;simp[-List.map_set,QV,hN,e1,e2]))
 rw [e3]
 refine jO [3,17,18,19] (by conv=>lhs; simp [Fr.only,Fr.look]) ?_
 refine zQ [1] hwf (by decide) (by simp [-List.map_set]) (by conv=>lhs; simp [-List.map_set]) (by conv=>lhs; simp [-List.map_set]) (by conv=>lhs; simp [-List.map_set]) ?_
 repeat refine QS ?_
 refine je [3,17,18,19] rfl (fun c σ S' => ∃ (k:Nat) (out:List Int),k≤bs.length∧c=bs.length-k∧out.length=N∧Ss.hmAll k (bs.drop k) out=Ss.hmAll 0 bs z0∧σ=[(3, .slice (lid S.nx 0) 0 N),(17,vl jd bs),(18,vnat bs.length),(19,vnat k)]∧S'=St S [] [some (1,out.map vint)]) bs.length ?_ ?_
 ·exact ⟨0,_,by omega,rfl,hzl,rfl,by simp [Fr.only],rfl⟩
 ·rintro c σ T ⟨k,out,hk,rfl,hol,hout,rfl,rfl⟩
  by_cases hkt:k<bs.length
  ·have hw:=jo hkt (by omega)
   have hbm:bs[k]∈bs:=List.getElem_mem hkt
   obtain ⟨hbp,_,_,hbc⟩:=hb2 _ hbm
   have hpk:=hp _ hbm
   have hok:=ho _ hbm
   have hfk:=hfb _ hbm
   rw [List.drop_eq_getElem_cons hkt,Ss.hmAll] at hout
   obtain ⟨⟨ps,code,⟨tk,ta,to,az⟩⟩,hx⟩ : ∃ b,bs[k]=b:=⟨_,rfl⟩
   rw [hx] at hout hbp hbc hpk hok hfk
   simp only at hbp hbc hpk hok
   have hcf:=hfk.2.1.2
   simp only at hcf
   have hout0:Ss.hmAll (k+1) (bs.drop (k+1)) (Ss.hmCode (k:Int) (Ss.hmPut (k:Int) out (ps.drop 0)) code)=Ss.hmAll 0 bs z0:=hout
   repeat refine QS ?_
   refine QP ?_ (r:=by conv=>lhs;simp[-List.map_set,QV,hkt,hx])
   refine QN ?_
   repeat refine QS ?_
   refine jC rfl rfl rfl ?_
   repeat refine QS ?_
   refine jB rfl ?_
   repeat refine QS ?_
   refine jH 1 rfl rfl ?_
   repeat refine QS ?_
   refine QP ?_ (r:=by conv=>lhs;simp[-List.map_set,QV,hkt,hx])
   refine QN ?_
   repeat (first|refine QG ?_|refine QY ?_)
   refine jO [3,4,5,17,18,19,25,26,27] (by conv=>lhs; simp [Fr.only,Fr.look]) ?_
   repeat refine QS ?_
   refine je [3,4,5,17,18,19,25,26,27] rfl (fun c σ S' => ∃ (j:Nat) (out:List Int),j≤ps.length∧c=ps.length-j∧out.length=N∧Ss.hmAll (k+1) (bs.drop (k+1)) (Ss.hmCode (k:Int) (Ss.hmPut (k:Int) out (ps.drop j)) code)=Ss.hmAll 0 bs z0∧σ=[(3, .slice (lid S.nx 0) 0 N),(4,vnat k),(5, .ptr (lid S.nx 1) 0),(17,vl jd bs),(18,vnat bs.length),(19,vnat k),(25,vl vint ps),(26,vnat ps.length),(27,vnat j)]∧S'=St S [] [some (1,out.map vint),some (6,[vl vint ps,vl jp code,vint tk,vint ta,vl ji to,vl vint az])]) ps.length ?_ ?_
   ·exact ⟨0,out,by omega,rfl,hol,hout0,by simp [Fr.only,Fr.look],rfl⟩
   ·rintro c σ T ⟨j,out,hj,rfl,hol,hout,rfl,rfl⟩
    by_cases hjt:j<ps.length
    ·have hwj:=jo hjt (by omega)
     obtain ⟨m,hm⟩ : ∃ m:Nat,ps[j]=(m:Int):=⟨ps[j].toNat,by have:=(hpk _ (List.getElem_mem hjt)).1; omega⟩
     have hmN:m<N:=by have:=(hpk _ (List.getElem_mem hjt)).2; omega
     have hmo:m<out.length:=by omega
     rw [List.drop_eq_getElem_cons hjt] at hout
     have hout2:Ss.hmAll (k+1) (bs.drop (k+1)) (Ss.hmCode (k:Int) (Ss.hmPut (k:Int) (out.set m (k:Int)) (ps.drop (j+1))) code)=Ss.hmAll 0 bs z0:=by
      rw [←hout,hm]; rfl
     repeat (first|refine QG ?_|refine QY ?_ (r:=by conv=>lhs;simp[-List.map_set,QV,hjt,hm,hmN,hmo,hwj]))
     show jy _ _ _ _ _ _ _
     exact again ⟨Nat.sub_lt_sub_left hjt (Nat.lt_succ_self j),j+1,out.set m (k:Int),hjt,rfl,by rw [List.length_set]; exact hol,hout2,by simp [Fr.only,Fr.look],rfl⟩
    ·have e:ps.drop j=[]:=by rw [List.drop_eq_nil_iff]; omega
     rw [e] at hout
     have hout3:Ss.hmAll (k+1) (bs.drop (k+1)) (Ss.hmCode (k:Int) out (code.drop 0))=Ss.hmAll 0 bs z0:=hout
     clear hout hout0 e
     repeat (first|refine QG ?_|refine QY ?_ (r:=by conv=>lhs;simp[-List.map_set,QV,hjt]))
     refine jO [3,4,17,18,19,37,38,39] (by conv=>lhs; simp [Fr.only,Fr.look]) ?_
     refine zQ [0] hwf (by decide) (by simp [-List.map_set]) (by conv=>lhs; simp [-List.map_set]) (by conv=>lhs; simp [-List.map_set]) (by conv=>lhs; simp [-List.map_set]) ?_
     repeat refine QS ?_
     refine je [3,4,17,18,19,37,38,39] rfl (fun c σ S' => ∃ (i:Nat) (out:List Int),i≤code.length∧c=code.length-i∧out.length=N∧Ss.hmAll (k+1) (bs.drop (k+1)) (Ss.hmCode (k:Int) out (code.drop i))=Ss.hmAll 0 bs z0∧σ=[(3, .slice (lid S.nx 0) 0 N),(4,vnat k),(17,vl jd bs),(18,vnat bs.length),(19,vnat k),(37,vl jp code),(38,vnat code.length),(39,vnat i)]∧S'=St S [] [some (1,out.map vint)]) code.length ?_ ?_
     ·exact ⟨0,out,by omega,rfl,hol,hout3,by simp [Fr.only,Fr.look],rfl⟩
     ·rintro c σ T ⟨i,out,hi,rfl,hol,hout,rfl,rfl⟩
      by_cases hit:i<code.length
      ·have hwi:=jo hit (by omega)
       rw [List.drop_eq_getElem_cons hit] at hout
       have hoi:=hok _ (List.getElem_mem hit)
       have hci:=hcf _ (List.getElem_mem hit)
       obtain ⟨⟨xo,xn,xa,xs⟩,hx2⟩ : ∃ b,code[i]=b:=⟨_,rfl⟩
       rw [hx2] at hout hoi hci
       simp only at hoi
       have hxl:xs.length<2^62:=by
        have:=hci.2.2.2.1
        simp only at this
        omega
       have hout4:Ss.hmAll (k+1) (bs.drop (k+1)) (Ss.hmCode (k:Int) (Ss.hmPut (k:Int) out (xs.drop 0)) (code.drop (i+1)))=Ss.hmAll 0 bs z0:=hout
       clear hout hout3
       repeat refine QS ?_
       refine QP ?_ (r:=by conv=>lhs;simp[-List.map_set,QV,hit,hx2])
       refine QN ?_
       repeat refine QS ?_
       refine jC rfl rfl rfl ?_
       repeat refine QS ?_
       refine jB rfl ?_
       repeat refine QS ?_
       refine jH 5 rfl rfl ?_
       repeat refine QS ?_
       refine QP ?_ (r:=by conv=>lhs;simp[-List.map_set,QV,hit,hx2])
       refine QN ?_
       repeat (first|refine QG ?_|refine QY ?_)
       refine jO [3,4,17,18,19,37,38,39,44,45,46] (by conv=>lhs; simp [Fr.only,Fr.look]) ?_
       refine zQ [0] hwf (by decide) (by simp [-List.map_set]) (by conv=>lhs; simp [-List.map_set]) (by conv=>lhs; simp [-List.map_set]) (by conv=>lhs; simp [-List.map_set]) ?_
       repeat refine QS ?_
       refine je [3,4,17,18,19,37,38,39,44,45,46] rfl (fun c σ S' => ∃ (q:Nat) (out:List Int),q≤xs.length∧c=xs.length-q∧out.length=N∧Ss.hmAll (k+1) (bs.drop (k+1)) (Ss.hmCode (k:Int) (Ss.hmPut (k:Int) out (xs.drop q)) (code.drop (i+1)))=Ss.hmAll 0 bs z0∧σ=[(3, .slice (lid S.nx 0) 0 N),(4,vnat k),(17,vl jd bs),(18,vnat bs.length),(19,vnat k),(37,vl jp code),(38,vnat code.length),(39,vnat i),(44,vl vint xs),(45,vnat xs.length),(46,vnat q)]∧S'=St S [] [some (1,out.map vint)]) xs.length ?_ ?_
       ·exact ⟨0,out,by omega,rfl,hol,hout4,by simp [Fr.only,Fr.look],rfl⟩
       ·rintro c σ T ⟨q,out,hq,rfl,hol,hout,rfl,rfl⟩
        by_cases hqt:q<xs.length
        ·have hwq:=jo hqt (by omega)
         obtain ⟨m,hm⟩ : ∃ m:Nat,xs[q]=(m:Int):=⟨xs[q].toNat,by have:=(hoi _ (List.getElem_mem hqt)).1; omega⟩
         have hmN:m<N:=by have:=(hoi _ (List.getElem_mem hqt)).2; omega
         have hmo:m<out.length:=by omega
         rw [List.drop_eq_getElem_cons hqt] at hout
         have hout2:Ss.hmAll (k+1) (bs.drop (k+1)) (Ss.hmCode (k:Int) (Ss.hmPut (k:Int) (out.set m (k:Int)) (xs.drop (q+1))) (code.drop (i+1)))=Ss.hmAll 0 bs z0:=by
          rw [←hout,hm]; rfl
         repeat (first|refine QG ?_|refine QY ?_ (r:=by conv=>lhs;simp[-List.map_set,QV,hqt,hm,hmN,hmo,hwq]))
         show jy _ _ _ _ _ _ _
         exact again ⟨Nat.sub_lt_sub_left hqt (Nat.lt_succ_self q),q+1,out.set m (k:Int),hqt,rfl,by rw [List.length_set]; exact hol,hout2,by simp [Fr.only,Fr.look],rfl⟩
        ·have e:xs.drop q=[]:=by rw [List.drop_eq_nil_iff]; omega
         rw [e] at hout
         have hout5:Ss.hmAll (k+1) (bs.drop (k+1)) (Ss.hmCode (k:Int) out (code.drop (i+1)))=Ss.hmAll 0 bs z0:=hout
         repeat (first|refine QG ?_|refine QY ?_ (r:=by conv=>lhs;simp[-List.map_set,QV,hqt,hwi]))
         show jy _ _ _ _ _ _ _
         exact again ⟨Nat.sub_lt_sub_left hit (Nat.lt_succ_self i),i+1,out,hit,rfl,hol,hout5,by simp [Fr.only,Fr.look],rfl⟩
      ·have e:code.drop i=[]:=by rw [List.drop_eq_nil_iff]; omega
       rw [e] at hout
       have hout5:Ss.hmAll (k+1) (bs.drop (k+1)) out=Ss.hmAll 0 bs z0:=hout
       repeat (first|refine QG ?_|refine QY ?_ (r:=by conv=>lhs;simp[-List.map_set,QV,hit,hw]))
       show jy _ _ _ _ _ _ _
       exact again ⟨Nat.sub_lt_sub_left hkt (Nat.lt_succ_self k),k+1,out,hkt,rfl,hol,hout5,by simp [Fr.only,Fr.look],rfl⟩
  ·have hke:bs.drop k=[]:=by rw [List.drop_eq_nil_iff]; omega
   rw [hke] at hout
   have hout5:out=Ss.hmAll 0 bs z0:=hout
   rw [←hout5]
   repeat (first|refine QG ?_|refine QY ?_ (r:=by conv=>lhs;simp[-List.map_set,QV,hkt]))
   exact zD ⟨by simp [lid],rfl⟩
end Go.Vw

namespace Go.Vw
open Go.Proofs Go.RowKit
set_option maxRecDepth 10000
set_option maxHeartbeats 4000000
theorem LClo_v (S:Store) {ph oh:Nat} {hm:List Int} {h:Int} {nodes:List Int} (hp:S.get ph=some (1,[.slice oh 0 hm.length])) (ho:S.get oh=some (1,hm.map vint)) (hs:nodes.Pairwise (· < ·)) (hl:nodes.length<4611686018427387904) {m:Nat} (hmN:m<hm.length) :
  VCalls Tryz.prog 29 [vint (m:Int), .ref (.agg [vint h,vl vint nodes]), .ptr ph 0] S fun r T=>r = .bool (decide (hm[m]∈nodes))∧T=S:=by
 have cb:=BinSearch_v nodes hm[m] hl hs
 refine jb (c:=jf Tryz.f29) Tryz.func29 rfl rfl (by simp [Tryz.ntmps29]) ?_
 rw [Tryz.ntmps29]
 intro hwf
 have lp:=jS hwf hp
 have lo:=jS hwf ho
 have bp:=fun u l => @ju S u l ph lp
 have bo:=fun u l => @ju S u l oh lo
 repeat (first|refine QG ?_|refine QY ?_)
 repeat refine QS ?_
 refine QD (r:=by conv=>lhs;simp[-List.map_set,QV,bp,bo,hp,ho,hmN]) (k:=?_)
 refine jn rfl (cb) ?_
 refine QM (by conv=>lhs;simp[-List.map_set,QV]) ?_
 refine QN ?_
 repeat (first|refine QG ?_|refine QY ?_)
 exact zD ⟨rfl,qF hwf⟩
theorem LIdx_v {S:Store} {l:List Int} {oc:Nat} {fid:FuncId} {caps:List V} {p:Int→Bool} (hc:jR Tryz.prog fid=true) (hlim:l.length<2^62) (hclo : ∀ v∈l,VCalls Tryz.prog fid (vint v::caps) S fun r T=>r = .bool (p v)∧T=S) (hg:S.get oc=some (1,l.map vint)) :
  VCalls Tryz.prog 84 [.slice oc 0 l.length, .func fid caps] S fun v T=>v=vint (ql p l 0)∧T=S:=by
 refine jb (c:=jf Tryz.f84) Tryz.func84 rfl rfl (by simp [Tryz.ntmps84]) ?_
 rw [Tryz.ntmps84]
 intro hwf
 have lo:=jS hwf hg
 have b0:=fun u m => @ju S u m oc lo
 repeat (first|refine QG ?_|refine QY ?_ (r:=by conv=>lhs;simp[-List.map_set,QV,b0,hg]))
 repeat refine QS ?_
 refine je [0,1,7,8] rfl (fun c σ S' => ∃ (k:Nat),k≤l.length∧c=l.length-k∧ql p (l.drop k) k=ql p l 0∧σ=[(0, .slice oc 0 l.length),(1, .func fid caps),(7,vnat l.length),(8,vnat k)]∧S'=St S [] []) l.length ?_ ?_
 ·exact ⟨0,by omega,rfl,rfl,by simp [Fr.only],rfl⟩
 ·rintro c σ T ⟨k,hk,rfl,hd,rfl,rfl⟩
  by_cases hkt:k<l.length
  ·have hst:ql p (l.drop k) k=if p l[k]=true then (k:Int) else ql p (l.drop (k+1)) (k+1):=by rw [List.drop_eq_getElem_cons hkt,ql]
   have hw:=jo hkt (by omega)
   have cc:=hclo l[k] (List.getElem_mem hkt)
   rw [←qF hwf] at cc
   repeat (first|refine QG ?_|refine QY ?_ (r:=by conv=>lhs;simp[-List.map_set,QV,hkt,b0,hg]))
   repeat refine QS ?_
   refine QP ?_ (r:=by conv=>lhs;simp[-List.map_set,QV,hkt,b0,hg])
   refine zw rfl hc rfl cc ?_
   rintro X T9 ⟨rfl,rfl⟩
   cases hp:p l[k] with
   | true =>
    rw [hp,if_pos rfl] at hst
    refine QM (by conv=>lhs;simp[-List.map_set,QV]) ?_
    refine QN ?_
    repeat (first|refine QG ?_|refine QY ?_)
    exact zD ⟨by rw [←hd,hst]; rfl,by first | exact qF hwf | (rw [qF hwf]; exact qF hwf)⟩
   | false =>
    rw [hp,if_neg (by simp)] at hst
    refine QM (by conv=>lhs;simp[-List.map_set,QV]) ?_
    refine QN ?_
    repeat (first|refine QG ?_|refine QY ?_ (r:=by conv=>lhs;simp[-List.map_set,QV,hw]))
    show jy _ _ _ _ _ _ _
    exact again ⟨Nat.sub_lt_sub_left hkt (Nat.lt_succ_self k),k+1,hkt,rfl,by rw [←hst,hd],by simp [Fr.only,Fr.look],by first | rfl | (rw [qF hwf]; rfl)⟩
  ·have e:l.drop k=[]:=by rw [List.drop_eq_nil_iff]; omega
   rw [e] at hd
   simp only [ql] at hd
   repeat (first|refine QG ?_|refine QY ?_ (r:=by conv=>lhs;simp[-List.map_set,QV,hkt]))
   exact zD ⟨congrArg vint hd,qF hwf⟩
theorem LAny_v {S:Store} {l:List Int} {oc:Nat} {fid:FuncId} {caps:List V} {p:Int→Bool} (hc:jR Tryz.prog fid=true) (hlim:l.length<2^62) (hclo : ∀ v∈l,VCalls Tryz.prog fid (vint v::caps) S fun r T=>r = .bool (p v)∧T=S) (hg:S.get oc=some (1,l.map vint)) :
  VCalls Tryz.prog 32 [.slice oc 0 l.length, .func fid caps] S fun v T=>v = .bool (l.any p)∧T=S:=by
 have ci:=LIdx_v hc hlim hclo hg
 rw [←zL p l 0]
 refine jb (c:=jf Tryz.f32) Tryz.func32 rfl rfl (by simp [Tryz.ntmps32]) ?_
 rw [Tryz.ntmps32]
 intro hwf
 rw [←qF hwf] at ci
 repeat (first|refine QG ?_|refine QY ?_)
 repeat refine QS ?_
 refine QP ?_
 refine qd rfl ci ?_
 rintro X T9 ⟨rfl,rfl⟩
 refine QM (by conv=>lhs;simp[-List.map_set,QV]) ?_
 refine QN ?_
 repeat (first|refine QG ?_|refine QY ?_)
 exact zD ⟨rfl,by first | exact qF hwf | (rw [qF hwf]; exact qF hwf)⟩
end Go.Vw

namespace Go.Vw
open Go.Proofs Go.RowKit
set_option maxRecDepth 10000
set_option maxHeartbeats 2000000
theorem plus_none {S:Store} (h:S.Wf):plus S ⟨fun _=>none,0⟩=S:=by
 refine Store.ext' (funext fun o => ?_) rfl
 simp only [plus]
 split
 ·rfl
 ·rw [h.gone o (by omega)]; rfl
theorem VPure.thawF {P:Program} {f:FuncId} {xs xs':List V} {S S':Store} {X:V} (h:VPure P f xs' X) (hg:GhostArgs xs S xs' S') (hcl : ∀ x∈xs',x.closed=true) (hf:flatV X=true) (hsx : ∀ n,jaA n X=X):VCalls P f xs S fun r T=>r=X∧T=S:=by
 refine Jy fun hw => ?_
 refine ((h ⟨fun _=>none,0⟩).thaw hg hcl ?_).mono ?_
 ·rintro r T ⟨rfl,rfl⟩
  exact ⟨hf,fun o c hc=>by cases hc⟩
 ·rintro r T ⟨r0,T0,⟨rfl,rfl⟩,rfl,rfl⟩
  exact ⟨hsx _,plus_none hw⟩
theorem plus_one {S:Store} (h:S.Wf) (l:List Int):plus S (St ⟨fun _=>none,0⟩ [] [some (1,l.map vint)])=St S [] [some (1,l.map vint)]:=by
 refine Store.ext' (funext fun o => ?_) ?_
 ·simp only [plus,St]
  by_cases ho:o<S.nx
  ·simp [ho,uGet]
  ·rw [if_neg ho,if_neg ho]
   simp only [Nat.not_lt_zero,if_false,Nat.sub_zero]
   cases hk:o-S.nx with
   | zero=>simp [Wc,vint]
   | succ k=>simp
 ·simp [plus,St,lid]
def y1 (o:Nat) (c:Nat × List V):Store:=⟨fun q=>if q=o then some c else none,0⟩
theorem y1_sub {o:Nat} {c:Nat × List V} {S:Store} (h:S.get o=some c):(y1 o c).Sub S:=fun q d hd=>by
 simp only [y1] at hd; split at hd
 ·rename_i e; subst e; cases hd; exact h
 ·cases hd
theorem y1_get {o:Nat} {c:Nat × List V}:(y1 o c).get o=some c:=by simp [y1]
def y2 (o:Nat) (c:Nat × List V) (p:Nat) (d:Nat × List V):Store:=⟨fun q=>if q=o then some c else if q=p then some d else none,0⟩
theorem y2_sub {o p:Nat} {c d:Nat × List V} {S:Store} (h:S.get o=some c) (h2:S.get p=some d):(y2 o c p d).Sub S:=fun q e he=>by
 simp only [y2] at he; split at he
 ·rename_i e2; subst e2; cases he; exact h
 ·split at he
  ·rename_i e2; subst e2; cases he; exact h2
  ·cases he
theorem y2_shp {o p:Nat} {c d c' d':Nat × List V} {S:Store} (h:S.get o=some c') (hc:c'.1=c.1) (h2:S.get p=some d') (hd:d'.1=d.1):(y2 o c p d).Shp S:=fun q e he=>by
 simp only [y2] at he; split at he
 ·rename_i e2; subst e2; cases he; exact ⟨c',h,hc⟩
 ·split at he
  ·rename_i e2; subst e2; cases he; exact ⟨d',h2,hd⟩
  ·cases he
theorem y2_get {o p:Nat} {c d:Nat × List V}:(y2 o c p d).get o=some c:=by simp [y2]
theorem y2_get2 {o p:Nat} {c d:Nat × List V} (h:p≠o):(y2 o c p d).get p=some d:=by simp [y2,h]
def y3 (o:Nat) (c:Nat × List V) (p:Nat) (d:Nat × List V) (q:Nat) (e:Nat × List V):Store:=⟨fun r=>if r=o then some c else if r=p then some d else if r=q then some e else none,0⟩
theorem y3_shp {o p q:Nat} {c d e c' d' e':Nat × List V} {S:Store} (h:S.get o=some c') (hc:c'.1=c.1) (h2:S.get p=some d') (hd:d'.1=d.1) (h3:S.get q=some e') (he:e'.1=e.1):(y3 o c p d q e).Shp S:=fun r x hx=>by
 simp only [y3] at hx; split at hx
 ·rename_i e2; subst e2; cases hx; exact ⟨c',h,hc⟩
 ·split at hx
  ·rename_i e2; subst e2; cases hx; exact ⟨d',h2,hd⟩
  ·split at hx
   ·rename_i e2; subst e2; cases hx; exact ⟨e',h3,he⟩
   ·cases hx
theorem y3_get {o p q:Nat} {c d e:Nat × List V}:(y3 o c p d q e).get o=some c:=by simp [y3]
theorem y3_get2 {o p q:Nat} {c d e:Nat × List V} (h:p≠o):(y3 o c p d q e).get p=some d:=by simp [y3,h]
theorem y3_get3 {o p q:Nat} {c d e:Nat × List V} (h:q≠o) (h2:q≠p):(y3 o c p d q e).get q=some e:=by simp [y3,h,h2]
section
variable {S H:Store} {hs:List Nat} {ob:Nat} {bs:List Ss.Block} {T:Store} {rs:List (List V)} {ids:List Nat}
theorem BInv.ext (h:BInv S H hs ob bs T rs ids) (hw:T.Wf) {T':Store} (hn:T.nx≤T'.nx) (hk : ∀ o,o<T.nx→T'.get o=T.get o):BInv S H hs ob bs T' rs ids:=by
 have hlt:=h.all_lt hw
 obtain ⟨old,hd,al,cb,own,nd,lt⟩:=h
 exact ⟨⟨Nat.le_trans old.1 hn,fun o ho=>(hk o (Nat.lt_of_lt_of_le ho old.1)).trans (old.2 o ho)⟩,fun o ho=>(hk o (hlt o (by simp [ho]))).trans (hd o ho),al,(hk ob (hlt ob (by simp))).trans cb,own.mono fun o ho=>hk o (hlt o (by simp [ho])),nd,lt⟩
theorem BInv.st (h:BInv S H hs ob bs T rs ids) (hw:T.Wf) (l:List (Option (Nat × List V))):BInv S H hs ob bs (St T [] l) rs ids :=
 h.ext hw (by rw [qn,lid]; omega) fun o ho=>by rw [ju ho]; rfl
theorem BInv.ghost (h:BInv S H hs ob bs T rs ids) {fi fo ts:List Int} {ot:Nat} (hot:ot∈hs) (ht:T.get ot=some (1,ts.map vint)) (post:List V) :
  ∃ S',GhostArgs (.agg [vl vint fi,vl vint fo, .slice ot 0 ts.length, .slice ob 0 bs.length]::post) T (qT ⟨⟨fi,fo⟩,ts,bs⟩::post) S':=by
 have hnd:(ot::ob::ids).Nodup:=List.Sublist.nodup ((List.singleton_sublist.2 hot).append (List.Sublist.refl (ob::ids))) h.nd
 exact ⟨_,GhostArgs.one [] post (fn_ghostD (fi:=fi) (fo:=fo) h.own.owl h.cb rfl ht rfl hnd)⟩
end
end Go.Vw
