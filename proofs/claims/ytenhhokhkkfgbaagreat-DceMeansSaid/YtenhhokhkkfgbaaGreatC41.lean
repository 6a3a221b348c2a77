import Derived.Test.YtenhhokhkkfgbaaGreatC40
/- Part of the proof. -/
set_option linter.unusedVariables false
set_option linter.unusedSimpArgs false
set_option maxRecDepth 10000
set_option maxHeartbeats 2000000
namespace Go.Vw
open Go.Proofs Go.RowKit
def outOf (q:Int->List Int->Bool) (S:Store):List V->Bool
 | [.int _ op,_,_, .slice ou _ _]=>q op (((S.get ou).getD (0,[])).2.map vToInt)
 | _=>false
theorem KU {α:Type} (q:α->Bool) : ∀ l:List α,delG (fun (_:Unit) x => !q x) (fun _ _=>()) () l=(l.filter q,())
 | []=>rfl
 | x::l=>by
  have ih:=KU q l
  by_cases h:q x=true
  ·simp [delG,ih,h]
  ·have h':q x=false:=by simpa using h
   simp [delG,ih,h']
theorem DelCode_v (T:Store) (q:Int->List Int->Bool) (code:List Ss.Ins) (rs:List (List V)) (oc:Nat) (ic:List Nat) (hcl:code.length<2^62) (hr:Rows T insD jp code rs ic) (goc:T.get oc=some (4,rs.flatten)) (hdj:oc∉ic) (hw:T.Wf) {fid:FuncId} {caps:List V} (hc:jH Tryz.prog fid=true)
  (hclo : ∀ (S':Store) (x:Ss.Ins) (oa ou:Nat),x∈code->S'.get ou=some (1,x.outs.map vint)->bU fid (.agg [vint x.op,vu x.n, .slice oa 0 x.args.length, .slice ou 0 x.outs.length]::caps) S' fun v T'=>v = .bool (!q x.op x.outs)/\T'=S') :
  ∃ rs' ic',Rows T insD jp (code.filter fun x=>q x.op x.outs) rs' ic'/\ic'.Sublist ic/\(T.upd oc (4,rs'.flatten)).Wf/\bU 27 [.slice oc 0 code.length, .func fid caps] T fun v T'=>v = .slice oc 0 (code.filter fun x=>q x.op x.outs).length/\T'=T.upd oc (4,rs'.flatten):=by
 obtain ⟨hrl,hr4⟩:=hr.len;have lt : ∀ {o c},T.get o=some c->o<T.nx:=fun h=>jl hw h
 obtain ⟨icn,hdel1,hdel2,hdel3⟩:=hr.del (fun (_:Unit) r => !outOf q T r) (fun _ _=>()) (fun (_:Unit) x => !q x.op x.outs) (fun _ _=>()) (fun x r ii hxm ho hi M=>by
  obtain ⟨oa,ou,rfl,rfl,h1,h2⟩:=ins_row ho;refine ⟨?_,rfl⟩;simp only [outOf,vint,h2,aS];rw [jbJ]) ()
 rw [KU (fun x:Ss.Ins=>q x.op x.outs)] at hdel1;simp only at hdel1;have hdl:=(hdel1.len).1;refine ⟨_,icn,hdel1,hdel2, ?_⟩;generalize hres:delG (fun (_:Unit) r => !outOf q T r) (fun _ _=>()) () rs=res at *
 have hresub : ∀ r∈res.1,r∈rs:=by rw [<-hres]; exact jcT _ _ _ _
 have hw':(T.upd oc (4,res.1.flatten)).Wf:=by
  refine upd_wf hw (lt goc) ?_;have:=hw.ids oc _ goc;simp only [qr,aD,List.mem_flatten] at this ⊢;rintro x ⟨r,hr1,hr2⟩;exact this x ⟨r,hresub r hr1,hr2⟩
 have hrowsin : ∀ r∈rs, ∃ x∈code, ∃ oa ou,r=[vint x.op,vu x.n, .slice oa 0 x.args.length, .slice ou 0 x.outs.length]/\T.get ou=some (1,x.outs.map vint)/\ou∈ic:=by
  clear hres hdel1 hdel2 hdel3 hdl hresub hw' hr4 hrl goc hdj hcl hclo
  induction hr with
  | nil=>simp
  | cons h t ih =>
   intro r hr;rcases aL.1 hr with rfl | hr
   ·obtain ⟨oa,ou,h1,h2,h3,h4⟩:=ins_row h;exact ⟨_,by simp,oa,ou,h1,h4,by simp [h2]⟩
   ·obtain ⟨x,hx,oa,ou,h1,h2,h3⟩:=ih r hr;exact ⟨x,by simp [hx],oa,ou,h1,h2,by simp [h3]⟩
 refine ⟨hw',vcalls_cut hw' rfl (by simp [V.ids,lt goc]) ?_⟩;have cd:=Delete_v (fun (_:Unit) T' => ∀ o,o<T.nx->o≠oc->T'.get o=T.get o) (fun _ r => !outOf q T r) (fun _ _=>()) (oc:=oc) (N:=T.nx) (rows:=rs) (fid:=fid) (caps:=caps) hc (fun r hr=>hr4 r hr) (by omega) (lt goc)
  (fun a T1 T2 h1 h2 o ho hne=>(h1 o ho hne).trans (h2 o ho hne)) (fun a T1 r hrm hI hT=>by
   obtain ⟨x,hxm,oa,ou,rfl,ha,hai⟩:=hrowsin r hrm;have hoc:ou≠oc:=fun e=>hdj (e▸hai)
   have e:outOf q T [vint x.op,vu x.n, .slice oa 0 x.args.length, .slice ou 0 x.outs.length]=q x.op x.outs:=by
    simp only [outOf,vint,ha,aS];rw [jbJ]
   rw [e];refine (hclo T1 x oa ou hxm ((hI ou (lt ha) hoc).trans ha)).mono ?_;rintro v T' ⟨rfl,rfl⟩;exact ⟨rfl,hI,bf _,fun o _ _=>rfl⟩) (a:=()) (S:=T) (fun o ho hne=>rfl) (bf _) goc
 rw [hres] at cd;rw [hrl] at cd;refine cd.mono ?_;rintro v T' ⟨rfl,h1,h2,h3⟩;refine ⟨by rw [hdl],h2,fun o ho => ?_⟩;have ho':o<T.nx:=ho;rw [qo];split
 ·rename_i e; subst e; exact h3
 ·rename_i e;rw [h1 o ho' e]
theorem edge_row {T:Store} {e:Ss.Edge} {r:List V} {ii:List Nat} (h:OwL T KZ r (jk e).cells ii) : ∃ oa,r=[vint e.to, .slice oa 0 e.args.length]/\ii=[oa]/\T.get oa=some (1,e.args.map vint):=by
 rw [ze] at h
 cases h with
 | c h1 h =>
  obtain ⟨o,rfl,h2,h3⟩:=row_row (l:=e.args) (by rw [KV]; exact h);exact ⟨o,rfl,h2,h3⟩
theorem edge_mk {T:Store} {e:Ss.Edge} {oa:Nat} (h:T.get oa=some (1,e.args.map vint)):OwL T KZ [vint e.to, .slice oa 0 e.args.length] (jk e).cells [oa]:=by
 rw [ze];have:=row_mk h;rw [KV] at this;exact .c (x:=vint e.to) rfl this
section
variable {S H:Store} {hs:List Nat} {ob:Nat} {bs:List Ss.Block} {T:Store} {rs:List (List V)} {ids:List Nat} {i:Nat}
theorem jcE {hs:List Nat} {ob op oc oe:Nat} {ic ie:List Nat} (hd:(hs++ob::(op::oc::(ic++oe::ie))).Nodup):(∀ o∈hs,o≠ob/\o≠op/\o≠oc/\o≠oe/\o∉ic/\o∉ie)/\ob≠op/\ob≠oc/\ob≠oe/\ob∉ic/\ob∉ie/\op≠oc/\op≠oe/\op∉ic/\op∉ie/\oc≠oe/\oc∉ic/\oc∉ie/\oe∉ic/\oe∉ie/\(∀ o∈ic,o∉ie)/\ic.Nodup/\ie.Nodup:=by
 obtain ⟨h1,h2,h3⟩:=List.nodup_append.1 hd;simp only [List.nodup_cons,aL,aG,not_or,List.nodup_append] at h2;obtain ⟨⟨a1,a2,a3,a4,a5⟩,⟨b1,b2,b3,b4⟩,⟨c1,c2,c3⟩,d1,⟨e1,e2⟩,d3⟩:=h2;refine ⟨fun o ho=>⟨h3 o ho ob (by simp),h3 o ho op (by simp),h3 o ho oc (by simp),h3 o ho oe (by simp),fun hm=>h3 o ho o (by simp [hm]) rfl,fun hm=>h3 o ho o (by simp [hm]) rfl⟩,a1,a2,a4,a3,a5,b1,b3,b2,b4,c2,c1,c3, ?_,e1, ?_,d1,e2⟩
 ·exact fun hm=>d3 oe hm oe (by simp) rfl
 ·exact fun o ho hm=>d3 o ho o (by simp [hm]) rfl
theorem BInv.code (h:BInv S H hs ob bs T rs ids) (hw:T.Wf) (hi:i<bs.length) (q:Int->List Int->Bool) (hcl:bs[i].code.length<2^62) {fid:FuncId} {caps:List V} (hc:jH Tryz.prog fid=true)
  (hclo : ∀ (S':Store) (x:Ss.Ins) (oa ou:Nat),x∈bs[i].code->S'.get ou=some (1,x.outs.map vint)->bU fid (.agg [vint x.op,vu x.n, .slice oa 0 x.args.length, .slice ou 0 x.outs.length]::caps) S' fun v T'=>v = .bool (!q x.op x.outs)/\T'=S') :
  ∃ (oc:Nat) (T5:Store) (rs':List (List V)) (ids':List Nat),rs.flatten[i*6+1]? = some (.slice oc 0 bs[i].code.length)/\bU 27 [.slice oc 0 bs[i].code.length, .func fid caps] T (fun v T'=>v = .slice oc 0 (bs[i].code.filter fun x=>q x.op x.outs).length/\T'=T5) /\
   T5.Wf/\T5.get ob=T.get ob/\T5.nx=T.nx/\(∀ o∈hs,T5.get o=T.get o)/\rs'.flatten=rs.flatten.set (i*6+1) (.slice oc 0 (bs[i].code.filter fun x=>q x.op x.outs).length) /\
   BInv S H hs ob (bs.set i ⟨bs[i].params,bs[i].code.filter fun x=>q x.op x.outs,bs[i].term⟩) (T5.upd ob (6,rs'.flatten)) rs' ids':=by
 obtain ⟨r1,r2,i1,i2,op,oc,oe,rc,ce,ip,ic,ie,rfl,h6,hl,hop,hoc,hrc,hoe,hie,rfl,hnd,hput⟩:=h.at hw hi;obtain ⟨n0,n1,n2,n3,n4,n5,n6,n7,n8,n9,n10,n11,n12,n13,n14,n15,n16,n17⟩:=jcE hnd;obtain ⟨rc',ic',q1,q2,qw,q3⟩:=DelCode_v T q bs[i].code rc oc ic hcl hrc hoc n11 hw hc hclo;have hfs:=ZH (m:=6) (r:=[V.slice op 0 bs[i].params.length, .slice oc 0 bs[i].code.length,vint bs[i].term.kind,vint bs[i].term.arg, .slice oe 0 bs[i].term.to.length,vl vint bs[i].term.args]) (r2:=r2) (q:=1) (w := .slice oc 0 (bs[i].code.filter fun x=>q x.op x.outs).length) h6 hl (by simp);refine ⟨oc,T.upd oc (4,rc'.flatten),_,_,JY h6 hl rfl,q3,qw,qH n2,rfl,fun o ho=>qH (n0 o ho).2.2.1,hfs.symm,hput _ _ ⟨bs[i].params,_,bs[i].term⟩ (op::oc::(ic'++oe::ie)) (bf _) ?_ zY ?_ ?_ ?_⟩
 ·intro o _ h1 h2;simp only [aL,not_or] at h2;rw [qH h1,qH h2.2.1]
 ·have g : ∀ o,o≠ob->o≠oc->((T.upd oc (4,rc'.flatten)).upd ob (6,(r1++List.set [V.slice op 0 bs[i].params.length, .slice oc 0 bs[i].code.length,vint bs[i].term.kind,vint bs[i].term.arg, .slice oe 0 bs[i].term.to.length,vl vint bs[i].term.args] 1 (.slice oc 0 (bs[i].code.filter fun x=>q x.op x.outs).length)::r2).flatten)).get o=T.get o:=fun o h1 h2=>by rw [qH h1,qH h2]
  refine jcY (b:=⟨bs[i].params,bs[i].code.filter fun x=>q x.op x.outs,bs[i].term⟩) (rs:=rc') (ce:=ce) ?_ ?_ ?_ ?_ ?_
  ·rw [g op (Ne.symm n1) n6]; exact hop
  ·rw [qH (Ne.symm n2),zY]
  ·exact q1.mono fun o ho=>g o (fun e=>n4 (e▸q2.subset ho)) (fun e=>n11 (e▸q2.subset ho))
  ·rw [g oe (Ne.symm n3) (Ne.symm n10)]; exact hoe
  ·exact hie.mono fun o ho=>g o (fun e=>n5 (e▸ho)) (fun e=>n12 (e▸ho))
 ·refine List.Sublist.nodup (.cons_cons _ (.cons_cons _ (q2.append (List.Sublist.refl _)))) (List.nodup_append.1 hnd).2.1.of_cons
 ·intro o ho;refine .inl ?_;simp only [aL,aG] at ho ⊢;rcases ho with h | h | h | h
  ·exact .inl h
  ·exact .inr (.inl h)
  ·exact .inr (.inr (.inl (q2.subset h)))
  ·exact .inr (.inr (.inr h))
theorem BInv.pars (h:BInv S H hs ob bs T rs ids) (hw:T.Wf) (hi:i<bs.length) : ∃ op,rs.flatten[i*6]? = some (.slice op 0 bs[i].params.length)/\T.get op=some (1,bs[i].params.map vint)/\ob≠op/\(∀ o∈hs,o≠op) /\ ∀ l:List Int, ∃ rs' ids',rs'.flatten=rs.flatten.set (i*6) (.slice op 0 l.length) /\
  BInv S H hs ob (bs.set i ⟨l,bs[i].code,bs[i].term⟩) ((T.upd op (1,l.map vint)).upd ob (6,rs'.flatten)) rs' ids':=by
 obtain ⟨r1,r2,i1,i2,op,oc,oe,rc,ce,ip,ic,ie,rfl,h6,hl,hop,hoc,hrc,hoe,hie,rfl,hnd,hput⟩:=h.at hw hi;obtain ⟨n0,n1,n2,n3,n4,n5,n6,n7,n8,n9,n10,n11,n12,n13,n14,n15,n16,n17⟩:=jcE hnd;refine ⟨op,JY h6 hl (q:=0) rfl,hop,n1,fun o ho=>(n0 o ho).2.1,fun l => ?_⟩;have hfs:=ZH (m:=6) (r:=[V.slice op 0 bs[i].params.length, .slice oc 0 bs[i].code.length,vint bs[i].term.kind,vint bs[i].term.arg, .slice oe 0 bs[i].term.to.length,vl vint bs[i].term.args]) (r2:=r2) (q:=0) (w := .slice op 0 l.length) h6 hl (by simp);refine ⟨_,_,hfs.symm,hput _ _ ⟨l,bs[i].code,bs[i].term⟩ (op::oc::(ic++oe::ie)) (bf _) ?_ zY ?_ (List.nodup_append.1 hnd).2.1.of_cons fun o ho => .inl ho⟩
 ·intro o _ h1 h2;simp only [aL,not_or] at h2;rw [qH h1,qH h2.1]
 ·have g : ∀ o,o≠ob->o≠op->((T.upd op (1,l.map vint)).upd ob (6,(r1++List.set [V.slice op 0 bs[i].params.length, .slice oc 0 bs[i].code.length,vint bs[i].term.kind,vint bs[i].term.arg, .slice oe 0 bs[i].term.to.length,vl vint bs[i].term.args] 0 (.slice op 0 l.length)::r2).flatten)).get o=T.get o:=fun o h1 h2=>by rw [qH h1,qH h2]
  refine jcY (b:=⟨l,bs[i].code,bs[i].term⟩) (rs:=rc) (ce:=ce) ?_ ?_ ?_ ?_ ?_
  ·rw [qH (Ne.symm n1),zY]
  ·rw [g oc (Ne.symm n2) (Ne.symm n6)]; exact hoc
  ·exact hrc.mono fun o ho=>g o (fun e=>n4 (e▸ho)) (fun e=>n8 (e▸ho))
  ·rw [g oe (Ne.symm n3) (Ne.symm n7)]; exact hoe
  ·exact hie.mono fun o ho=>g o (fun e=>n5 (e▸ho)) (fun e=>n9 (e▸ho))
theorem BInv.to (h:BInv S H hs ob bs T rs ids) (hw:T.Wf) (hi:i<bs.length) : ∃ (oe:Nat) (ce:List V),rs.flatten[i*6+4]? = some (.slice oe 0 bs[i].term.to.length)/\T.get oe=some (2,ce):=by
 obtain ⟨r1,r2,i1,i2,op,oc,oe,rc,ce,ip,ic,ie,rfl,h6,hl,hop,hoc,hrc,hoe,hie,rfl,hnd,hput⟩:=h.at hw hi;exact ⟨oe,ce,JY h6 hl (q:=4) rfl,hoe⟩
theorem BInv.edge (h:BInv S H hs ob bs T rs ids) (hw:T.Wf) (hi:i<bs.length) {k:Nat} (hk:k<bs[i].term.to.length) : ∃ (oe:Nat) (ce:List V) (oa:Nat),rs.flatten[i*6+4]? = some (.slice oe 0 bs[i].term.to.length)/\T.get oe=some (2,ce)/\ce.length=bs[i].term.to.length*2/\ce[k*2]? = some (vint bs[i].term.to[k].to)/\ce[k*2+1]? = some (.slice oa 0 bs[i].term.to[k].args.length)/\T.get oa=some (1,bs[i].term.to[k].args.map vint)/\oe<T.nx/\ob≠oe/\(∀ o∈hs,o≠oe) /\
  ∀ (T':Store) (on:Nat) (l:List Int),T.nx<=on->T.nx<=T'.nx->(∀ o,o<T.nx->o≠oe->T'.get o=T.get o)->T'.get oe=some (2,ce.set (k*2+1) (.slice on 0 l.length))->T'.get on=some (1,l.map vint) -> ∃ ids',
   BInv S H hs ob (bs.set i ⟨bs[i].params,bs[i].code,⟨bs[i].term.kind,bs[i].term.arg,bs[i].term.to.set k ⟨bs[i].term.to[k].to,l⟩,bs[i].term.args⟩⟩) T' rs ids':=by
 obtain ⟨r1,r2,i1,i2,op,oc,oe,rc,ce,ip,ic,ie,rfl,h6,hl,hop,hoc,hrc,hoe,hie,rfl,hnd,hput⟩:=h.at hw hi;have hcb:=h.cb;have hlt:=h.all_lt hw;obtain ⟨n0,n1,n2,n3,n4,n5,n6,n7,n8,n9,n10,n11,n12,n13,n14,n15,n16,n17⟩:=jcE hnd;obtain ⟨res,rfl,hrl,hres⟩:=jco (enc:=jk) (tys:=KZ) (fun x=>by rw [ze]; rfl) hie;obtain ⟨e1,e,e2,j1,jj,j2,rfl,hel,rfl,hrow,hep⟩:=hres.at (ac hk);have he2:=hres.len.2;have he1 : ∀ s∈e1,s.length=2:=fun s hs=>he2 s (by simp [hs])
 obtain ⟨oa,rfl,rfl,hoa⟩:=edge_row hrow;refine ⟨oe,_,oa,JY h6 hl (q:=4) rfl,hoe, ?_, ?_, ?_,hoa,jl hw hoe,n3,fun o ho=>(n0 o ho).2.2.2.1, ?_⟩
 ·rw [zq he2,hrl]; rfl
 ·exact JY he1 hel (q:=0) rfl
 ·exact JY he1 hel (q:=1) rfl
 intro T' on l hon hnx hkeep hge hgn;have hfs:=ZH (m:=2) (r:=[vint bs[i].term.to[k].to,V.slice oa 0 bs[i].term.to[k].args.length]) (r2:=e2) (q:=1) (w := .slice on 0 l.length) he1 hel (by simp);rw [hfs] at hge;have hin : ∀ o∈op::oc::(ic++oe::(j1++([oa]++j2))),o<T.nx:=fun o ho=>hlt o (by
  simp only [aG,aL,List.not_mem_nil,or_false] at ho ⊢;rcases ho with h | h | h | h | h | h | h<;>simp [h])
 have hno:on∉op::oc::(ic++oe::(j1++([oa]++j2))):=fun hm=>by have:=hin on hm; omega
 have g : ∀ o,o∈op::oc::(ic++oe::(j1++([oa]++j2)))->o≠oe->T'.get o=T.get o:=fun o ho hne=>hkeep o (hin o ho) hne
 have:=hput T' [V.slice op 0 bs[i].params.length, .slice oc 0 bs[i].code.length,vint bs[i].term.kind,vint bs[i].term.arg, .slice oe 0 bs[i].term.to.length,vl vint bs[i].term.args] ⟨bs[i].params,bs[i].code,⟨bs[i].term.kind,bs[i].term.arg,bs[i].term.to.set k ⟨bs[i].term.to[k].to,l⟩,bs[i].term.args⟩⟩ (op::oc::(ic++oe::(j1++([on]++j2)))) hnx ?_ ?_ ?_ ?_ ?_
 ·exact ⟨_,this⟩
 ·intro o ho _ h2;refine hkeep o ho ?_;rintro rfl;exact h2 (by simp)
 ·rw [hkeep ob (hlt ob (by simp)) n3]; exact hcb
 ·have hr':=hep T' [vint bs[i].term.to[k].to,V.slice on 0 l.length] ⟨bs[i].term.to[k].to,l⟩ [on] (fun o ho=>g o (by
   rcases aG.1 ho with h | h<;>simp [h]) (fun e=>n14 (e▸by rcases aG.1 ho with h | h<;>simp [h]))) (edge_mk (e:=⟨bs[i].term.to[k].to,l⟩) hgn)
  have hbm:=jcY (T:=T') (b:=⟨bs[i].params,bs[i].code,⟨bs[i].term.kind,bs[i].term.arg,bs[i].term.to.set k ⟨bs[i].term.to[k].to,l⟩,bs[i].term.args⟩⟩) (op:=op) (oc:=oc) (oe:=oe) (rs:=rc) (ic:=ic) (ce:=(e1++[vint bs[i].term.to[k].to,V.slice on 0 l.length]::e2).flatten) (ie:=j1++([on]++j2)) (by rw [g op (by simp) n7]; exact hop) (by rw [g oc (by simp) n10]; exact hoc)
   (hrc.mono fun o ho=>g o (by simp [ho]) (fun e=>n13 (e▸ho))) hge hr'.owl
  simpa using hbm
 ·have hd2:=(List.nodup_append.1 hnd).2.1.of_cons;refine List.nodup_iff_count.2 fun o => ?_
  have c:=List.nodup_iff_count.1 hd2 o;have c0:on=o->(op::oc::(ic++oe::(j1++([oa]++j2)))).count o=0:=fun e=>List.count_eq_zero.2 (e▸hno)
  simp only [List.count_append,List.count_cons,List.count_nil] at c c0 ⊢
  by_cases e:on=o
  ·have:=c0 e;subst e;simp only [beq_self_eq_true,if_true];omega
  ·have:(on==o)=false:=by simpa using e
   rw [this];simp only [aF,if_false];omega
 ·intro o ho;simp only [aG,aL,List.not_mem_nil,or_false] at ho ⊢;rcases ho with h | h | h | h | h | h | h
  ·exact .inl (.inl h)
  ·exact .inl (.inr (.inl h))
  ·exact .inl (.inr (.inr (.inl h)))
  ·exact .inl (.inr (.inr (.inr (.inl h))))
  ·exact .inl (.inr (.inr (.inr (.inr (.inl h)))))
  ·subst h; exact .inr hon
  ·exact .inl (.inr (.inr (.inr (.inr (.inr (.inr h))))))
end
end Go.Vw
namespace Go.Vw
open Go.Proofs Go.RowKit
attribute [-simp] List.map_set
abbrev idxU (p:Int->Bool) (l:List Int) (k:Nat):Int:=(idxG (fun (_:Unit) x=>p x) (fun _ _=>()) () l k).1
section
variable {S:Store} {l:List Int} {oc:Nat} {fid:FuncId} {caps:List V} {p:Int->Bool}
theorem IndexDelI_v (hc:jH Tryz.prog fid=true) (hlim:l.length<2^62) (hclo : ∀ v∈l,bS fid (vint v::caps) (.bool (p v))) (hg:S.get oc=some (1,l.map vint)) :
  bU 74 [.slice oc 0 l.length, .func fid caps] S fun v T=>v=vint (idxU p l 0)/\T=S:=by
 refine QB (c:=jc Tryz.f74) Tryz.func74 Tryz.ntmps74 fun hwf=>?_
 have lo:=jl hwf hg;have b0:=fun u m => @jh S u m oc lo
 refine bt b0 hg ?_
 refine QT ?_;refine jd [0,1,7,8] rfl (fun c σ S' => ∃ (k:Nat),k<=l.length/\c=l.length-k/\idxU p (l.drop k) k=idxU p l 0/\σ=[(0, .slice oc 0 l.length),(1, .func fid caps),(7,vnat l.length),(8,vnat k)]/\S'=St S [] []) l.length ?_ ?_
 ·exact ⟨0,by omega,rfl,rfl,by simp [Fr.only],rfl⟩
 ·rintro c σ T ⟨k,hk,rfl,hd,rfl,rfl⟩
  by_cases hkt:k<l.length
  ·have hst:idxU p (l.drop k) k=if p l[k] then (k:Int) else idxU p (l.drop (k+1)) (k+1):=by
    rw [am hkt,idxU,idxG]; split<;>rfl
   have hw:=jg hkt (by omega);have cc:=hclo l[k] (ah hkt)
   refine bv hkt b0 hg ?_
   refine QP ?_ (r:=by conv=>lhs;simp[QV,hkt,b0,hg]);refine qx rfl hc rfl cc ?_
   cases hp:p l[k] with
   | true =>
    rw [hp] at hst;simp only [if_true] at hst;rw [hst] at hd;refine bQ ?_
    exact zi ⟨by rw [<-hd]; rfl,jM hwf⟩
   | false =>
    rw [hp] at hst;simp only [aF,if_false] at hst;refine QW ?_
    refine bx hw ?_
    show js _ _ _ _ _ _ _;exact again ⟨ao hkt (aY k),k+1,hkt,rfl,by rw [<-hst,hd],by simp [Fr.only,Fr.look],rfl⟩
  ·have e:l.drop k=[]:=by rw [aH]; omega
   rw [e] at hd;simp only [idxU,idxG] at hd
   refine bx hkt ?_
   exact zi ⟨congrArg vint hd,jM hwf⟩
theorem DelI_v (hc:jH Tryz.prog fid=true) (hlim:l.length<2^62) (hclo : ∀ v∈l,bS fid (vint v::caps) (.bool (!p v))) (hg:S.get oc=some (1,l.map vint)) :
  bU 30 [.slice oc 0 l.length, .func fid caps] S fun v T=>v = .slice oc 0 (l.filter p).length/\T=S.upd oc (1,(l.filter p).map vint):=by
 have ci:=fun hg => @IndexDelI_v S l oc fid caps (fun v => !p v) hc hlim hclo hg
 have hdel:=KU p l;refine QB (c:=jc Tryz.f30) Tryz.func30 Tryz.ntmps30 fun hwf=>?_
 have lo:=jl hwf hg;have b0:=fun u m => @jh S u m oc lo
 have hup : ∀ x c,(St S [(oc,x)] []).upd oc c=St S [(oc,some c)] []:=fun x c=>by rw [jP lo]; simp [uSet]
 have ci1:=ci hg;rw [<-jM hwf] at ci1
 refine bw ?_
 refine QP ?_;refine jK rfl ci1 ?_;rintro X T ⟨rfl,rfl⟩;rcases jcH (fun (_:Unit) x => !p x) (fun _ _=>()) l () 0 with ⟨h1,h2⟩ | ⟨i,hi,h1,h2⟩
 ·have h1':idxU (fun v => !p v) l 0 = -1:=h1;rw [hdel] at h2;have h3:l.filter p=l:=by simpa using congrArg Prod.fst h2
  refine bB h1' ?_;refine bR ?_
  refine zi ⟨by rw [h3]; rfl, ?_⟩;rw [h3,jM hwf];refine Store.ext' (funext fun o => ?_) rfl;rw [qo]; split
  ·rename_i e; subst e; exact hg
  ·rfl
 rw [bd] at h1;have hw:=jg hi (by omega);have h1':idxU (fun v => !p v) l 0=(i:Int):=h1;rw [hdel] at h2;have h2':l.filter p=l.take i++(l.drop (i+1)).filter p:=by
  have:=congrArg Prod.fst h2;rw [KU p] at this;exact this
 have hi1 : ¬ ((i:Int) = -1):=by omega
 refine bB h1' ?_;refine QN ?_
 refine bt hi1 hw ?_
 refine QT ?_;refine jd [0,1,5,6] rfl (fun c σ S' => ∃ (K:List Int) (j:Nat) (cells:List V),cells.length=l.length/\cells.take K.length=K.map vint/\cells.drop j=(l.drop j).map vint/\K.length<j/\j<=l.length/\c=l.length-j/\K++(l.drop j).filter p=l.filter p/\σ=[(0, .slice oc 0 l.length),(1, .func fid caps),(5,vnat K.length),(6,vnat j)]/\S'=St S [(oc,some (1,cells))] []) (l.length-(i+1)) ?_ ?_
 ·refine ⟨l.take i,i+1,l.map vint,by simp, ?_,by rw [List.map_drop],by simp; omega,by omega,rfl,h2'.symm, ?_, ?_⟩
  ·rw [List.length_take,Nat.min_eq_left (by omega),List.map_take]
  ·simp [Fr.only,Fr.look,Nat.min_eq_left (Nat.le_of_lt hi)]
  ·exact (jdc hwf [(oc,some (1,l.map vint))] (fun p hp=>by simp only [aW] at hp; subst hp; exact hg)).symm▸jM hwf
 ·rintro c σ T3 ⟨K,j,cells,hcl,hck,hcd,hKj,hj,rfl,hd,rfl,rfl⟩
  by_cases hjt:j<l.length
  ·have hw2:=jg hjt (by omega);have hKw:=jg (k:=K.length) (n:=l.length) (by omega) (by omega);have hr:=am hjt;have hjc:j<cells.length:=by omega
   have hcj:cells[j]=vint l[j]:=by
    have e1:=am hjc;rw [e1,hr,List.map_cons] at hcd;exact (List.cons.inj hcd).1
   have hcd2:cells.drop (j+1)=(l.drop (j+1)).map vint:=by
    have e1:=am hjc;rw [e1,hr,List.map_cons] at hcd;exact (List.cons.inj hcd).2
   have cc:=hclo l[j] (ah hjt);rw [hr] at hd
   refine bJ hjt hjc b0 hcl hcj ?_
   refine QP ?_ (r:=by conv=>lhs;simp[QV,hjt,hjc,b0,hcl,hcj]);refine qx rfl hc rfl cc ?_
   cases hp:p l[j] with
   | false =>
    rw [List.filter_cons_of_neg (by simp [hp])] at hd;refine QW ?_
    refine bx hw2 ?_
    show js _ _ _ _ _ _ _;exact again ⟨ao hjt (aY j),K,j+1,cells,hcl,hck,hcd2,by omega,hjt,rfl,hd,by simp [Fr.only,Fr.look],rfl⟩
   | true =>
    rw [List.filter_cons_of_pos hp] at hd;have hK:K.length<cells.length:=by omega
    have hKl:K.length<l.length:=by omega
    refine QW ?_
    repeat first|refine QG ?_|refine QY ?_ (r:=by conv=>lhs;simp[QV,hw2,hKw,hjt,hjc,hcl,b0,hK,hKl,hup])
    have hsl:K.length+[vint l[j]].length<=cells.length:=by simp; omega
    have hsp:cells.set K.length (vint l[j])=jS cells K.length [vint l[j]]:=by
     rw [jS,List.set_eq_take_append_cons_drop]; simp [hK]
    refine again ⟨ao hjt (aY j),K++[l[j]],j+1,cells.set K.length (vint l[j]),by rw [List.length_set]; exact hcl, ?_, ?_,by simp; omega,hjt,rfl,by rw [<-hd]; simp,by simp [Fr.only,Fr.look],rfl⟩
    ·have:=jaa cells K.length [vint l[j]] hsl;rw [hck] at this;rw [hsp];simpa using this
    ·rw [hsp,jab _ _ _ _ hsl (by simp; omega)]; exact hcd2
  ·have hje:j=l.length:=by omega
   subst hje;have e:l.drop l.length=[]:=by simp
   rw [e,List.filter_nil,List.append_nil] at hd;have hKl:K.length<=l.length:=by omega
   have hclr:Jz 1 [V.int .i64 0] (St S [(oc,some (1,cells))] []) (.slice oc K.length (l.length-K.length))=some (St S [(oc,some (1,jS cells K.length (rep0 [V.int .i64 0] (l.length-K.length))))] []):=by
    have hle:K.length+(l.length-K.length)*1<=cells.length:=by omega
    simp only [Jz,b0,uGet,if_true,hle,hup]
   generalize hcz:jS cells K.length (rep0 [V.int .i64 0] (l.length-K.length))=cz at hclr;have hct:cz.take K.length=K.map vint:=by rw [<-hcz,YS _ _ _ (by omega),hck]
   refine bt hjt b0 ?_
   refine QY ?_ (r:=by conv=>lhs;simp[QV,b0,hKl,hclr]);have hgu:(St S [(oc,some (1,cz))] []).get oc=some (1,cz):=by rw [b0]; simp [uGet]
   apply jE
   ·exact Reach.trim 0 rfl hgu K.length
   simp only [hct,hup]
   refine bt b0 hKl ?_
   refine zi ⟨by rw [<-hd]; rfl, ?_⟩;rw [KF hwf lo,hd]
end
end Go.Vw
namespace Ss
def dKeepO (need:List Bool) (op:Int) (outs:List Int):Bool := !pure op||on need (outs.getD 0 0)
end Ss
namespace Go.Vw
open Go.Proofs Go.RowKit
attribute [-simp] List.map_set
theorem DClo2_v (need:List Bool) (v:Int) (hv:Ss.InR need.length v):bS 31 [vint v, .ref (.list (need.map V.bool))] (.bool (!Ss.on need v)):=by
 intro S;obtain ⟨v0,v1⟩:=hv;obtain ⟨m,rfl⟩ : ∃ m:Nat,v=m:=⟨v.toNat,by omega⟩
 have hm:m<need.length:=by omega
 have hon:Ss.on need (m:Int)=need[m]:=by rw [Ss.on,ag,Int.toNat_natCast,ac hm]; rfl
 rw [hon];have e:V.list (need.map V.bool)=vl V.bool need:=rfl;rw [e];refine QB (c:=jc Tryz.f31) Tryz.func31 Tryz.ntmps31 fun hwf=>?_
 refine bx hm ?_
 exact ja hwf (by simp) rfl
theorem DClo1_v (need:List Bool) (S:Store) (x:Ss.Ins) (oa ou:Nat) (hx:x.Fits) (hp:Ss.pure x.op=true -> ∃ o,x.outs=[o]) (hr : ∀ v∈x.outs,Ss.InR need.length v) (gu:S.get ou=some (1,x.outs.map vint)) :
  bU 28 [.agg [vint x.op,vu x.n, .slice oa 0 x.args.length, .slice ou 0 x.outs.length], .ref (.list (need.map V.bool))] S fun v T=>v = .bool (!Ss.dKeepO need x.op x.outs)/\T=S:=by
 have cp:=Pure_v x.op hx.1;have e:V.list (need.map V.bool)=vl V.bool need:=rfl;rw [e];obtain ⟨op,n,args,outs⟩:=x;simp only at *
 generalize hpp:Ss.pure op=pp at *
 refine QB (c:=jc Tryz.f28) Tryz.func28 Tryz.ntmps28 fun hwf=>?_
 have lu:=jl hwf gu;have bu:=fun u m => @jh S u m ou lu
 cases pp with
 | false =>
  obtain ⟨q,hq⟩ : ∃ q,q=false:=⟨_,rfl⟩
  rw [<-hq] at cp;refine QY ?_;refine QT ?_;refine QD (r:=by conv=>lhs;simp[QV]) (k:=?_);refine QL (cp) ?_;refine bB hq ?_;refine bR ?_
  exact jcQ [] hwf (by decide) (by simp) (by simp [gcL]) rfl ⟨by simp [Ss.dKeepO,hpp],jM hwf⟩
 | true =>
  obtain ⟨o,rfl⟩:=hp rfl;obtain ⟨v0,v1⟩:=hr o (by simp);obtain ⟨m,rfl⟩ : ∃ m:Nat,o=m:=⟨o.toNat,by omega⟩
  have hm:m<need.length:=by omega
  have hon:Ss.on need (m:Int)=need[m]:=by rw [Ss.on,ag,Int.toNat_natCast,ac hm]; rfl
  have hk:Ss.dKeepO need op [(m:Int)]=need[m]:=by rw [Ss.dKeepO,hpp,List.getD_cons_zero,hon]; rfl
  obtain ⟨q,hq⟩ : ∃ q,q=true:=⟨_,rfl⟩
  rw [<-hq] at cp;rw [hk];refine QY ?_;refine QT ?_;refine QD (r:=by conv=>lhs;simp[QV]) (k:=?_);refine QL (cp) ?_;refine QM (by conv=>lhs;simp[QV,hq,bu,gu,hm]) ?_;refine bR ?_
  exact jcQ [] hwf (by decide) (by simp) (by simp [gcL]) rfl ⟨rfl,jM hwf⟩
end Go.Vw
