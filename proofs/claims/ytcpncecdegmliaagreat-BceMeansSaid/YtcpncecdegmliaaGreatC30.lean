import Derived.Test.YtcpncecdegmliaaGreatC29
/- Part of the proof. -/
set_option linter.unusedVariables false
set_option linter.unusedSimpArgs false
set_option maxRecDepth 10000
set_option maxHeartbeats 4000000
namespace Go.Vw
open Go.Proofs Go.RowKit
inductive Rows {α:Type} (T:Store) (tys:List Ty) (enc:α→V):List α→List (List V)→List Nat→Prop
 | nil:Rows T tys enc [] [] []
 | cons {x:α} {r:List V} {ii:List Nat} {xs:List α} {rs:List (List V)} {ids:List Nat} (h:OwL T tys r (enc x).cells ii) (t:Rows T tys enc xs rs ids):Rows T tys enc (x::xs) (r::rs) (ii++ids)
section
variable {α:Type} {T T':Store} {tys:List Ty} {enc:α→V}
theorem rows_of (hs : ∀ x,(enc x).cells.length=tys.length) : ∀ {xs:List α} {cells:List V} {ids:List Nat},OwL T (reps xs.length tys) cells (js enc xs) ids → ∃ rs,cells=rs.flatten∧rs.length=xs.length∧Rows T tys enc xs rs ids
 | [],cells,ids,h=>by
  rw [List.length_nil,reps_zero] at h
  cases h with
  | nil=>exact ⟨[],rfl,rfl, .nil⟩
 | x::xs,cells,ids,h=>by
  rw [List.length_cons,zV] at h;obtain ⟨r1,r2,x1,x2,i1,i2,rfl,hx,rfl,k1,k2⟩:=h.split;have e:js enc (x::xs)=(enc x).cells++js enc xs:=by simp [js]
  rw [e] at hx;obtain ⟨rfl,rfl⟩:=List.append_inj hx (by rw [hs,k1.len.2]);obtain ⟨rs,rfl,hl,hr⟩:=rows_of hs k2;exact ⟨r1::rs,rfl,by simp [hl], .cons k1 hr⟩
theorem Rows.owl {xs:List α} {rs:List (List V)} {ids:List Nat} (h:Rows T tys enc xs rs ids):OwL T (reps xs.length tys) rs.flatten (js enc xs) ids:=by
 induction h with
 | nil=>exact .nil
 | @cons x r ii xs rs ids h t ih =>
  have e:js enc (x::xs)=(enc x).cells++js enc xs:=by simp [js]
  rw [List.length_cons,zV,List.flatten_cons,e];exact h.append ih
theorem Rows.mono {xs:List α} {rs:List (List V)} {ids:List Nat} (h:Rows T tys enc xs rs ids):(∀ o∈ids,T'.get o=T.get o)→Rows T' tys enc xs rs ids:=by
 induction h with
 | nil=>exact fun _ => .nil
 | cons h t ih=>exact fun hk => .cons (h.mono fun o ho=>hk o (by simp [ho])) (ih fun o ho=>hk o (by simp [ho]))
theorem Rows.len {xs:List α} {rs:List (List V)} {ids:List Nat} (h:Rows T tys enc xs rs ids):rs.length=xs.length ∧ ∀ r∈rs,r.length=tys.length:=by
 induction h with
 | nil=>simp
 | cons h t ih=>exact ⟨by simp [ih.1],fun r hr=>by rcases List.mem_cons.1 hr with rfl | hr; exact h.len.1; exact ih.2 r hr⟩
theorem Rows.del {κ:Type} (p:κ→List V→Bool) (nx:κ→List V→κ) (q:κ→α→Bool) (ny:κ→α→κ) {xs:List α} {rs:List (List V)} {ids:List Nat} (h:Rows T tys enc xs rs ids) :
  (∀ x r ii,x∈xs→OwL T tys r (enc x).cells ii→(∀ o∈ii,o∈ids) → ∀ a,p a r=q a x∧nx a r=ny a x) → ∀ a, ∃ ids',Rows T tys enc (delG q ny a xs).1 (delG p nx a rs).1 ids'∧ids'.Sublist ids∧(delG p nx a rs).2=(delG q ny a xs).2:=by
 induction h with
 | nil=>exact fun _ a=>⟨[], .nil,List.Sublist.refl _,rfl⟩
 | @cons x r ii xs rs ids h t ih =>
  intro hk a;obtain ⟨h1,h2⟩:=hk x r ii (by simp) h (fun o ho=>by simp [ho]) a;obtain ⟨ids',k1,k2,k3⟩:=ih (fun y s jj hy ho hs=>hk y s jj (by simp [hy]) ho fun o h=>by simp [hs o h]) (ny a x);simp only [delG,h1,h2]
  by_cases hq:q a x=true
  ·rw [if_pos hq,if_pos hq];exact ⟨ids',k1,k2.trans (List.sublist_append_right _ _),k3⟩
  ·rw [if_neg hq,if_neg hq];exact ⟨ii++ids', .cons h k1,(List.Sublist.refl ii).append k2,k3⟩
end
theorem Rows.at {α:Type} {T:Store} {tys:List Ty} {enc:α→V} {xs:List α} {rs:List (List V)} {ids:List Nat} (h:Rows T tys enc xs rs ids) : ∀ {k:Nat} {x:α},xs[k]? = some x → ∃ (r1:List (List V)) (r:List V) (r2:List (List V)) (i1 ii i2:List Nat),rs=r1++r::r2∧r1.length=k∧ids=i1++(ii++i2)∧OwL T tys r (enc x).cells ii ∧
  ∀ (T':Store) (r':List V) (x':α) (ii':List Nat),(∀ o∈i1++i2,T'.get o=T.get o)→OwL T' tys r' (enc x').cells ii'→Rows T' tys enc (xs.set k x') (r1++r'::r2) (i1++(ii'++i2)):=by
 induction h with
 | nil=>intro k x hx; simp at hx
 | @cons y r ii xs rs ids h t ih =>
  intro k x hx
  cases k with
  | zero =>
   simp only [List.getElem?_cons_zero,Option.some.injEq] at hx;subst hx;exact ⟨[],r,rs,[],ii,ids,rfl,rfl,rfl,h,fun T' r' x' ii' hk ho=>Rows.cons (ids:=ids) ho (t.mono fun o hm=>hk o (by simpa using hm))⟩
  | succ k =>
   obtain ⟨r1,s,r2,i1,jj,i2,e1,e2,e3,e4,e5⟩:=ih (k:=k) (x:=x) (by simpa using hx);subst e1; subst e3;refine ⟨r::r1,s,r2,ii++i1,jj,i2,rfl,by simp [e2],by simp,e4,fun T' r' x' ii' hk ho => ?_⟩;have:=Rows.cons (x:=y) (h.mono fun o hm=>hk o (by simp [hm])) (e5 T' r' x' ii' (fun o hm=>hk o (by
    rcases List.mem_append.1 hm with hm | hm<;>simp [hm])) ho)
   simpa using this
theorem flat_mid {m:Nat} {r1:List (List V)} {r:List V} {r2:List (List V)} {k q:Nat} {w:V} (h1 : ∀ s∈r1,s.length=m) (hk:r1.length=k) (hr:r[q]? = some w):(r1++r::r2).flatten[k*m+q]? = some w:=by
 have hq:q<r.length:=(List.getElem?_eq_some_iff.1 hr).1;have hl:=Jb h1;rw [hk] at hl;rw [List.flatten_append,List.flatten_cons, ←hl,List.getElem?_append_right (by omega),Nat.add_sub_cancel_left,List.getElem?_append_left hq];exact hr
theorem flat_set {m:Nat} {r1:List (List V)} {r:List V} {r2:List (List V)} {k q:Nat} {w:V} (h1 : ∀ s∈r1,s.length=m) (hk:r1.length=k) (hq:q<r.length):(r1++r::r2).flatten.set (k*m+q) w=(r1++r.set q w::r2).flatten:=by
 have hl:=Jb h1;rw [hk] at hl;rw [List.flatten_append,List.flatten_cons, ←hl,List.set_append_right _ _ (by omega),Nat.add_sub_cancel_left,List.set_append_left _ _ hq,List.flatten_append,List.flatten_cons]
theorem ins_row {T:Store} {x:Ss.Ins} {r:List V} {ii:List Nat} (h:OwL T insD r (jp x).cells ii) : ∃ oa ou,r=[vint x.op,vu x.n, .slice oa 0 x.args.length, .slice ou 0 x.outs.length]∧ii=[oa,ou]∧T.get oa=some (1,x.args.map vint)∧T.get ou=some (1,x.outs.map vint):=by
 rw [zJ] at h;generalize hA:vl vint x.args=A at h;generalize hB:vl vint x.outs=B at h
 cases h with
 | c h1 h=>cases h with
  | c h2 h=>cases h with
   | @s _ _ _ _ ca ys i j oa ho hs d h=>cases h with
    | @s _ _ _ _ cb zs i2 j2 ou ho2 hs2 d2 h=>cases h with
     | nil =>
      have e1:ys=x.args.map vint:=by
       have:V.list (x.args.map vint)=V.list ys:=hA;exact (V.list.inj this).symm
      have e2:zs=x.outs.map vint:=by
       have:V.list (x.outs.map vint)=V.list zs:=hB;exact (V.list.inj this).symm
      subst e1; subst e2;have c1:=Jt (n:=(x.args.map vint).length*1) (by rw [←reps_c]; exact d);have c2:=Jt (n:=(x.outs.map vint).length*1) (by rw [←reps_c]; exact d2);rw [zr,qp] at c1 c2;refine ⟨oa,ou,by simp, ?_, ?_, ?_⟩
      ·rw [c1.2,c2.2]; rfl
      ·rw [ho,c1.1]; rfl
      ·rw [ho2,c2.1]; rfl
theorem block_row {T:Store} {b:Ss.Block} {r:List V} {ii:List Nat} (h:OwL T blkD r (je b).cells ii) : ∃ (op oc oe:Nat) (rs:List (List V)) (ce:List V) (ip ic ie:List Nat),r=[.slice op 0 b.params.length, .slice oc 0 b.code.length,vint b.term.kind,vint b.term.arg, .slice oe 0 b.term.to.length,vl vint b.term.args]∧ii=op::oc::(ic++oe::ie) ∧
  T.get op=some (1,b.params.map vint)∧T.get oc=some (4,rs.flatten)∧Rows T insD jp b.code rs ic∧T.get oe=some (2,ce)∧OwL T (reps b.term.to.length YR) ce (js ji b.term.to) ie:=by
 rw [zf] at h;generalize hA:vl vint b.params=A at h;generalize hB:vl jp b.code=B at h;generalize hC:vl ji b.term.to=C at h
 cases h with
 | @s _ _ _ _ ca ys i j op ho hs d h=>cases h with
  | @s _ _ _ _ cb zs i2 j2 oc ho2 hs2 d2 h=>cases h with
   | c h1 h=>cases h with
    | c h2 h=>cases h with
     | @s _ _ _ _ cc us i3 j3 oe ho3 hs3 d3 h=>cases h with
      | c h3 h=>cases h with
       | nil =>
        have e1:ys=b.params.map vint:=by
         have:V.list (b.params.map vint)=V.list ys:=hA;exact (V.list.inj this).symm
        have e2:zs=b.code.map jp:=by
         have:V.list (b.code.map jp)=V.list zs:=hB;exact (V.list.inj this).symm
        have e3:us=b.term.to.map ji:=by
         have:V.list (b.term.to.map ji)=V.list us:=hC;exact (V.list.inj this).symm
        subst e1; subst e2; subst e3;have c1:=Jt (n:=(b.params.map vint).length*1) (by rw [←reps_c]; exact d);rw [zr,qp] at c1;rw [List.length_map,zr] at d2 d3;obtain ⟨rs,rfl,hl,hr⟩:=rows_of (fun x=>by rw [zJ]; rfl) d2;refine ⟨op,oc,oe,rs,cc,[],i2,i3,by simp, ?_, ?_,ho2,hr,ho3,d3⟩
        ·rw [c1.2]; simp
        ·rw [ho,c1.1]; rfl
theorem block_mk {T:Store} {b:Ss.Block} {op oc oe:Nat} {rs:List (List V)} {ce:List V} {ic ie:List Nat} (h1:T.get op=some (1,b.params.map vint)) (h2:T.get oc=some (4,rs.flatten)) (h3:Rows T insD jp b.code rs ic) (h4:T.get oe=some (2,ce)) (h5:OwL T (reps b.term.to.length YR) ce (js ji b.term.to) ie) :
  OwL T blkD [.slice op 0 b.params.length, .slice oc 0 b.code.length,vint b.term.kind,vint b.term.arg, .slice oe 0 b.term.to.length,vl vint b.term.args] (je b).cells (op::oc::(ic++oe::ie)):=by
 rw [zf];have hP:OwL T (.s [.c]::[.s insD, .c, .c, .s YR, .c]) (.slice op 0 b.params.length::[.slice oc 0 b.code.length,vint b.term.kind,vint b.term.arg, .slice oe 0 b.term.to.length,vl vint b.term.args]) (vl vint b.params::[vl jp b.code,vint b.term.kind,vint b.term.arg,vl ji b.term.to,vl vint b.term.args]) (op::oc::(ic++oe::ie)):=by
  refine OwL.slice (s:=1) (enc:=vint) (fun _=>rfl) (fun _=>rfl) b.params (by rw [qp]; exact h1) ?_;have h6:=h3.owl;have t1:OwL T [.s YR, .c] [.slice oe 0 b.term.to.length,vl vint b.term.args] [vl ji b.term.to,vl vint b.term.args] (oe::ie):=by
   have:=OwL.s (S:=T) (o:=oe) (tys:=YR) (cells:=ce) (ys:=b.term.to.map ji) (i:=ie) (j:=[]) h4 (fun y hy=>(by
    obtain ⟨e,_,rfl⟩:=List.mem_map.1 hy;exact ⟨by rw [JK]; rfl,KF e⟩)) (by rw [List.length_map,zr]; exact h5) (.c (x:=vl vint b.term.args) rfl .nil)
   rw [List.length_map,List.append_nil] at this;exact this
  have:=OwL.s (S:=T) (o:=oc) (tys:=insD) (cells:=rs.flatten) (ys:=b.code.map jp) (i:=ic) (j:=oe::ie) h2 (fun y hy=>(by
   obtain ⟨e,_,rfl⟩:=List.mem_map.1 hy;exact ⟨by rw [zJ]; rfl,JJ e⟩)) (by rw [List.length_map,zr]; exact h6) (.c (x:=vint b.term.kind) rfl (.c (x:=vint b.term.arg) rfl t1))
  rw [List.length_map] at this;exact this
 exact hP
end Go.Vw
namespace Go.Vw
open Go.Proofs Go.RowKit
attribute [-simp] List.map_set
theorem jaU {f:Ss.Fn} (hf:f.Fits):Fits (Ss.succs f.blocks):=by
 refine ⟨by rw [Ss.succs,List.length_map]; have:=hf.2.2.1; omega,fun l hl => ?_⟩;obtain ⟨b,hb,rfl⟩:=List.mem_map.1 hl;have:=(hf.2.2.2 b hb).2.2.2.2.1.1;rw [Ss.rowOf,List.length_map]; omega
theorem vcalls_cut {P:Program} {f:FuncId} {args:List V} {S S':Store} {X:V} (hw:S'.Wf) (hn:S'.nx=S.nx) (hX:X.ids (fun o=>decide (o<S.nx))=true)
  (h:VCalls P f args S fun r T=>r=X∧S'.nx≤T.nx ∧ ∀ o,o<S'.nx→T.get o=S'.get o):VCalls P f args S fun r T=>r=X∧T=S':=by
 refine qV (h.mono ?_);rintro r T ⟨rfl,h1,h2⟩;refine ⟨r,S', ?_,rfl,rfl⟩;rw [←hn];exact GhostB.cut hw ⟨h1,h2⟩ (by rw [hn]; exact hX)
def vToInt:V→Int
 | .int _ n=>n
 | _=>0
theorem map_vToInt (l:List Int):(l.map vint).map vToInt=l:=by
 rw [List.map_map]; exact (List.map_congr_left fun x _=>rfl).trans (List.map_id _)
def insOf (S:Store):List V→Ss.Ins
 | [.int _ op, .int _ n, .slice oa _ _,_]=>⟨op,n,((S.get oa).getD (0,[])).2.map vToInt,[]⟩
 | _=>default
theorem insOf_row {S:Store} {x:Ss.Ins} {oa:Nat} {o1 o2:Nat} {k1 k2:Nat} {z:V} (h:S.get oa=some (1,x.args.map vint)):insOf S [vint x.op,vu x.n, .slice oa k1 k2,z]=⟨x.op,x.n,x.args,[]⟩:=by
 simp only [vint,vu,insOf,h,Option.getD_some,map_vToInt]
theorem jao (near:List Int) (n:Int) : ∀ (code:List Ss.Ins) (M:Ss.Far),delG (Ss.pcov near n) (Ss.pnext near n) M code=Ss.pcode near n M code
 | [],M=>rfl
 | x::r,M=>by simp only [delG,Ss.pcode,jao near n r]
theorem Zg {κ ρ:Type} (p:κ→ρ→Bool) (nx:κ→ρ→κ) : ∀ (rs:List ρ) (a:κ), ∀ r∈(delG p nx a rs).1,r∈rs
 | [],a,r,h=>by simp [delG] at h
 | x::rs,a,r,h=>by
  rw [delG] at h;split at h
  ·exact List.mem_cons_of_mem _ (Zg p nx rs _ r h)
  ·rcases List.mem_cons.1 h with rfl | h
   ·simp
   ·exact List.mem_cons_of_mem _ (Zg p nx rs _ r h)
theorem DelBce_v (S:Store) (near:List Int) (n:Int) (M:Ss.Far) (code:List Ss.Ins) (rs:List (List V)) (pn pr pf om oc:Nat) (ic:List Nat) (hx : ∀ x∈code,x.Fits) (hx1 : ∀ x∈code,x.op=257→x.args≠[]∧x.n≤8589934592) (hup:Ss.UpEnds near 256 n) (hn:near.length<2^62) (hcl:code.length<2^62)
  (hr:Rows S insD jp code rs ic) (gn:S.get pn=some (1,[vint n])) (gr:S.get pr=some (1,[vl vint near])) (gf:S.get pf=some (1,[.map om])) (gm:S.get om=some (0,qG M)) (goc:S.get oc=some (4,rs.flatten))
  (hdj:(pn::pr::pf::om::oc::ic).Nodup) (hwS:S.Wf) : ∃ rs' ic',Rows S insD jp (Ss.pcode near n M code).1 rs' ic'∧ic'.Sublist ic∧VCalls Tryz.prog 21 [.slice oc 0 code.length, .func 22 [.ptr pn 0, .ptr pr 0, .ptr pf 0]] S fun v T=>v = .slice oc 0 (Ss.pcode near n M code).1.length∧T=(S.upd om (0,qG (Ss.pcode near n M code).2)).upd oc (4,rs'.flatten):=by
 obtain ⟨hrl,hr4⟩:=hr.len;have lt : ∀ {o c},S.get o=some c→o<S.nx:=fun h=>jx hwS h
 obtain ⟨icn,hdel1,hdel2,hdel3⟩:=hr.del (fun M r=>Ss.pcov near n M (insOf S r)) (fun M r=>Ss.pnext near n M (insOf S r)) (Ss.pcov near n) (Ss.pnext near n) (fun x r ii hxm ho hi M=>by
  obtain ⟨oa,ou,rfl,rfl,h1,h2⟩:=ins_row ho;rw [insOf_row (o1:=0) (o2:=0) h1];exact ⟨rfl,rfl⟩) M
 rw [jao] at hdel1 hdel3;have hdl:=(hdel1.len).1;refine ⟨_,icn,hdel1,hdel2, ?_⟩;generalize hres:delG (fun M r=>Ss.pcov near n M (insOf S r)) (fun M r=>Ss.pnext near n M (insOf S r)) M rs=res at *
 have hresub : ∀ r∈res.1,r∈rs:=by rw [←hres]; exact Zg _ _ _ _
 simp only [List.nodup_cons,List.mem_cons,not_or] at hdj;obtain ⟨⟨d1,d2,d3,d4,d5⟩,⟨d6,d7,d8,d9⟩,⟨d10,d11,d12⟩,⟨d13,d14⟩,d15,d16⟩:=hdj;have hw':((S.upd om (0,qG (Ss.pcode near n M code).2)).upd oc (4,res.1.flatten)).Wf:=by
  refine upd_wf (upd_wf hwS (lt gm) (jbo _ _)) (lt goc) ?_;have:=hwS.ids oc _ goc;simp only [qm,List.all_eq_true,List.mem_flatten] at this ⊢;rintro x ⟨r,hr1,hr2⟩;exact this x ⟨r,hresub r hr1,hr2⟩
 have hrowsin : ∀ r∈rs, ∃ x∈code, ∃ oa ou,r=[vint x.op,vu x.n, .slice oa 0 x.args.length, .slice ou 0 x.outs.length]∧S.get oa=some (1,x.args.map vint)∧oa∈ic:=by
  clear hres hdel1 hdel2 hdel3 hdl hresub hw' hr4 hrl goc d15 d16 d14 d12 d9 d5 hcl
  induction hr with
  | nil=>simp
  | cons h t ih =>
   intro r hr;rcases List.mem_cons.1 hr with rfl | hr
   ·obtain ⟨oa,ou,h1,h2,h3,h4⟩:=ins_row h;exact ⟨_,by simp,oa,ou,h1,h3,by simp [h2]⟩
   ·obtain ⟨x,hx,oa,ou,h1,h2,h3⟩:=ih (fun y hy=>hx y (by simp [hy])) (fun y hy=>hx1 y (by simp [hy])) r hr;exact ⟨x,by simp [hx],oa,ou,h1,h2,by simp [h3]⟩
 refine vcalls_cut hw' rfl (by simp [V.ids,lt goc]) ?_;have cd:=Delete_v (fun M T => ∀ o,o<S.nx→o≠oc→T.get o=(S.upd om (0,qG M)).get o) (fun M r=>Ss.pcov near n M (insOf S r)) (fun M r=>Ss.pnext near n M (insOf S r)) (oc:=oc) (N:=S.nx) (rows:=rs) (fid:=22) (caps:=[.ptr pn 0, .ptr pr 0, .ptr pf 0]) (by rfl) (fun r hr=>hr4 r hr) (by omega) (lt goc)
  (fun a T T' h1 h2 o ho hne=>(h1 o ho hne).trans (h2 o ho hne)) (fun a T r hrm hI hT=>by
   obtain ⟨x,hxm,oa,ou,rfl,ha,hai⟩:=hrowsin r hrm;have hoc:oa≠oc:=fun e=>d15 (e▸hai)
   have hom:oa≠om:=fun e=>d14 (e▸hai)
   rw [insOf_row (o1:=0) (o2:=0) ha];refine (Clo_v T near n a x pn pr pf om oa (.slice ou 0 x.outs.length) (hx x hxm) (hx1 x hxm) hup hn rfl ?_ ?_ ?_ ?_ ?_).mono ?_
   ·rw [hI pn (lt gn) d4,jX d3]; exact gn
   ·rw [hI pr (lt gr) d8,jX d7]; exact gr
   ·rw [hI pf (lt gf) d11,jX d10]; exact gf
   ·rw [hI om (lt gm) d13,zL]
   ·rw [hI oa (lt ha) hoc,jX hom]; exact ha
   ·rintro v T' ⟨rfl,rfl⟩;refine ⟨rfl,fun o ho hne => ?_,Nat.le_refl _,fun o _ ho => ?_⟩
    ·rw [qg,qg]
     by_cases e:o=om
     ·rw [if_pos e,if_pos e]; rfl
     ·rw [if_neg e,if_neg e,hI o ho hne,jX e]
    ·rw [jX];rintro rfl;have:=lt gm;rcases ho with ho | ho
     ·omega
     ·exact d13 ho) (a:=M) (S:=S) (fun o ho hne=>by
   rw [qg]; split
   ·rename_i e; subst e; exact gm
   ·rfl) (Nat.le_refl _) goc
 rw [hres] at cd;rw [hrl] at cd;refine cd.mono ?_;rintro v T ⟨rfl,h1,h2,h3⟩;refine ⟨by rw [hdl],h2,fun o ho => ?_⟩;have ho':o<S.nx:=ho;rw [qg];split
 ·rename_i e; subst e; exact h3
 ·rename_i e;rw [h1 o ho' e,hdel3]
structure RunInv (S:Store) (p4 pg pr pm pf ot ob:Nat) (hd:List V) (ts near:List Int) (bs:List Ss.Block) (M:Ss.Far) (T:Store) (rs:List (List V)) (ids:List Nat):Prop where
 old:Agree S T
 c4:T.get p4=some (4,[V.nils,V.nils,V.nils,V.nils])
 cg:T.get pg=some (4,hd)
 cr:T.get pr=some (1,[vl vint near])
 cm:T.get pm=some (0,qG M)
 cf:T.get pf=some (1,[.map pm])
 ct:T.get ot=some (1,ts.map vint)
 cb:T.get ob=some (6,rs.flatten)
 own:Rows T blkD je bs rs ids
 nd:(p4::pg::pr::pf::pm::ot::ob::ids).Nodup
 lt : ∀ o∈p4::pg::pr::pf::pm::ot::ob::ids,S.nx≤o
 fits : ∀ b∈bs, ∀ x∈b.code,x.Fits∧(x.op=257→x.args≠[]∧x.n≤8589934592)
 len : ∀ b∈bs,b.code.length<2^62
theorem ZK (near:List Int) (n:Int) : ∀ (code:List Ss.Ins) (M:Ss.Far),(Ss.pcode near n M code).1.length≤code.length
 | [],M=>by simp [Ss.pcode]
 | x::r,M=>by
  rw [Ss.pcode]; split
  ·have:=ZK near n r (Ss.pnext near n M x); simp; omega
  ·have:=ZK near n r (Ss.pnext near n M x); simp; omega
theorem pcode_sub (near:List Int) (n:Int) : ∀ (code:List Ss.Ins) (M:Ss.Far), ∀ x∈(Ss.pcode near n M code).1,x∈code:=fun code M x h=>by
 rw [←jao] at h; exact Zg _ _ _ _ x h
theorem RunInv.step {S:Store} {p4 pg pr pm pf ot ob:Nat} {hd:List V} {ts near:List Int} {bs:List Ss.Block} {M:Ss.Far} {T:Store} {rs:List (List V)} {ids:List Nat} (h:RunInv S p4 pg pr pm pf ot ob hd ts near bs M T rs ids) (hwT:T.Wf) {n:Nat} (hn:n<bs.length) (hup:Ss.UpEnds near 256 n) (hnl:near.length<2^62)
  {S0:Store} (hS0:S0=St T [] [some (1,[vint n])]) (hw0:S0.Wf) :
  ∃ (oc:Nat) (T5:Store),rs.flatten[n*6+1]? = some (.slice oc 0 bs[n].code.length)∧VCalls Tryz.prog 21 [.slice oc 0 bs[n].code.length, .func 22 [.ptr (lid T.nx 0) 0, .ptr pr 0, .ptr pf 0]] S0 (fun v T'=>v = .slice oc 0 (Ss.pcode near n M bs[n].code).1.length∧T'=T5) ∧
   T5.get pg=S0.get pg∧T5.get (lid T.nx 0)=S0.get (lid T.nx 0)∧T5.get ob=S0.get ob∧T5.nx=S0.nx ∧ ∃ rs' ids',rs'.flatten=rs.flatten.set (n*6+1) (.slice oc 0 (Ss.pcode near n M bs[n].code).1.length) ∧
   RunInv S p4 pg pr pm pf ot ob hd ts near (Ss.pstep near (bs,M) n).1 (Ss.pstep near (bs,M) n).2 (T5.upd ob (6,rs'.flatten)) rs' ids':=by
 obtain ⟨old,c4,cg,cr,cm,cf,ct,cb,own,nd,lt,fits,len⟩:=h;obtain ⟨r1,r,r2,i1,ii,i2,rfl,hr1,rfl,hb,hmk⟩:=own.at (List.getElem?_eq_getElem hn);have hr6:=own.len.2;obtain ⟨op,oc,oe,rc,ce,ip,ic,ie,rfl,rfl,hop,hoc,hrc,hoe,hie⟩:=block_row hb;have olt : ∀ {o c},T.get o=some c→o<T.nx:=fun h=>jx hwT h
 have g0 : ∀ o,o<T.nx→S0.get o=T.get o:=fun o ho=>by rw [hS0,jm ho]; rfl
 have gnn:S0.get (lid T.nx 0)=some (1,[vint n]):=by rw [hS0,ju]; rfl
 have hnx0:S0.nx=T.nx+1:=by rw [hS0,jP]; simp [lid]
 have hmem:bs[n]∈bs:=List.getElem_mem hn;have alive:=own.owl.alive;have icl : ∀ o∈i1++(op::oc::(ic++oe::ie)++i2),o<T.nx:=fun o ho=>by
  have:=alive o ho
  cases hg:T.get o with
  | none=>rw [hg] at this; cases this
  | some c=>exact olt hg
 have nd2:=nd;simp only [List.nodup_cons,List.mem_cons,not_or] at nd2;obtain ⟨⟨a1,a2,a3,a4,a5,a6,a7⟩,⟨b1,b2,b3,b4,b5,b6⟩,⟨e1,e2,e3,e4,e5⟩,⟨f1,f2,f3,f4⟩,⟨g1,g2,g3⟩,⟨k1,k2⟩,k3,nd3⟩:=nd2;have hoci:oc∈i1++(op::oc::(ic++oe::ie)++i2):=by simp
 have ne : ∀ {o:Nat},o∉i1++(op::oc::(ic++oe::ie)++i2)→o≠oc:=fun h e=>h (e▸hoci)
 have s1:List.Sublist (oc::ic) (i1++(op::oc::(ic++oe::ie)++i2)):=by
  refine List.Sublist.trans ?_ (List.sublist_append_right _ _);refine List.Sublist.trans ?_ (List.sublist_append_left _ _);exact .cons _ (.cons_cons _ (List.sublist_append_left _ _))
 have hcn:lid T.nx 0=T.nx:=by simp [lid]
 obtain ⟨rc',ic',q1,q2,q3⟩:=DelBce_v S0 near n M bs[n].code rc (lid T.nx 0) pr pf pm oc ic (fun x hx=>(fits _ hmem x hx).1) (fun x hx=>(fits _ hmem x hx).2) hup hnl (len _ hmem)
  (hrc.mono fun o ho=>g0 o (icl o (by simp [ho]))) gnn (by rw [g0 pr (olt cr)]; exact cr) (by rw [g0 pf (olt cf)]; exact cf) (by rw [g0 pm (olt cm)]; exact cm) (by rw [g0 oc (olt hoc)]; exact hoc)
  (by
   rw [hcn];have x1:=olt cr;have x2:=olt cf;have x3:=olt cm;have x4:=olt hoc;refine List.nodup_cons.2 ⟨?_,List.Sublist.nodup (.cons _ (.cons _ (.cons_cons _ (.cons_cons _ (.cons_cons _ (.cons _ (.cons _ s1))))))) nd⟩;simp only [List.mem_cons,not_or];exact ⟨by omega,by omega,by omega,by omega,fun hm=>by have:=icl T.nx (by simp [hm]); omega⟩) hw0
 have hgd:bs.getD n default=bs[n]:=by rw [List.getD_eq_getElem?_getD,List.getElem?_eq_getElem hn]; rfl
 have hr1m : ∀ s∈r1,s.length=6:=fun s hs=>hr6 s (by simp [hs])
 have hfs:=flat_set (m:=6) (r:=[V.slice op 0 bs[n].params.length, .slice oc 0 bs[n].code.length,vint bs[n].term.kind,vint bs[n].term.arg, .slice oe 0 bs[n].term.to.length,vl vint bs[n].term.args]) (r2:=r2) (q:=1) (w := .slice oc 0 (Ss.pcode near n M bs[n].code).1.length) hr1m hr1 (by simp);have gT : ∀ o,o<T.nx→o≠pm→o≠oc→o≠ob → ∀ c,(((S0.upd pm (0,qG (Ss.pcode near n M bs[n].code).2)).upd oc (4,rc'.flatten)).upd ob c).get o=T.get o:=fun o h1 h2 h3 h4 c=>by rw [jX h4,jX h3,jX h2,g0 o h1]
 have hb' : ∀ o,o∈i1++i2∨o=op∨o∈ic'∨o=oe∨o∈ie→o≠oc:=by
  have hnd:=nd3;intro o ho e;subst e;have hcount:=List.nodup_iff_count.1 hnd o;simp only [List.count_append,List.count_cons,beq_self_eq_true,if_true] at hcount;have pos : ∀ {l:List Nat},o∈l→1≤l.count o:=fun h=>List.count_pos_iff.2 h
  rcases ho with h | h | h | h | h
  ·rcases List.mem_append.1 h with h | h
   ·have:=pos h; omega
   ·have:=pos h; omega
  ·subst h; simp at hcount; omega
  ·have:=pos (q2.subset h); omega
  ·subst h; simp at hcount; omega
  ·have:=pos h; omega
 have s2:List.Sublist (i1++(op::oc::(ic'++oe::ie)++i2)) (i1++(op::oc::(ic++oe::ie)++i2)):=by
  refine (List.Sublist.refl _).append (List.Sublist.append ?_ (List.Sublist.refl _));exact .cons_cons _ (.cons_cons _ (q2.append (List.Sublist.refl _)))
 have gI : ∀ o,o∈i1++(op::oc::(ic++oe::ie)++i2)→o≠oc → ∀ c,(((S0.upd pm (0,qG (Ss.pcode near n M bs[n].code).2)).upd oc (4,rc'.flatten)).upd ob c).get o=T.get o:=fun o h1 h2 c=>gT o (icl o h1) (fun e=>g3 (e▸h1)) h2 (fun e=>k3 (e▸h1)) c
 refine ⟨oc,_,flat_mid hr1m hr1 rfl,q3, ?_, ?_, ?_,rfl,r1++[V.slice op 0 bs[n].params.length, .slice oc 0 (Ss.pcode near n M bs[n].code).1.length,vint bs[n].term.kind,vint bs[n].term.arg, .slice oe 0 bs[n].term.to.length,vl vint bs[n].term.args]::r2,i1++(op::oc::(ic'++oe::ie)++i2),hfs.symm, ?_⟩
 ·rw [jX (ne b6),jX b3]
 ·rw [jX (by rw [hcn]; exact fun e=>by have:=olt hoc; omega),jX (by rw [hcn]; exact fun e=>by have:=olt cm; omega)]
 ·rw [jX (ne k3),jX (fun e=>g2 e.symm)]
 ·have hlt : ∀ o,o<T.nx→o<S0.nx:=fun o h=>by omega
  refine ⟨⟨by show S.nx≤S0.nx; have:=old.1; omega,fun o ho => ?_⟩, ?_, ?_, ?_, ?_, ?_, ?_,zL, ?_,List.Sublist.nodup (.cons_cons _ (.cons_cons _ (.cons_cons _ (.cons_cons _ (.cons_cons _ (.cons_cons _ (.cons_cons _ s2))))))) nd,fun o ho=>lt o ?_, ?_, ?_⟩
  ·have l1:=lt pm (by simp);have l2:=lt ob (by simp);have l3:=lt oc (by simp);rw [gT o (by have:=old.1; omega) (by omega) (by omega) (by omega),old.2 o ho]
  ·rw [gT p4 (olt c4) a4 (ne a7) a6]; exact c4
  ·rw [gT pg (olt cg) b3 (ne b6) b5]; exact cg
  ·rw [gT pr (olt cr) e2 (ne e5) e4]; exact cr
  ·rw [jX g2,jX (ne g3),zL];simp only [Ss.pstep,hgd]
  ·rw [gT pf (olt cf) f1 (ne f4) f3]; exact cf
  ·rw [gT ot (olt ct) (fun e=>g1 e.symm) (ne k2) k1]; exact ct
  ·simp only [Ss.pstep,hgd];have hg5 : ∀ o,o∈i1++i2→o∈i1++(op::oc::(ic++oe::ie)++i2):=fun o ho=>by
    rcases List.mem_append.1 ho with h | h<;>simp [h]
   refine hmk _ _ ⟨bs[n].params,(Ss.pcode near n M bs[n].code).1,bs[n].term⟩ _ (fun o ho=>gI o (hg5 o ho) (hb' o (.inl ho)) _) ?_;refine block_mk (b:=⟨bs[n].params,(Ss.pcode near n M bs[n].code).1,bs[n].term⟩) (rs:=rc') (ce:=ce) ?_ ?_ ?_ ?_ ?_
   ·rw [gI op (by simp) (hb' op (.inr (.inl rfl)))]; exact hop
   ·have hcb:oc≠ob:=fun e=>k3 (by rw [←e]; exact hoci)
    rw [jX hcb,zL]
   ·refine q1.mono fun o ho => ?_
    have ho2:o∈i1++(op::oc::(ic++oe::ie)++i2):=by simp [q2.subset ho]
    rw [gI o ho2 (hb' o (.inr (.inr (.inl ho)))),g0 o (icl o ho2)]
   ·rw [gI oe (by simp) (hb' oe (.inr (.inr (.inr (.inl rfl)))))]; exact hoe
   ·exact hie.mono fun o ho=>gI o (by simp [ho]) (hb' o (.inr (.inr (.inr (.inr ho))))) _
  ·simp only [List.mem_cons] at ho ⊢;rcases ho with h | h | h | h | h | h | h | h
   ·exact .inl h
   ·exact .inr (.inl h)
   ·exact .inr (.inr (.inl h))
   ·exact .inr (.inr (.inr (.inl h)))
   ·exact .inr (.inr (.inr (.inr (.inl h))))
   ·exact .inr (.inr (.inr (.inr (.inr (.inl h)))))
   ·exact .inr (.inr (.inr (.inr (.inr (.inr (.inl h))))))
   ·exact .inr (.inr (.inr (.inr (.inr (.inr (.inr (s2.subset h)))))))
  ·intro b hb x hx;simp only [Ss.pstep,hgd] at hb;rcases List.mem_or_eq_of_mem_set hb with hb | rfl
   ·exact fits b hb x hx
   ·exact fits _ hmem x (pcode_sub _ _ _ _ x hx)
  ·intro b hb;simp only [Ss.pstep,hgd] at hb;rcases List.mem_or_eq_of_mem_set hb with hb | rfl
   ·exact len b hb
   ·exact Nat.lt_of_le_of_lt (ZK _ _ _ _) (len _ hmem)
theorem BceRun_v (S:Store) (e:Ss.Env) (f:Ss.Fn) (he:e.Fits) (hf:f.Fits) (hc:Ss.check e f=true):VCalls Tryz.prog 6 [qM e,jJ f] S fun r T => ∃ r',r = .tuple [r',vint 0]∧CopiedD S (Ss.pbce (G.rNear (G.nats (Ss.succs f.blocks))) (G.order (G.nats (Ss.succs f.blocks))) f) r' T:=by
 have hgr:=Ss.graphic hc;have hs:=Ss.check_small hc;have h257:=fun b hb x hx ho => @Ss.check_257 e f hc b hb x hx ho
 have cck:=Check_v e f he hf;have crp:=fun S=>SReplace_v S f [] hf hs (by simp)
 have csu:=Succ_v f hf;have cor:=jbz (Ss.succs f.blocks) (jaU hf);have cne:=YK (Ss.succs f.blocks) (jaU hf);have hfb : ∀ b∈f.blocks,b.Fits:=hf.2.2.2
 rw [if_pos hs] at csu;simp only [Ss.replace_nil] at crp;rw [hgr.ord,G.err,if_pos hgr.right] at cor;rw [hgr.near,G.err,if_pos hgr.right] at cne;obtain ⟨_,_,_,_,hol,holt,hnl,hends,hbl⟩:=hgr;generalize Ss.check e f=ck at *
 generalize G.order (G.nats (Ss.succs f.blocks))=order at *
 generalize G.rNear (G.nats (Ss.succs f.blocks))=near at *
 generalize Ss.succs f.blocks=sc at *
 obtain ⟨⟨fi,fo⟩,ts,bs⟩:=f;obtain ⟨sg,im,gl,mu,me⟩:=e;simp only at *
 have cck':VPure Tryz.prog 16 [.agg [vl jl sg,vint im,vl vint gl,vl V.bool mu, .bool me], .agg [vl vint fi,vl vint fo,vl vint ts,vl je bs]] (.bool ck):=cck;have csu':VPure Tryz.prog 19 [.agg [vl vint fi,vl vint fo,vl vint ts,vl je bs]] (vl (vl vint) sc):=csu;have crp' : ∀ S,VCalls Tryz.prog 17 [.agg [vl vint fi,vl vint fo,vl vint ts,vl je bs], .nils] S (CopiedD S ⟨⟨fi,fo⟩,ts,bs⟩):=fun S=>by
  refine JN (GhostArgs.one [_] [] (Ghost.nils_list S)) ?_;exact crp S
 refine qq (c:=jc Tryz.f6) Tryz.func6 rfl (by conv=>lhs; reduce) (by simp [Tryz.ntmps6]) ?_;rw [Tryz.ntmps6];intro hwf;refine QT ?_;refine QY ?_;refine QH 2 0 ?_;refine QH 3 1 ?_;refine QO [2,3,4,5] ?_;refine QK [2] ?_;refine QT ?_;refine QP ?_;refine QL (cck') ?_;refine QM (by conv=>lhs;simp[QV,hc]) ?_;refine QN ?_
 repeat first|refine QG ?_|refine QY ?_ (r:=by conv=>lhs;simp[QV,hc])
 refine QT ?_;refine QP ?_;refine jO rfl (crp' _) ?_;rintro X T ⟨hag0,hwT,ot,ob,cells,ids,rfl,hotg,hob,how,hnd,hids⟩;simp only at hotg how;refine vseg_nil hwT ?_;refine QW ?_;have hag1:=hag0.1;rw [jP] at hag1 hids;simp only [List.length_cons,List.length_nil,Nat.zero_add,lid] at hag1 hids;have h4:T.get (lid S.nx 0)=some (4,[V.nils,V.nils,V.nils,V.nils]):=by
  rw [hag0.2 (lid S.nx 0) (by rw [jP]; simp [lid]),ju]; rfl
 have h4lt:lid S.nx 0<T.nx:=by simp only [lid]; omega
 refine Zt (b':=T.nx) (by omega) ?_;have hwf0:=hwf;clear hwf;have hwf:=hwT;refine QT ?_;refine QP ?_;refine QL (csu') ?_;refine QZ ?_;refine QL (cor) ?_;refine QW ?_;refine QT ?_;refine QP ?_;refine QL (csu') ?_;refine QZ ?_;refine QL (cne) ?_;refine QW ?_
 repeat first|refine QG ?_|refine QY ?_
 obtain ⟨rs0,rfl,hrl0,hrows0⟩:=rows_of (fun x=>by rw [zf]; rfl) how;have g0 : ∀ o l,o<T.nx→(St T [] l).get o=T.get o:=fun o l ho=>by rw [jm ho]; rfl
 have hlt : ∀ o∈ot::ob::ids,o<T.nx:=fun o ho=>(hids o ho).2
 have hinv:RunInv S (lid S.nx 0) (lid T.nx 0) (lid T.nx 1) (lid T.nx 2) (lid T.nx 3) ot ob [vl vint fi,vl vint fo, .slice ot 0 ts.length, .slice ob 0 bs.length] ts near bs [] (St T [] [some (4,[vl vint fi,vl vint fo,V.slice ot 0 ts.length,V.slice ob 0 bs.length]),some (1,[vl vint near]),some (0,[]),some (1,[V.map (lid T.nx 2)])]) rs0 ids:=by
  refine ⟨⟨by rw [jP,lid]; have:=hag0.1; omega,fun o ho => ?_⟩, ?_, ?_, ?_, ?_, ?_, ?_, ?_, ?_, ?_, ?_, ?_, ?_⟩
  ·rw [g0 o _ (by omega),hag0.2 o (by rw [jP,lid]; omega),jm ho]; rfl
  ·rw [g0 _ _ h4lt]; exact h4
  ·rw [ju]; rfl
  ·rw [ju]; rfl
  ·rw [ju]; rfl
  ·rw [ju]; rfl
  ·rw [g0 _ _ (hlt ot (by simp))]; exact hotg
  ·rw [g0 _ _ (hlt ob (by simp))]; exact hob
  ·exact hrows0.mono fun o ho=>g0 o _ (hlt o (by simp [ho]))
  ·have hno : ∀ o,T.nx≤o→o∉ot::ob::ids:=fun o ho hm=>by have:=hlt o hm; omega
   refine List.nodup_cons.2 ⟨?_,List.nodup_cons.2 ⟨?_,List.nodup_cons.2 ⟨?_,List.nodup_cons.2 ⟨?_,List.nodup_cons.2 ⟨hno _ (by simp only [lid]; omega),hnd⟩⟩⟩⟩⟩
   ·simp only [lid] at h4lt ⊢;rw [List.mem_cons,List.mem_cons,List.mem_cons,List.mem_cons,not_or,not_or,not_or,not_or];exact ⟨by omega,by omega,by omega,by omega,fun hm=>by have:=(hids _ hm).1; omega⟩
   ·simp only [lid];rw [List.mem_cons,List.mem_cons,List.mem_cons,not_or,not_or,not_or];exact ⟨by omega,by omega,by omega,hno _ (by omega)⟩
   ·simp only [lid];rw [List.mem_cons,List.mem_cons,not_or,not_or];exact ⟨by omega,by omega,hno _ (by omega)⟩
   ·simp only [lid];rw [List.mem_cons,not_or];exact ⟨by omega,hno _ (by omega)⟩
  ·intro o ho;simp only [List.mem_cons] at ho;rcases ho with h | h | h | h | h | h | h | h
   ·subst h; simp only [lid]; omega
   ·subst h; simp only [lid]; omega
   ·subst h; simp only [lid]; omega
   ·subst h; simp only [lid]; omega
   ·subst h; simp only [lid]; omega
   ·have:=(hids o (by simp [h])).1; omega
   ·have:=(hids o (by simp [h])).1; omega
   ·have:=(hids o (by simp [h])).1; omega
  ·exact fun b hb x hx=>⟨(hfb b hb).2.1.2 x hx,fun ho=>by
    have:=h257 b hb x hx ho;exact ⟨fun e=>by rw [e] at this; simp at this,this.2.1⟩⟩
  ·exact fun b hb=>by have:=(hfb b hb).2.1.1; omega
 generalize hp4:lid S.nx 0=p4 at *
 generalize hpg:lid T.nx 0=pg at *
 generalize hpr:lid T.nx 1=pr at *
 generalize hpm:lid T.nx 2=pm at *
 generalize hpf:lid T.nx 3=pf at *
 generalize hT0:St T [] [some (4,[vl vint fi,vl vint fo,V.slice ot 0 ts.length,V.slice ob 0 bs.length]),some (1,[vl vint near]),some (0,[]),some (1,[V.map pm])]=T0 at *
 have hnb:(Ss.pbce near order ⟨⟨fi,fo⟩,ts,bs⟩)=⟨⟨fi,fo⟩,ts,(order.foldl (Ss.pstep near) (bs,[])).1⟩:=rfl;rw [hnb];refine QT ?_;refine jd [4,6,9,11,34,35,36] rfl (fun c σ S' => ∃ (bs1:List Ss.Block) (M:Ss.Far) (rs:List (List V)) (ids1:List Nat) (k:Nat),RunInv S p4 pg pr pm pf ot ob [vl vint fi,vl vint fo, .slice ot 0 ts.length, .slice ob 0 bs.length] ts near bs1 M S' rs ids1∧bs1.length=bs.length∧k≤order.length∧c=order.length-k∧((order.drop k).foldl (Ss.pstep near) (bs1,M)).1=(order.foldl (Ss.pstep near) (bs,[])).1∧σ=[(4, .ptr p4 0),(6, .ptr pg 0),(9, .ptr pr 0),(11, .ptr pf 0),(34,vl vnat order),(35,vnat order.length),(36,vnat k)]) order.length ?_ ?_
 ·exact ⟨bs,[],rs0,ids,0,hinv,rfl,by omega,rfl,rfl,by simp [Fr.only,Fr.look]⟩
 ·rintro c σ T1 ⟨bs1,M,rs,ids1,k,hI,hbl1,hk,rfl,hfold,rfl⟩;refine vw_wf fun hwT1=>vw_nil hwT1 ?_
  by_cases hkt:k<order.length
  ·have hw:=jh hkt (by omega);obtain ⟨n,hn⟩ : ∃ n,order[k]=n:=⟨_,rfl⟩
   have hnm:n∈order:=hn▸List.getElem_mem hkt;have hnl1:n<bs1.length:=by rw [hbl1]; exact holt n hnm
   rw [List.drop_eq_getElem_cons hkt,List.foldl_cons,hn] at hfold
   repeat first|refine QG ?_|refine QY ?_ (r:=by conv=>lhs;simp[QV,hkt])
   rw [hn];have hw0:(St T1 [] [some (1,[V.int .i64 (n:Int)])]).Wf:=St_wf hwT1 (by simp);obtain ⟨oc,T5,hcell,hcall,h5g,h5n,h5b,h5nx,rs',ids',hset,hI'⟩:=hI.step hwT1 hnl1 (hends n hnm) (by omega) (S0:=St T1 [] [some (1,[V.int .i64 (n:Int)])]) rfl hw0;have lg:=jx hwT1 hI.cg;have lb:=jx hwT1 hI.cb;have bg:=fun u l => @jm T1 u l pg lg
   have bb:=fun u l => @jm T1 u l ob lb
   have hIg:=hI.cg;have hIb:=hI.cb;have gpn:(St T1 [] [some (1,[V.int .i64 (n:Int)])]).get (lid T1.nx 0)=some (1,[V.int .i64 (n:Int)]):=by rw [ju]; rfl
   have hnb2:(n:Int)<(bs.length:Int):=by omega
   have hbo:pg≠ob:=fun e=>by have:=hI.nd; simp [e] at this
   obtain ⟨zc,zs,hzg,hzn,hsg,hsn,hsb,hok⟩ : ∃ zc zs:Store,zc.get pg=some (4,[vl vint fi,vl vint fo,V.slice ot 0 ts.length,V.slice ob 0 bs.length])∧zc.get (lid T1.nx 0)=some (1,[V.int .i64 (n:Int)])∧zs.get pg=some (4,[vl vint fi,vl vint fo,V.slice ot 0 ts.length,V.slice ob 0 bs.length])∧zs.get (lid T1.nx 0)=some (1,[V.int .i64 (n:Int)])∧zs.get ob=some (6,rs.flatten) ∧
     ∀ (es:List Nat) (S':Store),S'.get pg=(St T1 [] [some (1,[V.int .i64 (n:Int)])]).get pg→S'.get (lid T1.nx 0)=(St T1 [] [some (1,[V.int .i64 (n:Int)])]).get (lid T1.nx 0)→(∃ c,S'.get ob=some (6,c))→(ZZ.mk (St T1 [] [some (1,[V.int .i64 (n:Int)])]) zc zs es).ok S':=by
    refine ⟨⟨fun o=>if o=pg∨o=lid T1.nx 0 then (St T1 [] [some (1,[V.int .i64 (n:Int)])]).get o else none,0⟩,⟨fun o=>if o=pg∨o=lid T1.nx 0∨o=ob then (St T1 [] [some (1,[V.int .i64 (n:Int)])]).get o else none,0⟩, ?_, ?_, ?_, ?_, ?_, ?_⟩
    ·simp only [true_or,if_true]; rw [bg]; exact hIg
    ·simp only [or_true,if_true]; exact gpn
    ·simp only [true_or,if_true]; rw [bg]; exact hIg
    ·simp only [true_or,or_true,if_true]; exact gpn
    ·simp only [or_true,if_true]; rw [bb]; exact hIb
    ·rintro es S' k1 k2 ⟨c,k3⟩;refine ⟨fun o c' hc' => ?_,fun o c' hc' => ?_⟩
     ·simp only at hc';split at hc'
      ·rename_i ho;rcases ho with rfl | rfl
       ·rw [k1]; exact hc'
       ·rw [k2]; exact hc'
      ·cases hc'
     ·simp only at hc';split at hc'
      ·rename_i ho;rcases ho with rfl | rfl | rfl
       ·rw [k1]; exact ⟨c',hc',rfl⟩
       ·rw [k2]; exact ⟨c',hc',rfl⟩
       ·rw [bb] at hc';have h6:=hIb.symm.trans hc'
        cases h6
        exact ⟨_,k3,rfl⟩
      ·cases hc'
   have h5b':T5.get ob=some (6,rs.flatten):=by rw [h5b,bb]; exact hIb
   have hpno:lid T1.nx 0≠ob:=fun e=>by rw [←e] at lb; simp [lid] at lb
   generalize hpn:lid T1.nx 0=pn at *
   have hS0g:=(bg [] [some (1,[V.int .i64 (n:Int)])]).trans hIg;have hS0b:=(bb [] [some (1,[V.int .i64 (n:Int)])]).trans hIb
   try simp only [uGet] at hS0g hS0b
   generalize hS0:St T1 [] [some (1,[V.int .i64 (n:Int)])]=S0 at *
   refine QT ?_;refine QJ (zc) (zs) [48,20050] ?_ (hz:=hok _ _ rfl rfl ⟨_,hS0b⟩) (r:=by conv=>lhs; simp [QV,hzg,hzn,hsg,hsn,hsb,hnb2,hS0g,gpn,hS0b,hcell]);refine jbE rfl hcall (by rfl) (by rfl) (hok _ _ h5g h5n ⟨_,h5b'⟩) ?_;have hcl:n*6+1<rs.flatten.length:=(List.getElem?_eq_some_iff.1 hcell).1;rw [List.length_flatten] at hcl;refine QM (by conv=>lhs;simp[QV,hzg,hzn,hsg,hsn,hsb,hnb2]) ?_;refine Jq rfl (by conv=>lhs; simp [QV,h5b',hcl]) (hok _ _ (by rw [jX hbo]; exact h5g) (by rw [jX hpno]; exact h5n) ⟨_,zL⟩) ?_;refine QN ?_
   repeat first|refine QG ?_|refine QY ?_ (r:=by conv=>lhs;simp[QV,hw])
   rw [←hset];show jy _ _ _ _ _ _ _;exact again ⟨Nat.sub_lt_sub_left hkt (Nat.lt_succ_self k),(Ss.pstep near (bs1,M) n).1,(Ss.pstep near (bs1,M) n).2,rs',ids',k+1,hI',by rw [←hbl1]; simp [Ss.pstep],hkt,rfl,hfold,by simp [Fr.only,Fr.look]⟩
  ·have hke:k=order.length:=by omega
   subst hke;rw [List.drop_length,List.foldl_nil] at hfold;simp only at hfold;have hIg:=hI.cg;have hI4:=hI.c4;have lg:=jx hwT1 hI.cg;have l4:=jx hwT1 hI.c4;have bg:=fun u l => @jm T1 u l pg lg
   have b4:=fun u l => @jm T1 u l p4 l4
   have h4g:pg≠p4:=fun e=>by have:=hI.nd; simp [e] at this
   repeat first|refine QG ?_|refine QY ?_ (r:=by conv=>lhs;simp[QV,hkt,bg,b4,hIg,hI4,h4g])
   rw [qB hwT1];have hg4:(T1.upd p4 (4,[vl vint fi,vl vint fo,V.slice ot 0 ts.length,V.slice ob 0 bs.length])).get p4=some (4,[vl vint fi,vl vint fo,V.slice ot 0 ts.length,V.slice ob 0 bs.length]):=zL;refine Wx (xs:=[.agg [vl vint fi,vl vint fo, .slice ot 0 ts.length, .slice ob 0 bs.length], .int .i64 0]) (by simp [hg4]) ?_;obtain ⟨old,c4,cg,cr,cm,cf,ct,cb,own,nd,lt,_,_⟩:=hI;have nd2:=nd;simp only [List.nodup_cons,List.mem_cons,not_or] at nd2;obtain ⟨⟨a1,a2,a3,a4,a5,a6,a7⟩,_,_,_,_,⟨k1,k2⟩,k3,nd3⟩:=nd2;have alive:=own.owl.alive;have hw5:(T1.upd p4 (4,[vl vint fi,vl vint fo,V.slice ot 0 ts.length,V.slice ob 0 bs.length])).Wf:=upd_wf hwT1 l4 (hwT1.ids pg _ hIg);refine zN ⟨_,rfl,⟨old.1,fun o ho => ?_⟩,hw5,ot,ob,rs.flatten,ids1, ?_, ?_, ?_, ?_, ?_, ?_⟩
   ·have:=lt p4 (by simp);rw [jX (by omega)]; exact old.2 o ho
   ·rw [←hfold,hbl1]
   ·rw [jX (fun e=>a5 e.symm)]; exact ct
   ·rw [jX (fun e=>a6 e.symm)]; exact cb
   ·rw [←hfold];exact own.owl.mono fun o ho=>jX fun e=>a7 (e▸ho)
   ·exact List.Sublist.nodup (.cons _ (.cons _ (.cons _ (.cons _ (.cons _ (List.Sublist.refl _)))))) nd
   ·intro o ho;refine ⟨lt o ?_, ?_⟩
    ·simp only [List.mem_cons] at ho ⊢;rcases ho with h | h | h
     ·exact .inr (.inr (.inr (.inr (.inr (.inl h)))))
     ·exact .inr (.inr (.inr (.inr (.inr (.inr (.inl h))))))
     ·exact .inr (.inr (.inr (.inr (.inr (.inr (.inr h))))))
    ·show o<T1.nx;simp only [List.mem_cons] at ho;rcases ho with rfl | rfl | h
     ·exact jx hwT1 ct
     ·exact jx hwT1 cb
     ·have h2:=alive o h
      cases hg:T1.get o with
      | none=>rw [hg] at h2; cases h2
      | some c=>exact jx hwT1 hg
end Go.Vw
namespace Ss
def NewX (ts ps:List Int) (x:Ins):Prop:=x=⟨256,9,[],[(ts.length:Int)]⟩ ∨ ∃ p∈ps,0≤p∧p<ts.length∧ts.getD p.toNat 0=126∧x=⟨124,0,[p,p],[(ts.length:Int)]⟩
theorem NewX.op {ts ps:List Int} {x:Ins} (h:NewX ts ps x):x.op≠258∧x.outs=[(ts.length:Int)]∧x.args.length≤2:=by
 rcases h with rfl | ⟨p,_,_,_,_,rfl⟩<;>simp
theorem KI {e:Env} {f:Fn} {ds:List Def} {near:List Int} : ∀ {l:List Block} {i:Nat},(∀ (j:Nat) (b:Block),l[j]? = some b→checkCode e f ds near ((i+j:Nat):Int) 0 b.code=true∧termOk f ds near ((i+j:Nat):Int) b=true)→checkBlocks e f ds near i l=true
 | [],i,_=>rfl
 | b::l,i,h=>by
  simp only [checkBlocks,Bool.and_eq_true];refine ⟨h 0 b rfl,KI fun j y hy => ?_⟩;have:=h (j+1) y (by simpa using hy);rw [show i+1+j=i+(j+1) by omega]; exact this
end Ss
