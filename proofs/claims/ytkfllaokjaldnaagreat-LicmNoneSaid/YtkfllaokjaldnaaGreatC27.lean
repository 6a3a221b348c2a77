import Derived.Test.YtkfllaokjaldnaaGreatC26
import Derived.Test.YtkfllaokjaldnaaGreatC24
import Derived.Test.YtkfllaokjaldnaaGreatC19
import Derived.Test.YtkfllaokjaldnaaGreatC17
import Derived.Test.YtkfllaokjaldnaaGreatC25
/-
  Part of the proof (texts BRows, BRun, SMoreQ, SLMore, SRSame, SRSame2, SLItself, BPure, BThin, BChkP, DChk, LMove).
-/
set_option linter.unusedVariables false
set_option linter.unusedSimpArgs false
namespace Go.Vw
open Go.Proofs Go.RowKit
set_option maxRecDepth 10000
inductive Rows {α:Type} (T:Store) (tys:List Ty) (enc:α→V):List α→List (List V)→List Nat→Prop
 | nil:Rows T tys enc [] [] []
 | cons {x:α} {r:List V} {ii:List Nat} {xs:List α} {rs:List (List V)} {ids:List Nat} (h:OwL T tys r (enc x).cells ii) (t:Rows T tys enc xs rs ids):Rows T tys enc (x::xs) (r::rs) (ii++ids)
section
variable {α:Type} {T T':Store} {tys:List Ty} {enc:α→V}
theorem jby (hs : ∀ x,(enc x).cells.length=tys.length) : ∀ {xs:List α} {cells:List V} {ids:List Nat},OwL T (reps xs.length tys) cells (js enc xs) ids → ∃ rs,cells=rs.flatten∧rs.length=xs.length∧Rows T tys enc xs rs ids
 | [],cells,ids,h=>by
  rw [List.length_nil,reps_zero] at h
  cases h with
  | nil=>exact ⟨[],rfl,rfl, .nil⟩
 | x::xs,cells,ids,h=>by
  rw [List.length_cons,Jg] at h
  obtain ⟨r1,r2,x1,x2,i1,i2,rfl,hx,rfl,k1,k2⟩:=h.split
  have e:js enc (x::xs)=(enc x).cells++js enc xs:=by simp [js]
  rw [e] at hx
  obtain ⟨rfl,rfl⟩:=List.append_inj hx (by rw [hs,k1.len.2])
  obtain ⟨rs,rfl,hl,hr⟩:=jby hs k2
  exact ⟨r1::rs,rfl,by simp [hl], .cons k1 hr⟩
theorem Rows.owl {xs:List α} {rs:List (List V)} {ids:List Nat} (h:Rows T tys enc xs rs ids):OwL T (reps xs.length tys) rs.flatten (js enc xs) ids:=by
 induction h with
 | nil=>exact .nil
 | @cons x r ii xs rs ids h t ih =>
  have e:js enc (x::xs)=(enc x).cells++js enc xs:=by simp [js]
  rw [List.length_cons,Jg,List.flatten_cons,e]
  exact h.append ih
theorem Rows.mono {xs:List α} {rs:List (List V)} {ids:List Nat} (h:Rows T tys enc xs rs ids):(∀ o∈ids,T'.get o=T.get o)→Rows T' tys enc xs rs ids:=by
 induction h with
 | nil=>exact fun _ => .nil
 | cons h t ih=>exact fun hk => .cons (h.mono fun o ho=>hk o (by simp [ho])) (ih fun o ho=>hk o (by simp [ho]))
theorem Rows.len {xs:List α} {rs:List (List V)} {ids:List Nat} (h:Rows T tys enc xs rs ids):rs.length=xs.length ∧ ∀ r∈rs,r.length=tys.length:=by
 induction h with
 | nil=>simp
 | cons h t ih=>exact ⟨by simp [ih.1],fun r hr=>by rcases List.mem_cons.1 hr with rfl | hr; exact h.len.1; exact ih.2 r hr⟩
theorem Rows.del {κ:Type} (p:κ→List V→Bool) (nx:κ→List V→κ) (q:κ→α→Bool) (ny:κ→α→κ) {xs:List α} {rs:List (List V)} {ids:List Nat} (h:Rows T tys enc xs rs ids) :
  (∀ x r ii,x∈xs→OwL T tys r (enc x).cells ii→(∀ o∈ii,o∈ids) → ∀ a,p a r=q a x∧nx a r=ny a x) → ∀ a, ∃ ids',Rows T tys enc (delG q ny a xs).1 (delG p nx a rs).1 ids'∧ids'.Sublist ids∧(delG p nx a rs).2=(delG q ny a xs).2:=by
 induction h with
 | nil=>exact fun _ a=>⟨[], .nil,List.Sublist.refl _,rfl⟩
 | @cons x r ii xs rs ids h t ih =>
  intro hk a
  obtain ⟨h1,h2⟩:=hk x r ii (by simp) h (fun o ho=>by simp [ho]) a
  obtain ⟨ids',k1,k2,k3⟩:=ih (fun y s jj hy ho hs=>hk y s jj (by simp [hy]) ho fun o h=>by simp [hs o h]) (ny a x)
  simp only [delG,h1,h2]
  by_cases hq:q a x=true
  ·rw [if_pos hq,if_pos hq]
   exact ⟨ids',k1,k2.trans (List.sublist_append_right _ _),k3⟩
  ·rw [if_neg hq,if_neg hq]
   exact ⟨ii++ids', .cons h k1,(List.Sublist.refl ii).append k2,k3⟩
end
theorem Rows.at {α:Type} {T:Store} {tys:List Ty} {enc:α→V} {xs:List α} {rs:List (List V)} {ids:List Nat} (h:Rows T tys enc xs rs ids) : ∀ {k:Nat} {x:α},xs[k]? = some x → ∃ (r1:List (List V)) (r:List V) (r2:List (List V)) (i1 ii i2:List Nat),rs=r1++r::r2∧r1.length=k∧ids=i1++(ii++i2)∧OwL T tys r (enc x).cells ii ∧
  ∀ (T':Store) (r':List V) (x':α) (ii':List Nat),(∀ o∈i1++i2,T'.get o=T.get o)→OwL T' tys r' (enc x').cells ii'→Rows T' tys enc (xs.set k x') (r1++r'::r2) (i1++(ii'++i2)):=by
 induction h with
 | nil=>intro k x hx; simp at hx
 | @cons y r ii xs rs ids h t ih =>
  intro k x hx
  cases k with
  | zero =>
   simp only [List.getElem?_cons_zero,Option.some.injEq] at hx
   subst hx
   exact ⟨[],r,rs,[],ii,ids,rfl,rfl,rfl,h,fun T' r' x' ii' hk ho=>Rows.cons (ids:=ids) ho (t.mono fun o hm=>hk o (by simpa using hm))⟩
  | succ k =>
   obtain ⟨r1,s,r2,i1,jj,i2,e1,e2,e3,e4,e5⟩:=ih (k:=k) (x:=x) (by simpa using hx)
   subst e1; subst e3
   refine ⟨r::r1,s,r2,ii++i1,jj,i2,rfl,by simp [e2],by simp,e4,fun T' r' x' ii' hk ho => ?_⟩
   have:=Rows.cons (x:=y) (h.mono fun o hm=>hk o (by simp [hm])) (e5 T' r' x' ii' (fun o hm=>hk o (by
    rcases List.mem_append.1 hm with hm | hm<;>simp [hm])) ho)
   simpa using this
theorem YZ {m:Nat} {r1:List (List V)} {r:List V} {r2:List (List V)} {k q:Nat} {w:V} (h1 : ∀ s∈r1,s.length=m) (hk:r1.length=k) (hr:r[q]? = some w):(r1++r::r2).flatten[k*m+q]? = some w:=by
 have hq:q<r.length:=(List.getElem?_eq_some_iff.1 hr).1
 have hl:=qX h1
 rw [hk] at hl
 rw [List.flatten_append,List.flatten_cons, ←hl,List.getElem?_append_right (by omega),Nat.add_sub_cancel_left,List.getElem?_append_left hq]
 exact hr
theorem jbN {m:Nat} {r1:List (List V)} {r:List V} {r2:List (List V)} {k q:Nat} {w:V} (h1 : ∀ s∈r1,s.length=m) (hk:r1.length=k) (hq:q<r.length):(r1++r::r2).flatten.set (k*m+q) w=(r1++r.set q w::r2).flatten:=by
 have hl:=qX h1
 rw [hk] at hl
 rw [List.flatten_append,List.flatten_cons, ←hl,List.set_append_right _ _ (by omega),Nat.add_sub_cancel_left,List.set_append_left _ _ hq,List.flatten_append,List.flatten_cons]
theorem ins_row {T:Store} {x:Ss.Ins} {r:List V} {ii:List Nat} (h:OwL T insD r (jt x).cells ii) : ∃ oa ou,r=[vint x.op,vu x.n, .slice oa 0 x.args.length, .slice ou 0 x.outs.length]∧ii=[oa,ou]∧T.get oa=some (1,x.args.map vint)∧T.get ou=some (1,x.outs.map vint):=by
 rw [zl] at h
 generalize hA:vl vint x.args=A at h
 generalize hB:vl vint x.outs=B at h
 cases h with
 | c h1 h=>cases h with
  | c h2 h=>cases h with
   | @s _ _ _ _ ca ys i j oa ho hs d h=>cases h with
    | @s _ _ _ _ cb zs i2 j2 ou ho2 hs2 d2 h=>cases h with
     | nil =>
      have e1:ys=x.args.map vint:=by
       have:V.list (x.args.map vint)=V.list ys:=hA
       exact (V.list.inj this).symm
      have e2:zs=x.outs.map vint:=by
       have:V.list (x.outs.map vint)=V.list zs:=hB
       exact (V.list.inj this).symm
      subst e1; subst e2
      have c1:=Jb (n:=(x.args.map vint).length*1) (by rw [←jaN]; exact d)
      have c2:=Jb (n:=(x.outs.map vint).length*1) (by rw [←jaN]; exact d2)
      rw [zg,qD] at c1 c2
      refine ⟨oa,ou,by simp, ?_, ?_, ?_⟩
      ·rw [c1.2,c2.2]; rfl
      ·rw [ho,c1.1]; rfl
      ·rw [ho2,c2.1]; rfl
theorem block_row {T:Store} {b:Ss.Block} {r:List V} {ii:List Nat} (h:OwL T blkD r (je b).cells ii) : ∃ (op oc oe:Nat) (rs:List (List V)) (ce:List V) (ip ic ie:List Nat),r=[.slice op 0 b.params.length, .slice oc 0 b.code.length,vint b.term.kind,vint b.term.arg, .slice oe 0 b.term.to.length,vl vint b.term.args]∧ii=op::oc::(ic++oe::ie) ∧
  T.get op=some (1,b.params.map vint)∧T.get oc=some (4,rs.flatten)∧Rows T insD jt b.code rs ic∧T.get oe=some (2,ce)∧OwL T (reps b.term.to.length KE) ce (js jq b.term.to) ie:=by
 rw [zh] at h
 generalize hA:vl vint b.params=A at h
 generalize hB:vl jt b.code=B at h
 generalize hC:vl jq b.term.to=C at h
 cases h with
 | @s _ _ _ _ ca ys i j op ho hs d h=>cases h with
  | @s _ _ _ _ cb zs i2 j2 oc ho2 hs2 d2 h=>cases h with
   | c h1 h=>cases h with
    | c h2 h=>cases h with
     | @s _ _ _ _ cc us i3 j3 oe ho3 hs3 d3 h=>cases h with
      | c h3 h=>cases h with
       | nil =>
        have e1:ys=b.params.map vint:=by
         have:V.list (b.params.map vint)=V.list ys:=hA
         exact (V.list.inj this).symm
        have e2:zs=b.code.map jt:=by
         have:V.list (b.code.map jt)=V.list zs:=hB
         exact (V.list.inj this).symm
        have e3:us=b.term.to.map jq:=by
         have:V.list (b.term.to.map jq)=V.list us:=hC
         exact (V.list.inj this).symm
        subst e1; subst e2; subst e3
        have c1:=Jb (n:=(b.params.map vint).length*1) (by rw [←jaN]; exact d)
        rw [zg,qD] at c1
        rw [List.length_map,zg] at d2 d3
        obtain ⟨rs,rfl,hl,hr⟩:=jby (fun x=>by rw [zl]; rfl) d2
        refine ⟨op,oc,oe,rs,cc,[],i2,i3,by simp, ?_, ?_,ho2,hr,ho3,d3⟩
        ·rw [c1.2]; simp
        ·rw [ho,c1.1]; rfl
theorem block_mk {T:Store} {b:Ss.Block} {op oc oe:Nat} {rs:List (List V)} {ce:List V} {ic ie:List Nat} (h1:T.get op=some (1,b.params.map vint)) (h2:T.get oc=some (4,rs.flatten)) (h3:Rows T insD jt b.code rs ic) (h4:T.get oe=some (2,ce)) (h5:OwL T (reps b.term.to.length KE) ce (js jq b.term.to) ie) :
  OwL T blkD [.slice op 0 b.params.length, .slice oc 0 b.code.length,vint b.term.kind,vint b.term.arg, .slice oe 0 b.term.to.length,vl vint b.term.args] (je b).cells (op::oc::(ic++oe::ie)):=by
 rw [zh]
 have hP:OwL T (.s [.c]::[.s insD, .c, .c, .s KE, .c]) (.slice op 0 b.params.length::[.slice oc 0 b.code.length,vint b.term.kind,vint b.term.arg, .slice oe 0 b.term.to.length,vl vint b.term.args]) (vl vint b.params::[vl jt b.code,vint b.term.kind,vint b.term.arg,vl jq b.term.to,vl vint b.term.args]) (op::oc::(ic++oe::ie)):=by
  refine OwL.slice (s:=1) (enc:=vint) (fun _=>rfl) (fun _=>rfl) b.params (by rw [qD]; exact h1) ?_
  have h6:=h3.owl
  have t1:OwL T [.s KE, .c] [.slice oe 0 b.term.to.length,vl vint b.term.args] [vl jq b.term.to,vl vint b.term.args] (oe::ie):=by
   have:=OwL.s (S:=T) (o:=oe) (tys:=KE) (cells:=ce) (ys:=b.term.to.map jq) (i:=ie) (j:=[]) h4 (fun y hy=>(by
    obtain ⟨e,_,rfl⟩:=List.mem_map.1 hy
    exact ⟨by rw [zu]; rfl,zI e⟩)) (by rw [List.length_map,zg]; exact h5) (.c (x:=vl vint b.term.args) rfl .nil)
   rw [List.length_map,List.append_nil] at this
   exact this
  have:=OwL.s (S:=T) (o:=oc) (tys:=insD) (cells:=rs.flatten) (ys:=b.code.map jt) (i:=ic) (j:=oe::ie) h2 (fun y hy=>(by
   obtain ⟨e,_,rfl⟩:=List.mem_map.1 hy
   exact ⟨by rw [zl]; rfl,zW e⟩)) (by rw [List.length_map,zg]; exact h6) (.c (x:=vint b.term.kind) rfl (.c (x:=vint b.term.arg) rfl t1))
  rw [List.length_map] at this
  exact this
 exact hP
end Go.Vw

namespace Go.Vw
open Go.Proofs Go.RowKit
set_option maxRecDepth 10000
set_option maxHeartbeats 4000000
theorem jaF {f:Ss.Fn} (hf:f.Fits):Fits (Ss.succs f.blocks):=by
 refine ⟨by rw [Ss.succs,List.length_map]; have:=hf.2.2.1; omega,fun l hl => ?_⟩
 obtain ⟨b,hb,rfl⟩:=List.mem_map.1 hl
 have:=(hf.2.2.2 b hb).2.2.2.2.1.1
 rw [Ss.rowOf,List.length_map]; omega
def vToInt:V→Int
 | .int _ n=>n
 | _=>0
def insOf (S:Store):List V→Ss.Ins
 | [.int _ op, .int _ n, .slice oa _ _,_]=>⟨op,n,((S.get oa).getD (0,[])).2.map vToInt,[]⟩
 | _=>default
structure RunInv (S:Store) (p4 pg pr pm pf ot ob:Nat) (hd:List V) (ts near:List Int) (bs:List Ss.Block) (M:Ss.Far) (T:Store) (rs:List (List V)) (ids:List Nat):Prop where
 old:Agree S T
 c4:T.get p4=some (4,[V.nils,V.nils,V.nils,V.nils])
 cg:T.get pg=some (4,hd)
 cr:T.get pr=some (1,[vl vint near])
 cm:T.get pm=some (0,encFar M)
 cf:T.get pf=some (1,[.map pm])
 ct:T.get ot=some (1,ts.map vint)
 cb:T.get ob=some (6,rs.flatten)
 own:Rows T blkD je bs rs ids
 nd:(p4::pg::pr::pf::pm::ot::ob::ids).Nodup
 lt : ∀ o∈p4::pg::pr::pf::pm::ot::ob::ids,S.nx≤o
 fits : ∀ b∈bs, ∀ x∈b.code,x.Fits∧(x.op=257→x.args≠[]∧x.n≤8589934592)
 len : ∀ b∈bs,b.code.length<2^62
end Go.Vw

namespace Ss
def NewX (ts ps:List Int) (x:Ins):Prop:=x=⟨256,9,[],[(ts.length:Int)]⟩ ∨ ∃ p∈ps,0≤p∧p<ts.length∧ts.getD p.toNat 0=126∧x=⟨124,0,[p,p],[(ts.length:Int)]⟩
theorem NewX.op {ts ps:List Int} {x:Ins} (h:NewX ts ps x):x.op≠258∧x.outs=[(ts.length:Int)]∧x.args.length≤2:=by
 rcases h with rfl | ⟨p,_,_,_,_,rfl⟩<;>simp
theorem KL {e:Env} {f:Fn} {ds:List Def} {near:List Int} : ∀ {l:List Block} {i:Nat},(∀ (j:Nat) (b:Block),l[j]? = some b→checkCode e f ds near ((i+j:Nat):Int) 0 b.code=true∧termOk f ds near ((i+j:Nat):Int) b=true)→checkBlocks e f ds near i l=true
 | [],i,_=>rfl
 | b::l,i,h=>by
  simp only [checkBlocks,Bool.and_eq_true]
  refine ⟨h 0 b rfl,KL fun j y hy => ?_⟩
  have:=h (j+1) y (by simpa using hy)
  rw [show i+1+j=i+(j+1) by omega]; exact this
end Ss

namespace Go.Vw
open Go.Proofs Go.RowKit
set_option maxRecDepth 10000
set_option maxHeartbeats 2000000
end Go.Vw

namespace Go.Vw
open Go.Proofs Go.RowKit
set_option maxRecDepth 10000
set_option maxHeartbeats 8000000
theorem WInts_v (l m:List Int) (hl:l.length<2^63):VPure Tryz.prog 37 [vl vint l,vl vint m] (.bool (decide (l=m))):=by
 intro S
 rw [←eqF_dec]
 generalize hp:(fun x y:Int=>decide (x=y))=p
 by_cases hlm:l.length=m.length
 ·have hlm':(l.length:Int)=(m.length:Int):=by omega
  refine jb (c:=jf Tryz.f37) Tryz.func37 rfl rfl (by simp [Tryz.ntmps37]) ?_
  rw [Tryz.ntmps37]
  intro hwf
  repeat (first|refine QG ?_|refine QY ?_ (r:=by conv=>lhs;simp[-List.map_set,QV,hlm,hlm']))
  repeat refine QS ?_
  refine jd [0,1,5] rfl (fun c σ S' => ∃ (k:Nat),k≤l.length∧c=l.length-k∧eqF p (l.drop k) (m.drop k)=eqF p l m∧σ=[(0,vl vint l),(1,vl vint m),(5,vnat k)]∧S'=St S [] []) l.length ?_ ?_
  ·exact ⟨0,by omega,rfl,rfl,by simp [Fr.only],rfl⟩
  ·rintro c σ T ⟨k,hk,rfl,hd,rfl,rfl⟩
   by_cases hkt:k<l.length
   ·have hkm:k<m.length:=by omega
    have hw:=jn hkt hl
    have hst:eqF p (l.drop k) (m.drop k)=(p l[k] m[k]&&eqF p (l.drop (k+1)) (m.drop (k+1))):=by rw [List.drop_eq_getElem_cons hkt,List.drop_eq_getElem_cons hkm,eqF]
    obtain ⟨x,hx⟩ : ∃ x,l[k]=x:=⟨_,rfl⟩
    obtain ⟨y,hy⟩ : ∃ y,m[k]=y:=⟨_,rfl⟩
    rw [hx,hy] at hst
    by_cases hxy:x=y
    ·rw [show p x y=true by rw [←hp]; simp [hxy]] at hst
     repeat (first|refine QG ?_|refine QY ?_ (r:=by conv=>lhs;simp[-List.map_set,QV,hkt,hkm,hx,hy,hxy]))
     show jv _ _ _ _ _ _ _
     exact again ⟨Nat.sub_lt_sub_left hkt (Nat.lt_succ_self k),k+1,hkt,rfl,by rw [←hd,hst]; rfl,by simp [Fr.only,hw],rfl⟩
    ·rw [show p x y=false by rw [←hp]; simp [hxy]] at hst
     repeat (first|refine QG ?_|refine QY ?_ (r:=by conv=>lhs;simp[-List.map_set,QV,hkt,hkm,hx,hy,hxy]))
     exact ja hwf (by rw [←hd,hst]; rfl) rfl
   ·have e:l.drop k=[]:=by rw [List.drop_eq_nil_iff]; omega
    have e':m.drop k=[]:=by rw [List.drop_eq_nil_iff]; omega
    rw [e,e'] at hd
    have hkm : ¬ k<m.length:=by omega
    repeat (first|refine QG ?_|refine QY ?_ (r:=by conv=>lhs;simp[-List.map_set,QV,hkt,hkm]))
    exact ja hwf (by rw [←hd]; rfl) rfl
 ·have hlm' : ¬ (l.length:Int)=(m.length:Int):=by omega
  have e:eqF p l m=false:=eqF_len hlm
  rw [e]
  refine jb (c:=jf Tryz.f37) Tryz.func37 rfl rfl (by simp [Tryz.ntmps37]) ?_
  rw [Tryz.ntmps37]
  intro hwf
  repeat (first|refine QG ?_|refine QY ?_ (r:=by conv=>lhs;simp[-List.map_set,QV,hlm,hlm']))
  exact ja hwf rfl rfl
end Go.Vw

namespace Go.Vw
open Go.Proofs Go.RowKit
set_option maxRecDepth 10000
set_option maxHeartbeats 4000000
end Go.Vw

namespace Ss
end Ss
namespace Go.Vw
open Go.Proofs Go.RowKit
set_option maxRecDepth 10000
set_option maxHeartbeats 2000000
theorem fn_ghostD {S:Store} {fi fo ts:List Int} {bs:List Ss.Block} {cells:List V} {ot ob n m:Nat} {ids:List Nat} (h:OwL S (reps n blkD) cells (js je bs) ids) (hb:S.get ob=some (6,cells)) (hn:bs.length=n) (ht:S.get ot=some (1,ts.map vint)) (hm:ts.length=m) (hd:(ot::ob::ids).Nodup) :
  Ghost (.agg [vl vint fi,vl vint fo, .slice ot 0 m, .slice ob 0 n]) S (.agg [vl vint fi,vl vint fo,vl vint ts,vl je bs]) (S.dels (ot::ob::ids)):=by
 subst hn
 subst hm
 refine ghost_agg ?_
 have hw:OwL S [.c, .c, .s (List.replicate 1 .c), .s blkD] [vl vint fi,vl vint fo, .slice ot 0 ts.length, .slice ob 0 bs.length] [vl vint fi,vl vint fo,vl vint ts,vl je bs] (ot::ob::ids):=by
  refine .c rfl (.c rfl (OwL.slice (enc:=vint) (fun _=>rfl) (fun _=>rfl) ts (by rw [qD]; exact ht) ?_))
  have:=OwL.s (S:=S) (o:=ob) (tys:=blkD) (cells:=cells) (ys:=bs.map je) (i:=ids) (j:=[]) hb (fun y hy=>(by
   obtain ⟨b,_,rfl⟩:=List.mem_map.1 hy
   exact ⟨by rw [zh]; rfl,Kp b⟩)) (by rw [List.length_map,zg]; exact h) .nil
  rw [List.length_map,List.append_nil] at this
  exact this
 exact hw.freeze hd S fun _ _=>rfl
end Go.Vw

namespace Ss
def emptyFn:Fn:=⟨⟨[],[]⟩,[],[]⟩
noncomputable def bceF (f:Fn):Fn:=pbce (Go.Vw.G.rNear (Go.Vw.G.nats (succs f.blocks))) (Go.Vw.G.order (Go.Vw.G.nats (succs f.blocks))) f
noncomputable def bceOut (e:Env) (f:Fn):Fn × Int:=if check e f then (bceF f,0) else (emptyFn,6)
end Ss
namespace Go.Vw
open Go.Proofs Go.RowKit
set_option maxRecDepth 10000
set_option maxHeartbeats 2000000
theorem empty_ghost (S:Store):Ghost (.agg [.nils, .nils, .nils, .nils]) S (qW Ss.emptyFn) S:=by
 refine Ghost.agg_nl rfl fun i x y hx hy => ?_
 match i,hx,hy with
 | 0,hx,hy=>cases hx; cases hy; exact .inr ⟨rfl,rfl⟩
 | 1,hx,hy=>cases hx; cases hy; exact .inr ⟨rfl,rfl⟩
 | 2,hx,hy=>cases hx; cases hy; exact .inr ⟨rfl,rfl⟩
 | 3,hx,hy=>cases hx; cases hy; exact .inr ⟨rfl,rfl⟩
end Go.Vw

namespace Ss
structure ThinB (b c:Block):Prop where
 params:c.params=b.params
 term:c.term=b.term
 sub:c.code.Sublist b.code
 keep:c.code.filter (fun x=>decide (x.op≠257))=b.code.filter fun x=>decide (x.op≠257)
theorem ThinB.refl (b:Block):ThinB b b:=⟨rfl,rfl,List.Sublist.refl _,rfl⟩
theorem ThinB.trans {a b c:Block} (h:ThinB a b) (k:ThinB b c):ThinB a c:=⟨k.params.trans h.params,k.term.trans h.term,k.sub.trans h.sub,k.keep.trans h.keep⟩
def ThinL (l m:List Block):Prop:=m.length=l.length ∧ ∀ (i:Nat) (b c:Block),l[i]? = some b→m[i]? = some c→ThinB b c
theorem ThinL.refl (l:List Block):ThinL l l:=⟨rfl,fun i b c h1 h2=>by rw [h1] at h2; cases h2; exact .refl b⟩
theorem ThinL.trans {l m n:List Block} (h:ThinL l m) (k:ThinL m n):ThinL l n:=by
 refine ⟨k.1.trans h.1,fun i b c h1 h2 => ?_⟩
 have hi:i<m.length:=by rw [h.1]; exact (List.getElem?_eq_some_iff.1 h1).1
 exact (h.2 i b m[i] h1 (List.getElem?_eq_getElem hi)).trans (k.2 i m[i] c (List.getElem?_eq_getElem hi) h2)
theorem ThinL.fits {l m:List Block} (h:ThinL l m) (hl : ∀ b∈l,b.Fits) : ∀ c∈m,c.Fits:=by
 intro c hc
 obtain ⟨i,hi⟩:=List.mem_iff_getElem?.1 hc
 have hil:i<l.length:=by rw [←h.1]; exact (List.getElem?_eq_some_iff.1 hi).1
 obtain ⟨h1,h2,h3,h4⟩:=h.2 i l[i] c (List.getElem?_eq_getElem hil) hi
 obtain ⟨k1,⟨k2,k3⟩,k4⟩:=hl _ (List.getElem_mem hil)
 exact ⟨by rw [h1]; exact k1,⟨Nat.le_trans h3.length_le k2,fun x hx=>k3 x (h3.subset hx)⟩,by rw [h2]; exact k4⟩
theorem ThinL.count : ∀ {l m:List Block},ThinL l m→count m≤count l
 | [],m,h=>by
  have:m=[]:=List.eq_nil_of_length_eq_zero h.1
  subst this; exact Nat.le_refl _
 | b::l,[],h=>by simp [Ss.count]
 | b::l,c::m,h=>by
  have h1:=(h.2 0 b c rfl rfl).sub.length_le
  have h2:ThinL l m:=⟨by have:=h.1; simpa using this,fun i x y hx hy=>h.2 (i+1) x y (by simpa using hx) (by simpa using hy)⟩
  have:=ThinL.count h2
  simp only [Ss.count,List.map_cons,List.sum_cons] at this ⊢
  omega
end Ss

namespace Ss
inductive Drop:List Ins→List Ins→Prop
 | nil:Drop [] []
 | keep (x:Ins) {l m:List Ins} (h:Drop l m):Drop (x::l) (x::m)
 | drop (x:Ins) {l m:List Ins} (o:x.op=257) (h:Drop l m):Drop (x::l) m
theorem Drop.refl : ∀ l:List Ins,Drop l l
 | [] => .nil
 | x::l => .keep x (Drop.refl l)
theorem Drop.trans {a b c:List Ins} (h:Drop a b):Drop b c→Drop a c:=by
 induction h generalizing c with
 | nil=>exact fun k=>k
 | keep x h ih =>
  intro k
  cases k with
  | keep _ k=>exact .keep x (ih k)
  | drop _ o k=>exact .drop x o (ih k)
 | drop x o h ih=>exact fun k => .drop x o (ih k)
theorem Drop.pos {l m:List Ins} (h:Drop l m) : ∃ φ:Nat→Nat,(∀ k k',k≤k'→φ k≤φ k')∧(∀ k x,l[k]? = some x→x.op≠257→m[φ k]? = some x ∧ ∀ k',k<k'→φ k<φ k')∧(∀ j y,m[j]? = some y → ∃ k,l[k]? = some y∧φ k=j)∧φ l.length=m.length:=by
 induction h with
 | nil=>exact ⟨fun _=>0,fun _ _ _=>Nat.le_refl _,by simp,by simp,rfl⟩
 | @keep x l m h ih =>
  obtain ⟨φ,h1,h2,h3,h4⟩:=ih
  refine ⟨fun k=>match k with | 0=>0 | k+1=>φ k+1,fun k k' hk => ?_,fun k y hk ho => ?_,fun j y hj => ?_,by simp [h4]⟩
  ·cases k with
   | zero=>simp
   | succ k=>cases k' with
    | zero=>omega
    | succ k'=>have:=h1 k k' (by omega); simp only; omega
  ·cases k with
   | zero=>exact ⟨by simpa using hk,fun k' hk'=>by cases k' with | zero=>omega | succ k'=>simp⟩
   | succ k =>
    obtain ⟨g1,g2⟩:=h2 k y (by simpa using hk) ho
    exact ⟨by simpa using g1,fun k' hk'=>by cases k' with | zero=>omega | succ k'=>have:=g2 k' (by omega); simp only; omega⟩
  ·cases j with
   | zero=>exact ⟨0,by simpa using hj,rfl⟩
   | succ j =>
    obtain ⟨k,e1,e2⟩:=h3 j y (by simpa using hj)
    exact ⟨k+1,by simpa using e1,by simp [e2]⟩
 | @drop x l m o h ih =>
  obtain ⟨φ,h1,h2,h3,h4⟩:=ih
  refine ⟨fun k=>match k with | 0=>0 | k+1=>φ k,fun k k' hk => ?_,fun k y hk ho => ?_,fun j y hj => ?_,by simp [h4]⟩
  ·cases k with
   | zero=>simp
   | succ k=>cases k' with
    | zero=>omega
    | succ k'=>exact h1 k k' (by omega)
  ·cases k with
   | zero =>
    simp only [List.getElem?_cons_zero,Option.some.injEq] at hk
    subst hk; exact absurd o ho
   | succ k =>
    obtain ⟨g1,g2⟩:=h2 k y (by simpa using hk) ho
    exact ⟨g1,fun k' hk'=>by cases k' with | zero=>omega | succ k'=>exact g2 k' (by omega)⟩
  ·obtain ⟨k,e1,e2⟩:=h3 j y hj
   exact ⟨k+1,by simpa using e1,e2⟩
theorem Drop.outs {l m:List Ins} (h:Drop l m) (ho : ∀ x∈l,x.op=257→x.outs=[]):zB m=zB l:=by
 induction h with
 | nil=>rfl
 | @keep x l m h ih=>simp only [zB,List.flatMap_cons] at ih ⊢; rw [ih fun y hy=>ho y (by simp [hy])]
 | @drop x l m o h ih =>
  simp only [zB,List.flatMap_cons] at ih ⊢
  rw [ih fun y hy=>ho y (by simp [hy]),ho x (by simp) o,List.nil_append]
theorem Drop.tick {l m:List Ins} (h:Drop l m):(m.any fun x=>decide (x.op=258))=l.any fun x=>decide (x.op=258):=by
 induction h with
 | nil=>rfl
 | keep x h ih=>simp only [List.any_cons,ih]
 | drop x o h ih=>simp only [List.any_cons,ih,o]; simp
theorem put_mk {block pos:Int} : ∀ {l:List Int} {ds:List Def},(∀ v∈l,0≤v∧v<ds.length)→l.Nodup→(∀ v∈l,(dAt ds v).made=false) → ∃ d,put block pos ds l=some d
 | [],ds,_,_,_=>⟨ds,rfl⟩
 | v::l,ds,h1,h2,h3=>by
  obtain ⟨a1,a2⟩:=h1 v (by simp)
  obtain ⟨n1,n2⟩:=List.nodup_cons.1 h2
  have hm:=h3 v (by simp)
  have hm':(ds.getD v.toNat default).made=false:=hm
  simp only [put]
  rw [if_neg (by rw [hm']; simp; omega)]
  refine put_mk (fun w hw=>by rw [List.length_set]; exact h1 w (by simp [hw])) n2 fun w hw => ?_
  have hne:w≠v:=fun e=>n1 (e▸hw)
  rw [jbT a1 a2 (h1 w (by simp [hw])).1,if_neg hne]
  exact h3 w (by simp [hw])
theorem jaR {i:Int} : ∀ {l:List Ins} {k:Nat} {ds:List Def},(∀ v∈zB l,0≤v∧v<ds.length)→(zB l).Nodup→(∀ v∈zB l,(dAt ds v).made=false) → ∃ d,putCode i k ds l=some d
 | [],k,ds,_,_,_=>⟨ds,rfl⟩
 | x::l,k,ds,h1,h2,h3=>by
  have e:zB (x::l)=x.outs++zB l:=rfl
  rw [e] at h1 h2 h3
  obtain ⟨n1,n2,n3⟩:=List.nodup_append.1 h2
  obtain ⟨d,hd⟩:=put_mk (block:=i) (pos:=k) (fun v hv=>h1 v (by simp [hv])) n1 (fun v hv=>h3 v (by simp [hv]))
  have hp:=(Ky hd).1
  obtain ⟨d',hd'⟩:=jaR (i:=i) (k:=k+1) (l:=l) (ds:=d) (fun v hv=>by rw [WV hd]; exact h1 v (by simp [hv])) n2 (fun v hv=>by
   rw [hp.keep v (h1 v (by simp [hv])).1 (fun hm=>n3 v hm v hv rfl)]; exact h3 v (by simp [hv]))
  exact ⟨d',by rw [putCode,hd]; exact hd'⟩
theorem YA : ∀ {l:List Block} {i:Nat} {ds:List Def},(∀ v∈allL l,0≤v∧v<ds.length)→(allL l).Nodup→(∀ v∈allL l,(dAt ds v).made=false) → ∃ d,putBlocks i ds l=some d
 | [],i,ds,_,_,_=>⟨ds,rfl⟩
 | b::l,i,ds,h1,h2,h3=>by
  have e:allL (b::l)=(b.params++zB b.code)++allL l:=rfl
  rw [e] at h1 h2 h3
  obtain ⟨n0,n2,n3⟩:=List.nodup_append.1 h2
  obtain ⟨n1,n4,n5⟩:=List.nodup_append.1 n0
  obtain ⟨d,hd⟩:=put_mk (block:=i) (pos := -1) (fun v hv=>h1 v (by simp [hv])) n1 (fun v hv=>h3 v (by simp [hv]))
  have hp:=(Ky hd).1
  obtain ⟨d1,hd1⟩:=jaR (i:=i) (k:=0) (l:=b.code) (ds:=d) (fun v hv=>by rw [WV hd]; exact h1 v (by simp [hv])) n4 (fun v hv=>by
   rw [hp.keep v (h1 v (by simp [hv])).1 (fun hm=>n5 v hm v hv rfl)]; exact h3 v (by simp [hv]))
  have hp1:=(Jq hd1).1
  obtain ⟨d2,hd2⟩:=YA (i:=i+1) (l:=l) (ds:=d1) (fun v hv=>by rw [putCode_len' hd1,WV hd]; exact h1 v (by simp [hv])) n2 (fun v hv=>by
   have h0:=(h1 v (by simp [hv])).1
   rw [hp1.keep v h0 (fun hm=>n3 v (by simp [hm]) v hv rfl),hp.keep v h0 (fun hm=>n3 v (by simp [hm]) v hv rfl)]; exact h3 v (by simp [hv]))
  exact ⟨d2,by rw [putBlocks,hd]; simp only [Option.bind_some]; rw [hd1]; exact hd2⟩
theorem YJ {e:Env} {f:Fn} {ds:List Def} {near:List Int} {i:Int} : ∀ {l:List Ins} {k:Nat},(∀ (j:Nat) (x:Ins),l[j]? = some x→insOk e f ds near i ((k+j:Nat):Int) x=true)→checkCode e f ds near i k l=true
 | [],k,_=>rfl
 | x::l,k,h=>by
  have h0:=h 0 x rfl
  rw [Nat.add_zero] at h0
  simp only [checkCode,Bool.and_eq_true]
  refine ⟨h0,YJ fun j y hy => ?_⟩
  have:=h (j+1) y (by simpa using hy)
  rw [show k+(j+1)=k+1+j by omega] at this
  exact this
def DropL (l m:List Block):Prop:=m.length=l.length ∧ ∀ (i:Nat) (b c:Block),l[i]? = some b→m[i]? = some c→c.params=b.params∧c.term=b.term∧Drop b.code c.code
theorem DropL.refl (l:List Block):DropL l l:=⟨rfl,fun i b c h1 h2=>by rw [h1] at h2; cases h2; exact ⟨rfl,rfl, .refl _⟩⟩
theorem DropL.trans {l m n:List Block} (h:DropL l m) (k:DropL m n):DropL l n:=by
 refine ⟨k.1.trans h.1,fun i b c h1 h2 => ?_⟩
 have hi:i<m.length:=by rw [h.1]; exact (List.getElem?_eq_some_iff.1 h1).1
 obtain ⟨a1,a2,a3⟩:=h.2 i b m[i] h1 (List.getElem?_eq_getElem hi)
 obtain ⟨b1,b2,b3⟩:=k.2 i m[i] c (List.getElem?_eq_getElem hi) h2
 exact ⟨b1.trans a1,b2.trans a2,a3.trans b3⟩
theorem DropL.map {α:Type} {l m:List Block} (h:DropL l m) (F:Block→α) (hF : ∀ b c:Block,b∈l→c.params=b.params→c.term=b.term→Drop b.code c.code→F c=F b):m.map F=l.map F:=by
 apply List.ext_getElem?
 intro i
 rw [List.getElem?_map,List.getElem?_map]
 by_cases hi:i<l.length
 ·have hi2:i<m.length:=by rw [h.1]; exact hi
  rw [List.getElem?_eq_getElem hi,List.getElem?_eq_getElem hi2]
  obtain ⟨h1,h2,h3⟩:=h.2 i l[i] m[i] (List.getElem?_eq_getElem hi) (List.getElem?_eq_getElem hi2)
  simp only [Option.map_some,Option.some.injEq]
  exact hF _ _ (List.getElem_mem hi) h1 h2 h3
 ·rw [List.getElem?_eq_none (by rw [h.1]; omega),List.getElem?_eq_none (by omega)]
end Ss

namespace Ss
open Go.Vw.G
def phi {α:Type} (p:α→Bool) (l:List α) (k:Nat):Nat:=((l.take k).filter p).length
theorem pure_tick:pure 258=false:=by decide
end Ss

namespace Ss
def cutAt (b:Block) (i:Nat):Block:=⟨b.params,b.code.eraseIdx i,b.term⟩
def endWith (b:Block) (x:Ins):Block:=⟨b.params,b.code++[x],b.term⟩
def moveAt (bs:List Block) (p n i:Nat):List Block:=(bs.set n (cutAt (bs.getD n default) i)).set p (endWith (bs.getD p default) ((bs.getD n default).code.getD i default))
structure Mv (bs:List Block) (p n i:Nat) (bp bn:Block) (x:Ins):Prop where
 hp:bs[p]? = some bp
 hn:bs[n]? = some bn
 hi:bn.code[i]? = some x
 ne:p≠n
section
variable {bs:List Block} {p n i:Nat} {bp bn:Block} {x:Ins}
theorem Mv.eq (h:Mv bs p n i bp bn x):moveAt bs p n i=(bs.set n (cutAt bn i)).set p (endWith bp x):=by
 simp only [moveAt,List.getD_eq_getElem?_getD,h.hp,h.hn,h.hi,Option.getD_some]
theorem Mv.len (h:Mv bs p n i bp bn x):(moveAt bs p n i).length=bs.length:=by simp [moveAt]
theorem Mv.at (h:Mv bs p n i bp bn x) (j:Nat):(moveAt bs p n i)[j]? = if j=p then some (endWith bp x) else if j=n then some (cutAt bn i) else bs[j]? := by
 have h1:=(List.getElem?_eq_some_iff.1 h.hp).1
 have h2:=(List.getElem?_eq_some_iff.1 h.hn).1
 rw [h.eq]
 by_cases e1:j=p
 ·subst e1
  rw [if_pos rfl,List.getElem?_set_self (by simpa using h1)]
 ·rw [if_neg e1,List.getElem?_set_ne (Ne.symm e1)]
  by_cases e2:j=n
  ·subst e2
   rw [if_pos rfl,List.getElem?_set_self h2]
  ·rw [if_neg e2,List.getElem?_set_ne (Ne.symm e2)]
theorem WX {α:Type} {a:α} : ∀ {l:List α} {k:Nat},l[k]? = some a→l.Perm (a::l.eraseIdx k)
 | [],k,h=>by simp at h
 | b::l,0,h=>by
  simp only [List.getElem?_cons_zero,Option.some.injEq] at h
  subst h; exact List.Perm.refl _
 | b::l,k+1,h=>by
  have:=WX (l:=l) (k:=k) (by simpa using h)
  rw [List.eraseIdx_cons_succ]
  exact (this.cons b).trans (List.Perm.swap a b _)
theorem jbE {α:Type} {l:List α} {k:Nat} {a b:α} (h:l[k]? = some a):l.Perm (a::l.eraseIdx k)∧(l.set k b).Perm (b::l.eraseIdx k):=by
 have hk:=(List.getElem?_eq_some_iff.1 h).1
 refine ⟨WX h, ?_⟩
 have:=WX (l:=l.set k b) (k:=k) (a:=b) (List.getElem?_set_self hk)
 rwa [List.eraseIdx_set_eq] at this
theorem Mv.perm (h:Mv bs p n i bp bn x) {α:Type} (F:Block→List α) (X:List α) (h1:(F bn).Perm (X++F (cutAt bn i))) (h2:(F (endWith bp x)).Perm (X++F bp)):((moveAt bs p n i).flatMap F).Perm (bs.flatMap F):=by
 have hp2:(bs.set n (cutAt bn i))[p]? = some bp:=by rw [List.getElem?_set_ne (Ne.symm h.ne)]; exact h.hp
 obtain ⟨a1,a2⟩:=jbE (b:=cutAt bn i) h.hn
 obtain ⟨c1,c2⟩:=jbE (b:=endWith bp x) hp2
 rw [h.eq]
 generalize (bs.set n (cutAt bn i)).eraseIdx p=E at *
 generalize bs.eraseIdx n=G at *
 have e1:=c2.flatMap_right F
 have e2:=c1.flatMap_right F
 have e3:=a2.flatMap_right F
 have e4:=a1.flatMap_right F
 simp only [List.flatMap_cons] at e1 e2 e3 e4
 refine e1.trans ?_
 refine (h2.append_right _).trans ?_
 rw [List.append_assoc]
 refine ((e2.symm.trans e3).append_left X).trans ?_
 rw [←List.append_assoc]
 exact (h1.symm.append_right _).trans e4.symm
theorem code_perm {l:List Ins} {i:Nat} {x:Ins} (h:l[i]? = some x):l.Perm (x::l.eraseIdx i):=(jbE (b:=x) h).1
theorem Mv.all (h:Mv bs p n i bp bn x):(allL (moveAt bs p n i)).Perm (allL bs):=by
 have hc:=code_perm h.hi
 refine h.perm (fun b=>b.params++zB b.code) x.outs ?_ ?_
 ·have h1:(zB bn.code).Perm (x.outs++zB (bn.code.eraseIdx i)):=by
   have:=hc.flatMap_right Ins.outs
   simpa [zB] using this
  refine (h1.append_left _).trans ?_
  simp only [cutAt]
  rw [←List.append_assoc, ←List.append_assoc]
  exact List.perm_append_comm.append_right _
 ·simp only [endWith,zB,List.flatMap_append,List.flatMap_cons,List.flatMap_nil,List.append_nil]
  rw [←List.append_assoc]
  exact List.perm_append_comm
theorem Mv.codes (h:Mv bs p n i bp bn x):((moveAt bs p n i).flatMap Block.code).Perm (bs.flatMap Block.code):=by
 refine h.perm Block.code [x] (code_perm h.hi) ?_
 simp only [endWith]
 exact List.perm_append_comm
theorem Mv.count (h:Mv bs p n i bp bn x):count (moveAt bs p n i)=count bs:=by
 have e : ∀ l:List Block,Ss.count l=(l.flatMap Block.code).length:=fun l=>by
  rw [List.length_flatMap]; rfl
 rw [e,e,h.codes.length_eq]
theorem Mv.map (h:Mv bs p n i bp bn x) {α:Type} (F:Block→α) (h1:F (cutAt bn i)=F bn) (h2:F (endWith bp x)=F bp):(moveAt bs p n i).map F=bs.map F:=by
 apply List.ext_getElem?
 intro j
 rw [List.getElem?_map,List.getElem?_map,h.at j]
 by_cases e1:j=p
 ·subst e1; rw [if_pos rfl,h.hp,Option.map_some,Option.map_some,h2]
 ·rw [if_neg e1]
  by_cases e2:j=n
  ·subst e2; rw [if_pos rfl,h.hn,Option.map_some,Option.map_some,h1]
  ·rw [if_neg e2]
theorem Mv.succs (h:Mv bs p n i bp bn x):succs (moveAt bs p n i)=succs bs:=h.map rowOf rfl rfl
theorem any_erase {q:Ins→Bool} : ∀ {l:List Ins} {i:Nat} {x:Ins},l[i]? = some x→q x=false→(l.eraseIdx i).any q=l.any q
 | [],i,x,h,_=>by simp at h
 | a::l,0,x,h,hq=>by
  simp only [List.getElem?_cons_zero,Option.some.injEq] at h
  subst h; simp [hq]
 | a::l,i+1,x,h,hq=>by
  simp only [List.eraseIdx_cons_succ,List.any_cons,any_erase (l:=l) (by simpa using h) hq]
theorem Mv.ticks (h:Mv bs p n i bp bn x) (hx:x.op≠258):(moveAt bs p n i).map tickB=bs.map tickB:=by
 refine h.map tickB ?_ ?_
 ·exact any_erase (q:=fun y=>decide (y.op=258)) h.hi (by simpa using hx)
 ·simp [tickB,endWith,hx]
end
end Ss
