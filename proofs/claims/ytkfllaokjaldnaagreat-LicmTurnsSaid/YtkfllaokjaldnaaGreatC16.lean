import Derived.Test.YtkfllaokjaldnaaGreatC12
import Derived.Test.YtkfllaokjaldnaaGreatProg
import Derived.Test.YtkfllaokjaldnaaGreatC11
import Derived.Test.YtkfllaokjaldnaaGreatC10
import Derived.Test.YtkfllaokjaldnaaGreatC13
import Derived.Test.YtkfllaokjaldnaaGreatC15
/-
  Part of the proof (texts SEqF, GDom, GDom2, SAsk, SSame, SIns, GNat).
-/
set_option linter.unusedVariables false
set_option linter.unusedSimpArgs false
namespace Go.Vw
open Go.Proofs Go.RowKit
set_option maxRecDepth 10000
set_option maxHeartbeats 4000000
theorem EqFI_v (l m:List (Int)) (p:Int→Int→Bool) (fid:FuncId) (caps:List V) (hc:qf Tryz.prog fid=true) (hl:l.length<2^63) (h:l.length=m.length → ∀ (k:Nat) (h1:k<l.length) (h2:k<m.length),VPure Tryz.prog fid ([vint l[k],vint m[k]]++caps) (.bool (p l[k] m[k]))) :
  VPure Tryz.prog 135 [vl (vint) l,vl (vint) m, .func fid caps] (.bool (eqF p l m)):=by
 intro S
 by_cases hlm:l.length=m.length
 ·have hlm':(l.length:Int)=(m.length:Int):=by omega
  have h:=h hlm;refine jb (c:=jg Tryz.f135) Tryz.func135 rfl rfl (by simp [Tryz.ntmps135]) ?_;rw [Tryz.ntmps135];intro hwf
  repeat first|refine QG ?_|refine QY ?_ (r:=by conv=>lhs;simp[-List.map_set,QV,hlm,hlm'])
  repeat refine QS ?_
  refine je [1,2,15,16,17] rfl (fun c σ S' => ∃ (k:Nat),k≤l.length∧c=l.length-k∧eqF p (l.drop k) (m.drop k)=eqF p l m∧σ=[(1,vl (vint) m),(2, .func fid caps),(15,vl (vint) l),(16,vnat m.length),(17,vnat k)]∧S'=St S [] []) l.length ?_ ?_
  ·exact ⟨0,by omega,rfl,rfl,by simp [Fr.only,hlm],rfl⟩
  ·rintro c σ T ⟨k,hk,rfl,hd,rfl,rfl⟩
   by_cases hkt:k<l.length
   ·have hkm:k<m.length:=by omega
    have hw:=jo hkt hl;have hst:eqF p (l.drop k) (m.drop k)=(p l[k] m[k]&&eqF p (l.drop (k+1)) (m.drop (k+1))):=by rw [List.drop_eq_getElem_cons hkt,List.drop_eq_getElem_cons hkm,eqF]
    have hh:=h k hkt hkm;obtain ⟨x,hx⟩ : ∃ x,l[k]=x:=⟨_,rfl⟩
    obtain ⟨y,hy⟩ : ∃ y,m[k]=y:=⟨_,rfl⟩
    rw [hx,hy] at hst hh
    repeat first|refine QG ?_|refine QY ?_ (r:=by conv=>lhs;simp[-List.map_set,QV,hkt,hkm,hx,hy])
    repeat refine QS ?_
    refine QP ?_ (r:=by conv=>lhs;simp[-List.map_set,QV,hkt,hkm,hx,hy]);refine zd rfl hc rfl hh ?_;refine QW ?_
    cases hp:p x y with
    | false =>
     rw [hp] at hst
     repeat first|refine QG ?_|refine QY ?_ (r:=by conv=>lhs;simp[-List.map_set,QV,hp])
     exact ja hwf (by rw [←hd,hst]; rfl) rfl
    | true =>
     rw [hp] at hst
     repeat first|refine QG ?_|refine QY ?_ (r:=by conv=>lhs;simp[-List.map_set,QV,hp])
     show jx _ _ _ _ _ _ _;exact again ⟨Nat.sub_lt_sub_left hkt (Nat.lt_succ_self k),k+1,hkt,rfl,by rw [←hd,hst]; rfl,by simp [Fr.only,hw],rfl⟩
   ·have e:l.drop k=[]:=by rw [List.drop_eq_nil_iff]; omega
    have e':m.drop k=[]:=by rw [List.drop_eq_nil_iff]; omega
    rw [e,e'] at hd;have hkm : ¬ k<m.length:=by omega
    repeat first|refine QG ?_|refine QY ?_ (r:=by conv=>lhs;simp[-List.map_set,QV,hkt,hkm])
    exact ja hwf (by rw [←hd]; rfl) rfl
 ·have hlm' : ¬ (l.length:Int)=(m.length:Int):=by omega
  have e:eqF p l m=false:=eqF_len hlm;rw [e];refine jb (c:=jg Tryz.f135) Tryz.func135 rfl rfl (by simp [Tryz.ntmps135]) ?_;rw [Tryz.ntmps135];intro hwf
  repeat first|refine QG ?_|refine QY ?_ (r:=by conv=>lhs;simp[-List.map_set,QV,hlm,hlm'])
  exact ja hwf rfl rfl
end Go.Vw

namespace Go.Vw
open Go.Proofs Go.RowKit
set_option maxRecDepth 10000
set_option maxHeartbeats 4000000
theorem RDominates_v (l:List Int) (a b:Int) (hl:l.length<2^63):VPure Tryz.prog 121 [vl vint l,vint a,vint b] (.bool (G.dominates l a b)):=by
 intro S;refine qU rfl ?_;refine qQ (c:=jg Tryz.f121) Tryz.func121 rfl rfl (by simp [Tryz.ntmps121]) ?_;rw [Tryz.ntmps121]
 repeat refine QS ?_
 refine QY ?_
 by_cases ha:G.okIx l a
 ·by_cases hb:G.okIx l b
  ·obtain ⟨ha1,ha2⟩:=ha;obtain ⟨hb1,hb2⟩:=hb;have e1 : ¬ a<0:=by omega
   have e2 : ¬ (l.length:Int)≤a:=by omega
   have e3 : ¬ b<0:=by omega
   have e4 : ¬ (l.length:Int)≤b:=by omega
   repeat refine QS ?_
   refine QY ?_ (r:=by conv=>lhs;simp[-List.map_set,QV,jJ,e1,e2,e3,e4])
   repeat refine QS ?_
   refine jI rfl rfl rfl ?_
   repeat refine QS ?_
   refine jD rfl ?_
   repeat refine QS ?_
   refine QY ?_
   repeat refine QS ?_
   refine jL 0 rfl rfl ?_
   repeat refine QS ?_
   refine je [0,1,2,7] rfl (fun n σ S' => ∃ (k:Nat) (c:Int),k≤257∧n=257-k∧G.okIx l c∧G.dom1 l a (257-k) c=G.dom1 l a 257 b∧σ=[(0,vl vint l),(1,vint a),(2,vint c),(7,vnat k)]∧S'=S) 257 ?_ ?_
   ·exact ⟨0,b,by omega,rfl,⟨hb1,hb2⟩,rfl,by simp [Fr.only,Fr.look,vnat,vint],rfl⟩
   ·rintro n σ S' ⟨k,c,hk,rfl,hc,hd,rfl,rfl⟩;have hfin:G.dominates l a b=G.dom1 l a 257 b:=by simp [G.dominates,G.okIx,ha1,ha2]
    obtain ⟨hc1,hc2⟩:=hc;have hcn:c.toNat<l.length:=by omega
    repeat refine QS ?_
    refine QY ?_
    repeat refine QS ?_
    refine Yg rfl rfl rfl (k≤256) (by first | (simp; done) | (simp; omega)) ?_ ?_
    ·intro hk6;have hst:G.dom1 l a (257-k) c=if a=c then true else G.dom1 l a (256-k) (l[c.toNat]):=by
      rw [show 257-k=(256-k)+1 from by omega,G.dom1,if_pos ⟨hc1,hc2⟩];simp [hcn]
     repeat refine QS ?_
     refine jD rfl ?_
     repeat refine QS ?_
     refine jL 1 rfl rfl ?_
     repeat refine QS ?_
     refine QY ?_
     repeat refine QS ?_
     refine Yg rfl rfl rfl (a=c) (by first | (simp; done) | (simp; omega)) ?_ ?_
     ·intro hac
      repeat refine QS ?_
      refine QY ?_
      repeat refine QS ?_
      refine jM rfl ?_;rw [hfin, ←hd,hst,if_pos hac];exact Gives.same (Agree.refl S')
     ·intro hac;rw [if_neg hac] at hst
      repeat refine QS ?_
      refine jD rfl ?_
      repeat refine QS ?_
      refine QY ?_ (r:=by conv=>lhs;simp[-List.map_set,QV,jah,hc1,hcn]);have fls : ¬ G.okIx l l[c.toNat]→G.dom1 l a (256-k) l[c.toNat]=false:=by
       intro h
       cases 256-k<;>simp [G.dom1,h]
      by_cases hx:l[c.toNat]<0
      ·repeat refine QS ?_
       refine QY ?_ (r:=by conv=>lhs;simp[-List.map_set,QV,jJ,hx])
       repeat refine QS ?_
       refine jH rfl rfl rfl ?_
       repeat refine QS ?_
       refine QY ?_
       repeat refine QS ?_
       refine jM rfl ?_;rw [hfin, ←hd,hst,fls (by simp [G.okIx]; omega)];exact Gives.same (Agree.refl S')
      ·by_cases hy:(l.length:Int)≤l[c.toNat]
       ·repeat refine QS ?_
        refine QY ?_ (r:=by conv=>lhs;simp[-List.map_set,QV,jJ,hx,hy])
        repeat refine QS ?_
        refine jH rfl rfl rfl ?_
        repeat refine QS ?_
        refine QY ?_
        repeat refine QS ?_
        refine jM rfl ?_;rw [hfin, ←hd,hst,fls (by simp [G.okIx]; omega)];exact Gives.same (Agree.refl S')
       ·repeat refine QS ?_
        refine QY ?_ (r:=by conv=>lhs;simp[-List.map_set,QV,jJ,hx,hy])
        repeat refine QS ?_
        refine jI rfl rfl rfl ?_
        repeat refine QS ?_
        refine jD rfl ?_;have hw:IntKind.i64.wrap ((k:Int)+1)=(k:Int)+1:=wrap_i64 (by omega) (by omega)
        repeat refine QS ?_
        refine QY ?_ (r:=by conv=>lhs;simp[-List.map_set,QV,hw]);exact again ⟨Nat.sub_lt_sub_left (by omega) (Nat.lt_succ_self k),k+1,l[c.toNat],by omega,rfl,⟨by omega,by omega⟩,by rw [←hd,hst]; congr 1; omega,by simp [Fr.only,Fr.look,vnat,vint],rfl⟩
    ·intro hk6
     repeat refine QS ?_
     refine jP 0 rfl rfl ?_
     repeat refine QS ?_
     refine QY ?_
     repeat refine QS ?_
     refine jM rfl ?_;rw [hfin, ←hd,show 257-k=0 from by omega];exact Gives.same (Agree.refl S')
  ·have hfin:G.dominates l a b=false:=by simp [G.dominates,G.dom1,hb]
   obtain ⟨ha1,ha2⟩:=ha;have e1 : ¬ a<0:=by omega
   have e2 : ¬ (l.length:Int)≤a:=by omega
   rw [hfin]
   by_cases e3:b<0
   ·repeat refine QS ?_
    refine QY ?_ (r:=by conv=>lhs;simp[-List.map_set,QV,jJ,e1,e2,e3])
    repeat refine QS ?_
    refine jH rfl rfl rfl ?_
    repeat refine QS ?_
    refine QY ?_
    repeat refine QS ?_
    refine jM rfl ?_;exact Gives.same (Agree.refl S)
   ·have e4:(l.length:Int)≤b:=by simp [G.okIx] at hb; omega
    repeat refine QS ?_
    refine QY ?_ (r:=by conv=>lhs;simp[-List.map_set,QV,jJ,e1,e2,e3,e4])
    repeat refine QS ?_
    refine jH rfl rfl rfl ?_
    repeat refine QS ?_
    refine QY ?_
    repeat refine QS ?_
    refine jM rfl ?_;exact Gives.same (Agree.refl S)
 ·have hfin:G.dominates l a b=false:=by simp [G.dominates,ha]
  rw [hfin]
  by_cases e1:a<0
  ·repeat refine QS ?_
   refine QY ?_ (r:=by conv=>lhs;simp[-List.map_set,QV,jJ,e1])
   repeat refine QS ?_
   refine jH rfl rfl rfl ?_
   repeat refine QS ?_
   refine QY ?_
   repeat refine QS ?_
   refine jM rfl ?_;exact Gives.same (Agree.refl S)
  ·have e2:(l.length:Int)≤a:=by simp [G.okIx] at ha; omega
   repeat refine QS ?_
   refine QY ?_ (r:=by conv=>lhs;simp[-List.map_set,QV,jJ,e1,e2])
   repeat refine QS ?_
   refine jH rfl rfl rfl ?_
   repeat refine QS ?_
   refine QY ?_
   repeat refine QS ?_
   refine jM rfl ?_;exact Gives.same (Agree.refl S)
end Go.Vw

namespace Go.Vw
open Go.Proofs Go.RowKit
set_option maxRecDepth 10000
set_option maxHeartbeats 4000000
theorem there_v (l:List Int) (n:Int):VPure Tryz.prog 114 [vint n, .ref (vl vint l)] (.bool (decide (G.okIx l n))):=by
 intro S;refine qU rfl ?_;refine qQ (c:=jg Tryz.f114) Tryz.func114 rfl rfl (by simp [Tryz.ntmps114]) ?_;rw [Tryz.ntmps114]
 repeat refine QS ?_
 refine QY ?_
 by_cases h0:0≤n
 ·repeat refine QS ?_
  refine QY ?_ (r:=by conv=>lhs;simp[-List.map_set,QV,jJ,h0])
  repeat refine QS ?_
  refine jM rfl ?_;have:decide (G.okIx l n)=decide (n<(l.length:Int)):=by simp [G.okIx,h0]
  rw [this];exact Gives.same (Agree.refl S)
 ·repeat refine QS ?_
  refine QY ?_ (r:=by conv=>lhs;simp[-List.map_set,QV,jJ,h0])
  repeat refine QS ?_
  refine jM rfl ?_;have:decide (G.okIx l n)=false:=by simp [G.okIx,h0]
  rw [this];exact Gives.same (Agree.refl S)
theorem jaQ (l:List Int) (a b:Int) (hl:l.length<2^63):VPure Tryz.prog 79 [vl vint l,vint a,vint b] (.bool (G.dominates l a b)):=by
 intro S;refine qU rfl ?_;refine qQ (c:=jg Tryz.f79) Tryz.func79 rfl rfl (by simp [Tryz.ntmps79]) ?_;rw [Tryz.ntmps79]
 repeat refine QS ?_
 refine QY ?_;refine jz 3 rfl (Ghost.box (get_add _ _) (jbC _ _)) (by conv=>lhs; simp [Fr.set]) ?_;have hag:Agree S ((S.add (1,[vl vint l])).del S.nx):=((Agree.refl S).add _).del (Nat.le_refl _);generalize (S.add (1,[vl vint l])).del S.nx=S1 at hag ⊢
 repeat refine QS ?_
 refine QY ?_
 repeat refine QS ?_
 refine QP ?_;refine zd rfl rfl rfl (there_v l a) ?_;refine QW ?_
 by_cases ha:G.okIx l a
 ·have hfin:G.dominates l a b=G.dom1 l a 257 b:=by simp [G.dominates,ha]
  rw [hfin];refine jI rfl rfl (by simp [ev,Fr.look,ha]) ?_
  repeat refine QS ?_
  refine jD rfl ?_
  repeat refine QS ?_
  refine QY ?_
  repeat refine QS ?_
  refine jL 0 rfl rfl ?_
  repeat refine QS ?_
  refine je [0,1,2,3,7,8] rfl (fun n σ S' => ∃ (k:Nat) (c:Int),k≤257∧n=257-k∧G.dom1 l a (257-k) c=G.dom1 l a 257 b∧σ=[(0,vl vint l),(1,vint a),(2,vint c),(3, .ref (vl vint l)),(7, .func 114 [.ref (vl vint l)]),(8,vnat k)]∧S'=S1) 257 ?_ ?_
  ·exact ⟨0,b,by omega,rfl,rfl,by simp [Fr.only,Fr.look,vnat,vint],rfl⟩
  ·rintro n σ S' ⟨k,c,hk,rfl,hd,rfl,rfl⟩
   by_cases hk6:k≤256
   ·have hst:G.dom1 l a (257-k) c=if G.okIx l c then (if a=c then true else G.dom1 l a (256-k) (l.getD c.toNat 0)) else false:=by
     rw [show 257-k=(256-k)+1 from by omega,G.dom1]
    have h7:(k:Int)≤256:=by omega
    repeat refine QS ?_
    refine QP ?_ (r:=by conv=>lhs;simp[-List.map_set,QV,h7]);refine zd rfl rfl rfl (there_v l c) ?_;refine QW ?_
    by_cases hc:G.okIx l c
    ·refine jH rfl rfl (by simp [ev,Fr.look,hc]) ?_;rw [if_pos hc] at hst;obtain ⟨hc1,hc2⟩:=hc;have hcn:c.toNat<l.length:=by omega
     repeat refine QS ?_
     refine jD rfl ?_
     repeat refine QS ?_
     refine jL 1 rfl rfl ?_
     repeat refine QS ?_
     refine QY ?_
     repeat refine QS ?_
     refine Yg rfl rfl rfl (a=c) (by first | (simp; done) | (simp; omega)) ?_ ?_
     ·intro hac
      repeat refine QS ?_
      refine QY ?_
      repeat refine QS ?_
      refine jM rfl ?_;rw [←hd,hst,if_pos hac];exact Gives.same hag
     ·intro hac;rw [if_neg hac] at hst;have hw:IntKind.i64.wrap ((k:Int)+1)=(k:Int)+1:=wrap_i64 (by omega) (by omega)
      repeat refine QS ?_
      refine jD rfl ?_
      repeat refine QS ?_
      refine QY ?_ (r:=by conv=>lhs;simp[-List.map_set,QV,jah,hc1,hcn])
      repeat refine QS ?_
      refine QY ?_ (r:=by conv=>lhs;simp[-List.map_set,QV,hw]);exact again ⟨Nat.sub_lt_sub_left (by omega) (Nat.lt_succ_self k),k+1,l[c.toNat],by omega,rfl,by rw [←hd,hst,show 257-(k+1)=256-k from by omega]; simp [hcn],by simp [Fr.only,Fr.look,vnat,vint],rfl⟩
    ·refine jI rfl rfl (by simp [ev,Fr.look,hc]) ?_
     repeat refine QS ?_
     refine jP 0 rfl rfl ?_
     repeat refine QS ?_
     refine QY ?_
     repeat refine QS ?_
     refine jM rfl ?_;rw [←hd,hst,if_neg hc];exact Gives.same hag
   ·have h7 : ¬ (k:Int)≤256:=by omega
    repeat refine QS ?_
    refine QY ?_ (r:=by conv=>lhs;simp[-List.map_set,QV,h7])
    repeat refine QS ?_
    refine jI rfl rfl rfl ?_
    repeat refine QS ?_
    refine jP 0 rfl rfl ?_
    repeat refine QS ?_
    refine QY ?_
    repeat refine QS ?_
    refine jM rfl ?_;rw [←hd,show 257-k=0 from by omega];exact Gives.same hag
 ·have hfin:G.dominates l a b=false:=by simp [G.dominates,ha]
  rw [hfin];refine jH rfl rfl (by simp [ev,Fr.look,ha]) ?_
  repeat refine QS ?_
  refine QY ?_
  repeat refine QS ?_
  refine jM rfl ?_;exact Gives.same hag
end Go.Vw

namespace Ss
structure Def where
 made:Bool
 block:Int
 pos:Int
deriving DecidableEq,Inhabited
def askOk (ts:List Int) (ds:List Def) (near:List Int) (block pos v t:Int):Bool :=
 decide (0≤v)&&decide (v<ds.length)&&decide (ts.getD v.toNat 0=t)&&(ds.getD v.toNat default).made &&
  (if (ds.getD v.toNat default).block=block then decide ((ds.getD v.toNat default).pos<pos) else Go.Vw.G.dominates near (ds.getD v.toNat default).block block)
def asks (ts:List Int) (ds:List Def) (near:List Int) (block pos:Int) (l types:List Int):Bool:=Go.Vw.eqF (askOk ts ds near block pos) l types
def typesOf (ts:List Int) (l:List Int):List Int:=l.map fun v=>ts.getD v.toNat 0
def InTs (n:Nat) (l:List Int):Prop := ∀ v∈l,0≤v∧v<n
end Ss
namespace Go.Vw
open Go.Proofs Go.RowKit
set_option maxRecDepth 10000
set_option maxHeartbeats 2000000
def qV (d:Ss.Def):V := .agg [.bool d.made,vint d.block,vint d.pos]
theorem encDef_eq (d:Ss.Def):qV d = .agg [.bool d.made,vint d.block,vint d.pos]:=nr rfl
theorem encDef_nc (d:Ss.Def):(qV d).ncells=3:=nr rfl
theorem encDef_cells (d:Ss.Def):(qV d).cells=[.bool d.made,vint d.block,vint d.pos]:=nr rfl
theorem zQ (d:Ss.Def):(qV d).closed=true:=rfl
attribute [simp] encDef_eq encDef_nc
def ckC (e:Ss.Env) (f:Ss.Fn) (ds near:V):List V:=[vl jR e.sigs,vint e.imports,vl vint e.globals,vl V.bool e.muts, .bool e.mem,vl vint f.sig.inn,vl vint f.sig.out,vl vint f.types,vl jd f.blocks,ds,near]
theorem ckC_eq (e:Ss.Env) (f:Ss.Fn) (ds near:V):ckC e f ds near=[vl jR e.sigs,vint e.imports,vl vint e.globals,vl V.bool e.muts, .bool e.mem,vl vint f.sig.inn,vl vint f.sig.out,vl vint f.types,vl jd f.blocks,ds,near]:=nr rfl
attribute [simp] ckC_eq
abbrev ckV (e:Ss.Env) (f:Ss.Fn) (ds:List Ss.Def) (near:List Int):V := .ref (.agg (ckC e f (vl qV ds) (vl vint near)))
theorem boxSt {B:Store} {u:Upds} {l:List (Option (Nat × List V))} {k s:Nat} {x:V} (hk:k<l.length) (hc:(l[k]?).join=some (s,[x])) (h1:x.closed1=true):Ghost (.ptr (lid B.nx k) 0) (St B u l) (.ref x) (St B u (l.set k none)):=by
 rw [←jbI hk];exact Ghost.box (by rw [jC]; exact hc) h1
theorem types_v (e:Ss.Env) (f:Ss.Fn) (ds:List Ss.Def) (near:List Int) (l:List Int) (hl:l.length≤1048576) (hv:Ss.InTs f.types.length l):VPure Tryz.prog 107 [ckV e f ds near,vl vint l] (vl vint (Ss.typesOf f.types l)):=by
 intro S;obtain ⟨⟨fi,fo⟩,ts,bs⟩:=f;simp only at hv;generalize hg:(fun v:Int=>ts.getD v.toNat 0)=g;have hX:Ss.typesOf ts l=l.map g:=by rw [Ss.typesOf,hg]
 simp only;rw [hX];refine jb (c:=jg Tryz.f107) Tryz.func107 rfl rfl (by simp [Tryz.ntmps107]) ?_;rw [Tryz.ntmps107];intro hwf
 repeat refine QS ?_
 refine QY ?_
 repeat refine QS ?_
 refine QY ?_;refine qW 5 1 rfl (by conv=>lhs; simp [Fr.set]) ?_
 repeat first|refine QG ?_|refine QY ?_
 repeat refine QS ?_
 refine je [0,5,8,9,10] rfl (fun c σ S' => ∃ (k:Nat) (out:List Int),k≤l.length∧c=l.length-k∧out=(l.take k).map g∧out.length=k∧σ=[(0,ckV e ⟨⟨fi,fo⟩,ts,bs⟩ ds near),(5, .slice (lid S.nx 0) 0 k),(8,vl vint l),(9,vnat l.length),(10,vnat k)]∧S'=St S [] [some (1,out.map vint)]) l.length ?_ ?_
 ·exact ⟨0,[],by omega,rfl,by simp,rfl,by simp [Fr.only],by simp⟩
 ·rintro c σ T ⟨k,out,hk,rfl,ho,hlen,rfl,rfl⟩
  by_cases hkt:k<l.length
  ·have hw:=jo hkt (by omega);obtain ⟨h0,h1⟩:=hv _ (List.getElem_mem hkt);obtain ⟨v,hx⟩ : ∃ v,l[k]=v:=⟨_,rfl⟩
   rw [hx] at h0 h1;obtain ⟨n,rfl⟩ : ∃ n:Nat,v=n:=⟨v.toNat,by omega⟩
   have hn:n<ts.length:=by omega
   have hgn:g (n:Int)=ts[n]:=by rw [←hg]; simp [hn]
   have htk:l.take (k+1)=l.take k++[(n:Int)]:=by rw [List.take_add_one,List.getElem?_eq_getElem hkt,hx]; rfl
   have hb:(k+1)*8≤140737488355328:=by omega
   have hb':k+1≤140737488355328:=by omega
   repeat first|refine QG ?_|refine QY ?_ (r:=by conv=>lhs;simp[-List.map_set,QV,hkt,hx,hn,hlen,hb,hb'])
   refine QA [2] (h:=⟨?_,k+1,out++[ts[n]],hkt,rfl,by rw [htk,List.map_append,ho]; simp [hgn],by simp [hlen],by simp [hw],by simp⟩);omega
  ·have hke:k=l.length:=by omega
   subst hke;rw [List.take_length] at ho
   repeat first|refine QG ?_|refine QY ?_ (r:=by conv=>lhs;simp[-List.map_set,QV,hkt])
   rw [←ho];exact ji hwf ((frz1 (by simp) (by rfl) (jG vint (fun _=>rfl) _) (by simpa using hlen)).toB _) rfl
theorem asks1_v (e:Ss.Env) (f:Ss.Fn) (ds:List Ss.Def) (near:List Int) (block pos v t:Int) (hds:ds.length=f.types.length) (htl:f.types.length<2^63) (hnl:near.length<2^63) :
  VPure Tryz.prog 136 ([vint v,vint t]++[.ref (ckV e f ds near), .ref (vint block), .ref (vint pos)]) (.bool (Ss.askOk f.types ds near block pos v t)):=by
 intro S;obtain ⟨⟨fi,fo⟩,ts,bs⟩:=f;simp only at hds htl ⊢
 by_cases h0:v<0
 ·have e:Ss.askOk ts ds near block pos v t=false:=by simp [Ss.askOk]; omega
  rw [e];refine jb (c:=jg Tryz.f136) Tryz.func136 rfl rfl (by simp [Tryz.ntmps136]) ?_;rw [Tryz.ntmps136];intro hwf
  repeat first|refine QG ?_|refine QY ?_ (r:=by conv=>lhs;simp[-List.map_set,QV,h0])
  exact ja hwf (by simp) rfl
 obtain ⟨n,rfl⟩ : ∃ n:Nat,v=n:=⟨v.toNat,by omega⟩
 by_cases h1:n<ds.length
 case neg =>
  have h1' : ¬ (n:Int)<(ds.length:Int):=by omega
  have h1'':(ds.length:Int)≤(n:Int):=by omega
  have e:Ss.askOk ts ds near block pos n t=false:=by simp [Ss.askOk]; omega
  rw [e];refine jb (c:=jg Tryz.f136) Tryz.func136 rfl rfl (by simp [Tryz.ntmps136]) ?_;rw [Tryz.ntmps136];intro hwf
  repeat first|refine QG ?_|refine QY ?_ (r:=by conv=>lhs;simp[-List.map_set,QV,h0,h1,h1',h1''])
  exact ja hwf (by simp) rfl
 have hnt:n<ts.length:=by omega
 have h1'' : ¬ (ds.length:Int)≤(n:Int):=by omega
 obtain ⟨tt,htt⟩ : ∃ x,ts[n]=x:=⟨_,rfl⟩
 obtain ⟨⟨dm,db,dp⟩,hd⟩ : ∃ x,ds[n]=x:=⟨_,rfl⟩
 have hX:Ss.askOk ts ds near block pos n t=(decide (tt=t)&&(dm&&(if db=block then decide (dp<pos) else G.dominates near db block))):=by
  simp [Ss.askOk,h1,hnt,htt,hd,Bool.and_assoc]
 rw [hX]
 by_cases h2:tt=t
 case neg =>
  refine jb (c:=jg Tryz.f136) Tryz.func136 rfl rfl (by simp [Tryz.ntmps136]) ?_;rw [Tryz.ntmps136];intro hwf
  repeat first|refine QG ?_|refine QY ?_ (r:=by conv=>lhs;simp[-List.map_set,QV,h0,h1,h1'',hnt,htt,h2])
  exact ja hwf (by simp [h2]) rfl
 cases dm with
 | false =>
  refine jb (c:=jg Tryz.f136) Tryz.func136 rfl rfl (by simp [Tryz.ntmps136]) ?_;rw [Tryz.ntmps136];intro hwf
  repeat first|refine QG ?_|refine QY ?_ (r:=by conv=>lhs;simp[-List.map_set,QV,h0,h1,h1'',hnt,htt,h2,hd])
  exact ja hwf (by simp) rfl
 | true =>
  by_cases h3:db=block
  ·refine jb (c:=jg Tryz.f136) Tryz.func136 rfl rfl (by simp [Tryz.ntmps136]) ?_;rw [Tryz.ntmps136];intro hwf
   repeat first|refine QG ?_|refine QY ?_ (r:=by conv=>lhs;simp[-List.map_set,QV,h0,h1,h1'',hnt,htt,h2,hd,h3])
   exact ja hwf (by simp [h2,h3]) rfl
  ·have cd:=jaQ near db block hnl;generalize G.dominates near db block=y at *
   refine jb (c:=jg Tryz.f136) Tryz.func136 rfl rfl (by simp [Tryz.ntmps136]) ?_;rw [Tryz.ntmps136];intro hwf
   repeat first|refine QG ?_|refine QY ?_ (r:=by conv=>lhs;simp[-List.map_set,QV,h0,h1,h1'',hnt,htt,h2,hd,h3])
   repeat refine QS ?_
   refine QD (r:=by conv=>lhs;simp[-List.map_set,QV,h0,h1,h1'',hnt,htt,h2,hd,h3]) (k:=?_);refine jc (cd) (by rfl) ?_;refine QW ?_
   repeat first|refine QG ?_|refine QY ?_
   exact ja hwf (by simp [h2,h3]) rfl
theorem asks_v (e:Ss.Env) (f:Ss.Fn) (ds:List Ss.Def) (near:List Int) (block pos:Int) (l types:List Int) (hds:ds.length=f.types.length) (htl:f.types.length<2^63) (hnl:near.length<2^63) (hl:l.length<2^63) :
  VPure Tryz.prog 109 [ckV e f ds near,vint block,vint pos,vl vint l,vl vint types] (.bool (Ss.asks f.types ds near block pos l types)):=by
 intro S;refine jb (c:=jg Tryz.f109) Tryz.func109 rfl rfl (by simp [Tryz.ntmps109]) ?_;rw [Tryz.ntmps109];intro hwf
 repeat refine QS ?_
 refine QY ?_;refine jz 5 rfl ((boxSt (by simp) rfl rfl)) (by conv=>lhs; simp [Fr.set]) ?_;simp only [List.set_cons_succ,List.set_cons_zero];refine jz 6 rfl ((boxSt (by simp) rfl rfl)) (by conv=>lhs; simp [Fr.set]) ?_;simp only [List.set_cons_succ,List.set_cons_zero];refine jz 7 rfl ((boxSt (by simp) rfl rfl)) (by conv=>lhs; simp [Fr.set]) ?_;simp only [List.set_cons_succ,List.set_cons_zero]
 repeat refine QS ?_
 refine QP ?_;refine jc (EqFI_v l types (Ss.askOk f.types ds near block pos) 136 [.ref (ckV e f ds near), .ref (vint block), .ref (vint pos)] rfl hl (fun _ k h1 h2=>asks1_v e f ds near block pos _ _ hds htl hnl)) (by rfl) ?_;refine QW ?_
 repeat first|refine QG ?_|refine QY ?_
 exact ja hwf rfl rfl
end Go.Vw

namespace Go.Vw
open Go.Proofs Go.RowKit
set_option maxRecDepth 10000
set_option maxHeartbeats 4000000
theorem jaD {α:Type} [DecidableEq α] (l m:List α):eqF (fun x y=>decide (x=y)) l m=decide (l=m):=eqF_eq (fun _ _=>rfl) l m
theorem Equal_v (l m:List Int) (hl:l.length<2^63):VPure Tryz.prog 106 [vl vint l,vl vint m] (.bool (decide (l=m))):=by
 intro S;rw [←jaD];generalize hp:(fun x y:Int=>decide (x=y))=p
 by_cases hlm:l.length=m.length
 ·have hlm':(l.length:Int)=(m.length:Int):=by omega
  refine jb (c:=jg Tryz.f106) Tryz.func106 rfl rfl (by simp [Tryz.ntmps106]) ?_;rw [Tryz.ntmps106];intro hwf
  repeat first|refine QG ?_|refine QY ?_ (r:=by conv=>lhs;simp[-List.map_set,QV,hlm,hlm'])
  repeat refine QS ?_
  refine je [0,1,12,13] rfl (fun c σ S' => ∃ (k:Nat),k≤l.length∧c=l.length-k∧eqF p (l.drop k) (m.drop k)=eqF p l m∧σ=[(0,vl vint l),(1,vl vint m),(12,vnat m.length),(13,vnat k)]∧S'=St S [] []) l.length ?_ ?_
  ·exact ⟨0,by omega,rfl,rfl,by simp [Fr.only,hlm],rfl⟩
  ·rintro c σ T ⟨k,hk,rfl,hd,rfl,rfl⟩
   by_cases hkt:k<l.length
   ·have hkm:k<m.length:=by omega
    have hw:=jo hkt hl;have hst:eqF p (l.drop k) (m.drop k)=(p l[k] m[k]&&eqF p (l.drop (k+1)) (m.drop (k+1))):=by rw [List.drop_eq_getElem_cons hkt,List.drop_eq_getElem_cons hkm,eqF]
    obtain ⟨x,hx⟩ : ∃ x,l[k]=x:=⟨_,rfl⟩
    obtain ⟨y,hy⟩ : ∃ y,m[k]=y:=⟨_,rfl⟩
    rw [hx,hy] at hst
    by_cases hxy:x=y
    ·rw [show p x y=true by rw [←hp]; simp [hxy]] at hst
     repeat first|refine QG ?_|refine QY ?_ (r:=by conv=>lhs;simp[-List.map_set,QV,hkt,hkm,hx,hy,hxy])
     show jx _ _ _ _ _ _ _;exact again ⟨Nat.sub_lt_sub_left hkt (Nat.lt_succ_self k),k+1,hkt,rfl,by rw [←hd,hst]; rfl,by simp [Fr.only,hw],rfl⟩
    ·rw [show p x y=false by rw [←hp]; simp [hxy]] at hst
     repeat first|refine QG ?_|refine QY ?_ (r:=by conv=>lhs;simp[-List.map_set,QV,hkt,hkm,hx,hy,hxy])
     exact ja hwf (by rw [←hd,hst]; rfl) rfl
   ·have e:l.drop k=[]:=by rw [List.drop_eq_nil_iff]; omega
    have e':m.drop k=[]:=by rw [List.drop_eq_nil_iff]; omega
    rw [e,e'] at hd;have hkm : ¬ k<m.length:=by omega
    repeat first|refine QG ?_|refine QY ?_ (r:=by conv=>lhs;simp[-List.map_set,QV,hkt,hkm])
    exact ja hwf (by rw [←hd]; rfl) rfl
 ·have hlm' : ¬ (l.length:Int)=(m.length:Int):=by omega
  have e:eqF p l m=false:=eqF_len hlm;rw [e];refine jb (c:=jg Tryz.f106) Tryz.func106 rfl rfl (by simp [Tryz.ntmps106]) ?_;rw [Tryz.ntmps106];intro hwf
  repeat first|refine QG ?_|refine QY ?_ (r:=by conv=>lhs;simp[-List.map_set,QV,hlm,hlm'])
  exact ja hwf rfl rfl
end Go.Vw

namespace Ss
def insOut (ts:List Int) (x:Ins):Int:=match x.outs with
 | []=>0
 | v::_=>ts.getD v.toNat 0
def insOk (e:Env) (f:Fn) (ds:List Def) (near:List Int) (block pos:Int) (x:Ins):Bool :=
 (form e x.op x.n (insOut f.types x)).ok&&decide (x.n≤(form e x.op x.n (insOut f.types x)).most)&&decide (typesOf f.types x.outs=(form e x.op x.n (insOut f.types x)).outs)&&asks f.types ds near block pos x.args (form e x.op x.n (insOut f.types x)).inn
def branches (t:Term):Bool:=decide (t.kind=2)||decide (t.kind=3)
def termHead (fo:List Int) (k:Int):Option (Nat × Nat × List Int) :=
 if k=1 then some (1,1,[]) else if k=2 then some (2,2,[]) else if k=3 then some (1,65,[]) else if k=4 then some (0,0,fo) else if k=5 then some (0,0,[]) else none
def edgeOk (f:Fn) (ds:List Def) (near:List Int) (i pos:Int) (x:Edge):Bool :=
 !decide (x.to=0)&&asks f.types ds near i pos x.args (typesOf f.types (f.blocks.getD x.to.toNat default).params)
def termTail (f:Fn) (ds:List Def) (near:List Int) (i pos:Int) (t:Term) (le mo:Nat) (rs:List Int):Bool :=
 (if branches t then asks f.types ds near i pos [t.arg] [127] else decide (t.arg=0))&&decide (le≤t.to.length)&&decide (t.to.length≤mo)&&asks f.types ds near i pos t.args rs&&t.to.all (edgeOk f ds near i pos)
def termOk (f:Fn) (ds:List Def) (near:List Int) (i:Int) (b:Block):Bool:=match termHead f.sig.out b.term.kind with
 | some (le,mo,rs)=>termTail f ds near i b.code.length b.term le mo rs
 | none=>false
end Ss
namespace Go.Vw
open Go.Proofs Go.RowKit
set_option maxRecDepth 10000
set_option maxHeartbeats 4000000
theorem Yf {P:Program} {N b:Nat} {Q Q2:Exit→Fr→Store→Prop} {σ:Fr} {S:Store} {c c2:Code} (Mid:Fr→Store→Prop) (ks:List Nat) (h1:VWp P N b c (Ks (fun σ S=>Mid (σ.only ks) S) Q) σ S) (h2 : ∀ σ S,Mid σ S→VWp P N b c2 Q2 σ S):VWp P N b c (Ks (VWp P N b c2 Q2) Q) σ S :=
 vw_mono h1 fun e σ S q=>by
  cases e with
  | normal=>exact jbL ks (h2 _ _ q)
  | exit id=>exact q
  | goto l=>exact q
  | ret=>exact q
  | panic ch=>exact q
  | outgrown=>exact q
theorem vw_joinR {P:Program} {N b:Nat} {Q Q2:Exit→Fr→Store→Prop} {σ:Fr} {S:Store} {c c2:Code} (Mid:Fr→Store→Prop) (ks:List Nat) (h1:VWp P N b c (Ks (fun σ S => ∃ σc Sc,Reach N b (σ.only ks) S σc Sc∧Mid σc Sc) Q) σ S) (h2 : ∀ σ S,Mid σ S→VWp P N b c2 Q2 σ S):VWp P N b c (Ks (VWp P N b c2 Q2) Q) σ S :=
 vw_mono h1 fun e σ S q=>by
  cases e with
  | normal=>obtain ⟨σc,Sc,hr,hm⟩:=q; exact jbL ks (ju hr (h2 _ _ hm))
  | exit id=>exact q
  | goto l=>exact q
  | ret=>exact q
  | panic ch=>exact q
  | outgrown=>exact q
theorem mid_gc {N:Nat} {Mid:Fr→Store→Prop} {σ σ1 σ':Fr} {B:Store} {u u':Upds} {l l':List (Option (Nat × List V))} (ks gs:List Nat) (hσ1:σ.only ks=σ1) (hw:B.Wf) (h1:gs.Nodup)
  (h2:(KA B.nx gs u&&Zl B.nx gs l gs&&idsF (gcP B.nx gs) σ1)=true) (hu:gcU B.nx gs u=u') (hl:gcL B.nx gs l gs=l') (hσ:renF (gcTo B.nx gs) σ1=σ') (h:Mid σ' (St B u' l')) :
  ∃ σc Sc,Reach N B.nx (σ.only ks) (St B u l) σc Sc∧Mid σc Sc:=⟨σ',_,by rw [hσ1]; exact Reach.gc gs hw h1 h2 hu hl hσ,h⟩
theorem ins_v (e:Ss.Env) (f:Ss.Fn) (ds:List Ss.Def) (near:List Int) (block pos:Int) (x:Ss.Ins) (hsl:e.sigs.length≤140737488355328) (hgl:e.globals.length≤140737488355328) (hml:e.muts.length=e.globals.length)
  (hds:ds.length=f.types.length) (htl:f.types.length<2^63) (hnl:near.length<2^63) (hx:x.Fits) (hol:x.outs.length≤1048576) (hov:Ss.InTs f.types.length x.outs) :
  VPure Tryz.prog 71 [ckV e f ds near,vint block,vint pos,jm x] (.bool (Ss.insOk e f ds near block pos x)):=by
 intro S;have cf:=form_v e x.op x.n (Ss.insOut f.types x) hsl hgl hml hx.1 hx.2.1.1;have ct:=types_v e f ds near x.outs hol hov;have hal:=hx.2.2.1.1;have ca : ∀ l:List Int,VPure Tryz.prog 109 [ckV e f ds near,vint block,vint pos,vl vint x.args,vl vint l] (.bool (Ss.asks f.types ds near block pos x.args l)):=fun l=>asks_v e f ds near block pos x.args l hds htl hnl (by omega)
 unfold Ss.insOk;generalize hr:Ss.form e x.op x.n (Ss.insOut f.types x)=r at *
 have hql:(Ss.typesOf f.types x.outs).length<2^63:=by simp [Ss.typesOf]; omega
 generalize htt:Ss.typesOf f.types x.outs=tt at *
 obtain ⟨ri,ro,rm,rk⟩:=r;have ceq:=Equal_v tt ro hql;obtain ⟨xo,xn,xa,xu⟩:=x;obtain ⟨⟨fi,fo⟩,ts,bs⟩:=f;obtain ⟨sg,im,gl,mu,me⟩:=e;simp only at *
 have ca':=ca ri;generalize Ss.asks ts ds near block pos xa ri=ax at ca';generalize hio:Ss.insOut ts ⟨xo,xn,xa,xu⟩=io at cf;have cf':VPure Tryz.prog 108 [.agg [vl jR sg, .int .i64 im,vl vint gl,vl V.bool mu, .bool me], .int .i64 xo, .int .u64 xn, .int .i64 io] (.tuple [vl vint ri,vl vint ro, .int .u64 rm, .bool rk]):=cf;refine jb (c:=jg Tryz.f71) Tryz.func71 rfl rfl (by simp [Tryz.ntmps71]) ?_;rw [Tryz.ntmps71];intro hwf
 repeat refine QS ?_
 refine QY ?_
 repeat refine QS ?_
 refine QY ?_;refine JU rfl ?_;refine Yf (fun σ S'=>σ=[(0,ckV ⟨sg,im,gl,mu,me⟩ ⟨⟨fi,fo⟩,ts,bs⟩ ds near),(1,vint block),(2,vint pos),(7, .ptr (lid S.nx 0) 0),(8, .bool false),(9,vint io)]∧S'=St S [] [some (4,[vint xo,vu xn,vl vint xa,vl vint xu])]) [0,1,2,7,8,9] ?_ ?_
 ·cases xu with
  | nil =>
   have h0:io=0:=by rw [←hio]; rfl
   subst h0
   repeat first|refine QG ?_|refine QY ?_
   exact ⟨by simp [Fr.only],by simp⟩
  | cons v r =>
   obtain ⟨h0,h1⟩:=hov v (by simp);obtain ⟨n,rfl⟩ : ∃ n:Nat,v=n:=⟨v.toNat,by omega⟩
   have hn:n<ts.length:=by omega
   have h2:io=ts[n]:=by rw [←hio]; simp [Ss.insOut,hn]
   subst h2;have hpos:(0:Int)<((r.length:Int)+1):=by omega
   repeat first|refine QG ?_|refine QY ?_ (r:=by conv=>lhs;simp[-List.map_set,QV,hn,hpos])
   exact ⟨by simp [Fr.only],by simp⟩
 rintro σ S' ⟨rfl,rfl⟩
 repeat refine QS ?_
 repeat refine QS ?_
 refine QD (r:=by conv=>lhs;simp[-List.map_set,QV]) (k:=?_);refine jc (cf') (by rfl) ?_;refine QW ?_
 by_cases h1:rk=true
 case neg =>
  have h1':rk=false:=by simpa using h1
  repeat first|refine QG ?_|refine QY ?_ (r:=by conv=>lhs;simp[-List.map_set,QV,h1'])
  exact ja hwf (by simp [h1']) rfl
 by_cases h2:xn≤rm
 case neg =>
  repeat first|refine QG ?_|refine QY ?_ (r:=by conv=>lhs;simp[-List.map_set,QV,h1,h2])
  exact ja hwf (by simp [h2]) rfl
 repeat first|refine QG ?_|refine QY ?_ (r:=by conv=>lhs;simp[-List.map_set,QV,h1,h2])
 repeat refine QS ?_
 refine QP ?_ (r:=by conv=>lhs;simp[-List.map_set,QV,h1,h2]);refine jc (ct) (by rfl) ?_;refine QZ ?_;refine jc (ceq) (by rfl) ?_
 by_cases h3:tt=ro
 case neg =>
  refine QM (by conv=>lhs;simp[-List.map_set,QV,h3]) ?_;refine QN ?_
  repeat first|refine QG ?_|refine QY ?_
  exact ja hwf (by simp [h3]) rfl
 refine QM (by conv=>lhs;simp[-List.map_set,QV,h3]) ?_;refine jc (ca') (by rfl) ?_;refine QW ?_
 repeat first|refine QG ?_|refine QY ?_
 exact ja hwf (by simp [h1,h2,h3]) rfl
end Go.Vw

/-
 Graphs that may be: lists of lists of numbers of nodes.
-/
namespace Go.Vw.G
open Go.Vw
structure Ok (g:List (List Nat)):Prop where
 pos:1≤g.length
 max:g.length≤256
 row : ∀ l∈g,l.length≤128
 elt : ∀ l∈g, ∀ n∈l,n<g.length
def nats (g:List (List Int)):List (List Nat):=g.map (·.map Int.toNat)
theorem nats_length (g:List (List Int)):(nats g).length=g.length:=by simp [nats]
theorem rowOk_iff {n:Nat} {l:List Int}:rowOk n l=true↔l.length≤128 ∧ ∀ x∈l,0≤x∧x<n:=by
 simp only [rowOk,Bool.and_eq_true,decide_eq_true_eq,Bool.not_eq_true',List.any_eq_false,wild,Bool.or_eq_true,not_or,decide_eq_true_eq];constructor
 ·rintro ⟨h1,h2⟩; exact ⟨h1,fun x hx=>by have:=h2 x hx; omega⟩
 ·rintro ⟨h1,h2⟩; exact ⟨h1,fun x hx=>by have:=h2 x hx; omega⟩
theorem right_ok {g:List (List Int)} (h:right g=true):Ok (nats g):=by
 simp only [right,Bool.and_eq_true,decide_eq_true_eq,List.all_eq_true,rowOk_iff] at h;obtain ⟨⟨h1,h2⟩,h3⟩:=h;refine ⟨by rw [nats_length]; exact h1,by rw [nats_length]; exact h2, ?_, ?_⟩
 ·intro l hl;obtain ⟨r,hr,rfl⟩:=List.mem_map.1 hl;rw [List.length_map]; exact (h3 r hr).1
 ·intro l hl n hn;obtain ⟨r,hr,rfl⟩:=List.mem_map.1 hl;obtain ⟨x,hx,rfl⟩:=List.mem_map.1 hn;have:=(h3 r hr).2 x hx;rw [nats_length]; omega
theorem right_enc {g:List (List Int)} (h:right g=true):vl (vl vint) g=vl (vl vnat) (nats g):=by
 simp only [right,Bool.and_eq_true,decide_eq_true_eq,List.all_eq_true,rowOk_iff] at h;obtain ⟨_,h3⟩:=h;unfold vl nats;simp only [V.list.injEq,List.map_map];refine List.map_congr_left fun r hr => ?_
 simp only [Function.comp,List.map_map,V.list.injEq];refine List.map_congr_left fun x hx => ?_
 have:=(h3 r hr).2 x hx;simp only [Function.comp,vint,vnat,V.int.injEq,true_and];omega
abbrev WS:=List Bool × List Nat
def walk (g:List (List Nat)):Nat→Nat→WS→Option WS
 | 0,_,_=>none
 | f+1,n,s=>((g.getD n []).foldlM (fun (s:WS) k=>if s.1.getD k false then some s else walk g f k s) ((s.1.set n true,s.2):WS)).map fun (s:WS)=>((s.1,s.2++[n]):WS)
def kids (g:List (List Nat)) (f:Nat) (l:List Nat) (s:WS):Option WS:=l.foldlM (fun (s:WS) k=>if s.1.getD k false then some s else walk g f k s) s
theorem walk_succ (g:List (List Nat)) (f n:Nat) (s:WS):walk g (f+1) n s=(kids g f (g.getD n []) (s.1.set n true,s.2)).map fun s=>(s.1,s.2++[n]):=rfl
theorem kids_nil (g:List (List Nat)) (f:Nat) (s:WS):kids g f [] s=some s:=rfl
theorem kids_cons (g:List (List Nat)) (f k:Nat) (l:List Nat) (s:WS):kids g f (k::l) s=if s.1.getD k false then kids g f l s else (walk g f k s).bind (kids g f l):=by
 simp only [kids,List.foldlM_cons]
 cases s.1.getD k false
 ·simp; rfl
 ·simp
theorem kids_len {g:List (List Nat)} {f:Nat} (ih : ∀ n s s',walk g f n s=some s'→s.2.length≤s'.2.length∧s'.1.length=s.1.length) : ∀ (l:List Nat) (s s':WS),kids g f l s=some s'→s.2.length≤s'.2.length∧s'.1.length=s.1.length
 | [],s,s',h=>by cases h; exact ⟨Nat.le_refl _,rfl⟩
 | k::l,s,s',h=>by
  rw [kids_cons] at h;split at h
  ·exact kids_len ih l s s' h
  ·obtain ⟨t,h1,h2⟩:=Option.bind_eq_some_iff.1 h;have a:=ih _ _ _ h1;have b:=kids_len ih l t s' h2;omega
theorem walk_len (g:List (List Nat)) : ∀ (f n:Nat) (s s':WS),walk g f n s=some s'→s.2.length≤s'.2.length∧s'.1.length=s.1.length
 | 0,n,s,s',h=>by cases h
 | f+1,n,s,s',h=>by
  rw [walk_succ] at h;obtain ⟨t,h1,rfl⟩:=Option.map_eq_some_iff.1 h;have:=kids_len (walk_len g f) _ _ _ h1;simp at this ⊢;omega
end Go.Vw.G
