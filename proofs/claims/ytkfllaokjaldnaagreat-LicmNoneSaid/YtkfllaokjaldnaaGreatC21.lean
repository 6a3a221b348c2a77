import Derived.Test.YtkfllaokjaldnaaGreatC20
import Derived.Test.YtkfllaokjaldnaaGreatC18
import Derived.Test.YtkfllaokjaldnaaGreatC19
import Derived.Test.YtkfllaokjaldnaaGreatC16
/-
  Part of the proof (texts SForm, SIns).
-/
set_option linter.unusedVariables false
set_option linter.unusedSimpArgs false
namespace Ss
structure FormR where
 inn:List Int
 outs:List Int
 most:Int
 ok:Bool
deriving DecidableEq,Inhabited
def formMem (op:Int):FormR :=
 if op=257 then ⟨[127],[],8589934592,true⟩
 else if op=63 then ⟨[],[127],0,true⟩
 else if op=64 then ⟨[127],[127],0,true⟩
 else match accOf op with
  | some a=>if a.store then ⟨[127,a.kind],[],4294967295,true⟩ else ⟨[127],[a.kind],4294967295,true⟩
  | none=>⟨[],[],0,false⟩
def formNum (e:Env) (op:Int):FormR :=
 match numSig op with
 | (l,t,true)=>⟨l,[t],0,true⟩
 | _=>if e.mem then formMem op else ⟨[],[],0,false⟩
def formGlob (e:Env) (op n:Int):FormR :=
 if n<e.globals.length then (if op=35 then ⟨[],[e.globals.getD n.toNat 0],n,true⟩ else ⟨[e.globals.getD n.toNat 0],[],n,e.muts.getD n.toNat false⟩) else ⟨[],[],0,false⟩
def form (e:Env) (op n out:Int):FormR :=
 if op=256 then (if out=127 then ⟨[],[127],4294967295,true⟩ else ⟨[],[126],18446744073709551615,true⟩)
 else if op=258 then ⟨[],[],0,true⟩
 else if op=27 then ⟨[out,out,127],[out],0,true⟩
 else if op=16 then (if n<e.sigs.length then ⟨(e.sigs.getD n.toNat default).inn,(e.sigs.getD n.toNat default).out,n,true⟩ else ⟨[],[],0,false⟩)
 else if op=35∨op=36 then formGlob e op n
 else formNum e op
end Ss
namespace Go.Vw
open Go.Proofs Go.RowKit
set_option maxRecDepth 10000
set_option maxHeartbeats 4000000
theorem Ka {n:Int} (h1:0≤n) (h2:n<18446744073709551616):IntKind.u64.wrap n=n:=by
 have e:IntKind.u64.wrap n=n % 18446744073709551616:=by simp [IntKind.wrap,IntKind.bits,IntKind.signed]
 rw [e]; omega
def jax (r:Ss.FormR):V := .tuple [vl vint r.inn,vl vint r.outs,vu r.most, .bool r.ok]
theorem opSlice_one {α:Type} {enc:α→V} {l:List α} {k:IntKind} {m s:Nat} {S:Store} (hs : ∀ a,(enc a).ncells=s) (h:m<l.length):qC s S (vl enc l) (some (.int k (m:Int))) (some (.int k ((m:Int)+1))) none=some (vl enc [l[m]]):=by
 have e1:((m:Int)+1).toNat=m+1:=by omega
 have e2:((l.map enc).take (m+1)).drop m=[enc l[m]]:=by
  rw [List.drop_take]
  simp [List.drop_eq_getElem_cons,h]
 simp only [qC,vl,qH,List.length_map]
 rw [if_pos (by omega),if_pos (by omega),e1]
 simp only [Int.toNat_natCast]
 rw [if_pos ⟨by omega,by omega,by omega,by simp, .inr (by simp [hs])⟩]
 simp [e2]
theorem form_c32 (e:Ss.Env) (op n out:Int) (hsl:e.sigs.length≤140737488355328) (hgl:e.globals.length≤140737488355328) (hml:e.muts.length=e.globals.length) (h1:op=256) (h2:out=127) :
  VPure Tryz.prog 108 [zm e,vint op,vu n,vint out] (jax ⟨[],[127],4294967295,true⟩):=by
 intro S
 obtain ⟨sg,im,gl,mu,me⟩:=e
 simp only at hsl hgl hml
 refine jb (c:=jf Tryz.f108) Tryz.func108 rfl rfl (by simp [Tryz.ntmps108]) ?_
 rw [Tryz.ntmps108]
 intro hwf
 repeat refine QS ?_
 refine QP ?_
 refine QN ?_
 repeat refine QS ?_
 refine QP ?_
 refine QN ?_
 refine ji 12 rfl ((frz1 (k:=1) (len:=1) (by simp) (by rfl) (by rfl) (by rfl))) (by conv=>lhs; simp [Fr.set]) ?_
 simp only [List.set_cons_succ,List.set_cons_zero]
 repeat (first|refine QG ?_|refine QY ?_ (r:=by conv=>lhs;simp[-List.map_set,QV,h1,h2]))
 exact jh hwf (((Ghost.tuple [] [_,_,_] (Ghost.nils_list _))).toB _) rfl
theorem form_c64 (e:Ss.Env) (op n out:Int) (hsl:e.sigs.length≤140737488355328) (hgl:e.globals.length≤140737488355328) (hml:e.muts.length=e.globals.length) (h1:op=256) (h2 : ¬ out=127) :
  VPure Tryz.prog 108 [zm e,vint op,vu n,vint out] (jax ⟨[],[126],18446744073709551615,true⟩):=by
 intro S
 obtain ⟨sg,im,gl,mu,me⟩:=e
 simp only at hsl hgl hml
 refine jb (c:=jf Tryz.f108) Tryz.func108 rfl rfl (by simp [Tryz.ntmps108]) ?_
 rw [Tryz.ntmps108]
 intro hwf
 repeat refine QS ?_
 refine QP ?_
 refine QN ?_
 repeat refine QS ?_
 refine QP ?_
 refine QN ?_
 refine ji 12 rfl ((frz1 (k:=1) (len:=1) (by simp) (by rfl) (by rfl) (by rfl))) (by conv=>lhs; simp [Fr.set]) ?_
 simp only [List.set_cons_succ,List.set_cons_zero]
 repeat (first|refine QG ?_|refine QY ?_ (r:=by conv=>lhs;simp[-List.map_set,QV,h1,h2]))
 exact jh hwf ((((Ghost.tuple [] [_,_,_] (Ghost.nils_list _)).trans (Ghost.tuple [_] [_,_] (frz1 (k:=2) (by simp) (by rfl) (by rfl) (by rfl))))).toB _) rfl
theorem form_tick (e:Ss.Env) (op n out:Int) (hsl:e.sigs.length≤140737488355328) (hgl:e.globals.length≤140737488355328) (hml:e.muts.length=e.globals.length) (h1:op=258) :
  VPure Tryz.prog 108 [zm e,vint op,vu n,vint out] (jax ⟨[],[],0,true⟩):=by
 intro S
 obtain ⟨sg,im,gl,mu,me⟩:=e
 simp only at hsl hgl hml
 refine jb (c:=jf Tryz.f108) Tryz.func108 rfl rfl (by simp [Tryz.ntmps108]) ?_
 rw [Tryz.ntmps108]
 intro hwf
 repeat refine QS ?_
 refine QP ?_
 refine QN ?_
 repeat refine QS ?_
 refine QP ?_
 refine QN ?_
 refine ji 12 rfl ((frz1 (k:=1) (len:=1) (by simp) (by rfl) (by rfl) (by rfl))) (by conv=>lhs; simp [Fr.set]) ?_
 simp only [List.set_cons_succ,List.set_cons_zero]
 repeat (first|refine QG ?_|refine QY ?_ (r:=by conv=>lhs;simp[-List.map_set,QV,h1]))
 exact jh hwf ((((Ghost.tuple [] [_,_,_] (Ghost.nils_list _)).trans (Ghost.tuple [_] [_,_] (Ghost.nils_list _)))).toB _) rfl
theorem form_sel (e:Ss.Env) (op n out:Int) (hsl:e.sigs.length≤140737488355328) (hgl:e.globals.length≤140737488355328) (hml:e.muts.length=e.globals.length) (h1:op=27) :
  VPure Tryz.prog 108 [zm e,vint op,vu n,vint out] (jax ⟨[out,out,127],[out],0,true⟩):=by
 intro S
 obtain ⟨sg,im,gl,mu,me⟩:=e
 simp only at hsl hgl hml
 refine jb (c:=jf Tryz.f108) Tryz.func108 rfl rfl (by simp [Tryz.ntmps108]) ?_
 rw [Tryz.ntmps108]
 intro hwf
 repeat refine QS ?_
 refine QP ?_
 refine QN ?_
 repeat refine QS ?_
 refine QP ?_
 refine QN ?_
 refine ji 12 rfl ((frz1 (k:=1) (len:=1) (by simp) (by rfl) (by rfl) (by rfl))) (by conv=>lhs; simp [Fr.set]) ?_
 simp only [List.set_cons_succ,List.set_cons_zero]
 repeat (first|refine QG ?_|refine QY ?_ (r:=by conv=>lhs;simp[-List.map_set,QV,h1]))
 exact jh hwf ((((Ghost.tuple [] [_,_,_] (frz1 (k:=2) (by simp) (by rfl) (by rfl) (by rfl))).trans (Ghost.tuple [_] [_,_] (frz1 (k:=3) (by simp) (by rfl) (by rfl) (by rfl))))).toB _) rfl
theorem form_call (e:Ss.Env) (op n out:Int) (hsl:e.sigs.length≤140737488355328) (hgl:e.globals.length≤140737488355328) (hml:e.muts.length=e.globals.length) (h0:0≤n) (h1:op=16) :
  VPure Tryz.prog 108 [zm e,vint op,vu n,vint out] (jax (if n<e.sigs.length then ⟨(e.sigs.getD n.toNat default).inn,(e.sigs.getD n.toNat default).out,n,true⟩ else ⟨[],[],0,false⟩)):=by
 intro S
 obtain ⟨sg,im,gl,mu,me⟩:=e
 simp only at hsl hgl hml
 obtain ⟨m,rfl⟩ : ∃ m:Nat,n=m:=⟨n.toNat,by omega⟩
 have hc:IntKind.u64.wrap (sg.length:Int)=(sg.length:Int):=Ka (by omega) (by omega)
 simp only
 by_cases h2:m<sg.length
 ·have h2':(m:Int)<(sg.length:Int):=by omega
  have h2n : ¬ (sg.length:Int)≤(m:Int):=by omega
  rw [if_pos h2']
  obtain ⟨⟨a,b⟩,hab⟩ : ∃ x,sg[m]=x:=⟨_,rfl⟩
  have hgd:sg.getD (m:Int).toNat default=⟨a,b⟩:=by simp [h2,hab]
  rw [hgd]
  refine jb (c:=jf Tryz.f108) Tryz.func108 rfl rfl (by simp [Tryz.ntmps108]) ?_
  rw [Tryz.ntmps108]
  intro hwf
  repeat refine QS ?_
  refine QP ?_
  refine QN ?_
  repeat refine QS ?_
  refine QP ?_
  refine QN ?_
  refine ji 12 rfl ((frz1 (k:=1) (len:=1) (by simp) (by rfl) (by rfl) (by rfl))) (by conv=>lhs; simp [Fr.set]) ?_
  simp only [List.set_cons_succ,List.set_cons_zero]
  repeat (first|refine QG ?_|refine QY ?_ (r:=by conv=>lhs;simp[-List.map_set,QV,h1,hc,h2,h2n,hab]))
  exact ja hwf (by simp [jax,vl]) rfl
 ·have h2' : ¬ (m:Int)<(sg.length:Int):=by omega
  have h2n:(sg.length:Int)≤(m:Int):=by omega
  rw [if_neg h2']
  refine jb (c:=jf Tryz.f108) Tryz.func108 rfl rfl (by simp [Tryz.ntmps108]) ?_
  rw [Tryz.ntmps108]
  intro hwf
  repeat refine QS ?_
  refine QP ?_
  refine QN ?_
  repeat refine QS ?_
  refine QP ?_
  refine QN ?_
  refine ji 12 rfl ((frz1 (k:=1) (len:=1) (by simp) (by rfl) (by rfl) (by rfl))) (by conv=>lhs; simp [Fr.set]) ?_
  simp only [List.set_cons_succ,List.set_cons_zero]
  repeat (first|refine QG ?_|refine QY ?_ (r:=by conv=>lhs;simp[-List.map_set,QV,h1,hc,h2,h2n]))
  exact jh hwf ((((Ghost.tuple [] [_,_,_] (Ghost.nils_list _)).trans (Ghost.tuple [_] [_,_] (Ghost.nils_list _)))).toB _) rfl
theorem form_glob (e:Ss.Env) (op n out:Int) (hsl:e.sigs.length≤140737488355328) (hgl:e.globals.length≤140737488355328) (hml:e.muts.length=e.globals.length) (h0:0≤n) (h1:op=35∨op=36) :
  VPure Tryz.prog 108 [zm e,vint op,vu n,vint out] (jax (Ss.formGlob e op n)):=by
 intro S
 obtain ⟨sg,im,gl,mu,me⟩:=e
 simp only at hsl hgl hml
 obtain ⟨m,rfl⟩ : ∃ m:Nat,n=m:=⟨n.toNat,by omega⟩
 have hc:IntKind.u64.wrap (gl.length:Int)=(gl.length:Int):=Ka (by omega) (by omega)
 simp only [Ss.formGlob]
 by_cases h2:m<gl.length
 case neg =>
  have h2' : ¬ (m:Int)<(gl.length:Int):=by omega
  have h2n:(gl.length:Int)≤(m:Int):=by omega
  rw [if_neg h2']
  rcases h1 with h1 | h1
  ·skip
   refine jb (c:=jf Tryz.f108) Tryz.func108 rfl rfl (by simp [Tryz.ntmps108]) ?_
   rw [Tryz.ntmps108]
   intro hwf
   repeat refine QS ?_
   refine QP ?_
   refine QN ?_
   repeat refine QS ?_
   refine QP ?_
   refine QN ?_
   refine ji 12 rfl ((frz1 (k:=1) (len:=1) (by simp) (by rfl) (by rfl) (by rfl))) (by conv=>lhs; simp [Fr.set]) ?_
   simp only [List.set_cons_succ,List.set_cons_zero]
   repeat (first|refine QG ?_|refine QY ?_ (r:=by conv=>lhs;simp[-List.map_set,QV,h1,hc,h2,h2n]))
   exact jh hwf ((((Ghost.tuple [] [_,_,_] (Ghost.nils_list _)).trans (Ghost.tuple [_] [_,_] (Ghost.nils_list _)))).toB _) rfl
  ·skip
   refine jb (c:=jf Tryz.f108) Tryz.func108 rfl rfl (by simp [Tryz.ntmps108]) ?_
   rw [Tryz.ntmps108]
   intro hwf
   repeat refine QS ?_
   refine QP ?_
   refine QN ?_
   repeat refine QS ?_
   refine QP ?_
   refine QN ?_
   refine ji 12 rfl ((frz1 (k:=1) (len:=1) (by simp) (by rfl) (by rfl) (by rfl))) (by conv=>lhs; simp [Fr.set]) ?_
   simp only [List.set_cons_succ,List.set_cons_zero]
   repeat (first|refine QG ?_|refine QY ?_ (r:=by conv=>lhs;simp[-List.map_set,QV,h1,hc,h2,h2n]))
   exact jh hwf ((((Ghost.tuple [] [_,_,_] (Ghost.nils_list _)).trans (Ghost.tuple [_] [_,_] (Ghost.nils_list _)))).toB _) rfl
 have h2':(m:Int)<(gl.length:Int):=by omega
 have h2n : ¬ (gl.length:Int)≤(m:Int):=by omega
 have hw:IntKind.u64.wrap ((m:Int)+1)=(m:Int)+1:=Ka (by omega) (by omega)
 have hsl1 : ∀ S:Store,qC 1 S (vl vint gl) (some (.int .u64 (m:Int))) (some (.int .u64 ((m:Int)+1))) none=some (vl vint [gl[m]]):=fun S=>opSlice_one nc_vint h2
 have hgd:gl.getD (m:Int).toNat 0=gl[m]:=by simp [h2]
 have hm:m<mu.length:=by omega
 obtain ⟨b,hb⟩ : ∃ b,mu[m]=b:=⟨_,rfl⟩
 have hmd:mu.getD (m:Int).toNat false=b:=by simp [hm,hb]
 rw [if_pos h2',hgd,hmd]
 rcases h1 with h1 | h1
 ·subst h1
  rw [if_pos rfl]
  refine jb (c:=jf Tryz.f108) Tryz.func108 rfl rfl (by simp [Tryz.ntmps108]) ?_
  rw [Tryz.ntmps108]
  intro hwf
  repeat refine QS ?_
  refine QP ?_
  refine QN ?_
  repeat refine QS ?_
  refine QP ?_
  refine QN ?_
  refine ji 12 rfl ((frz1 (k:=1) (len:=1) (by simp) (by rfl) (by rfl) (by rfl))) (by conv=>lhs; simp [Fr.set]) ?_
  simp only [List.set_cons_succ,List.set_cons_zero]
  repeat (first|refine QG ?_|refine QY ?_ (r:=by conv=>lhs;simp[-List.map_set,QV,hc,h2,h2n,hw,hsl1]))
  exact jh hwf (((Ghost.tuple [] [_,_,_] (Ghost.nils_list _))).toB _) rfl
 ·subst h1
  rw [if_neg (by decide)]
  refine jb (c:=jf Tryz.f108) Tryz.func108 rfl rfl (by simp [Tryz.ntmps108]) ?_
  rw [Tryz.ntmps108]
  intro hwf
  repeat refine QS ?_
  refine QP ?_
  refine QN ?_
  repeat refine QS ?_
  refine QP ?_
  refine QN ?_
  refine ji 12 rfl ((frz1 (k:=1) (len:=1) (by simp) (by rfl) (by rfl) (by rfl))) (by conv=>lhs; simp [Fr.set]) ?_
  simp only [List.set_cons_succ,List.set_cons_zero]
  repeat (first|refine QG ?_|refine QY ?_ (r:=by conv=>lhs;simp[-List.map_set,QV,hc,h2,h2n,hw,hsl1]))
  repeat refine QS ?_
  refine QD (r:=by conv=>lhs;simp[-List.map_set,QV,hm,hb]) (k:=?_)
  refine QN ?_
  repeat (first|refine QG ?_|refine QY ?_)
  exact jh hwf (((Ghost.tuple [_] [_,_] (Ghost.nils_list _))).toB _) rfl
theorem form_num (e:Ss.Env) (op n out:Int) (hsl:e.sigs.length≤140737488355328) (hgl:e.globals.length≤140737488355328) (hml:e.muts.length=e.globals.length) (ho:Ss.I64 op) (h1 : ¬ op=256) (h2 : ¬ op=258) (h3 : ¬ op=27) (h4 : ¬ op=16) (h5 : ¬ op=35) (h6 : ¬ op=36) :
  VPure Tryz.prog 108 [zm e,vint op,vu n,vint out] (jax (Ss.formNum e op)):=by
 intro S
 obtain ⟨sg,im,gl,mu,me⟩:=e
 simp only at hsl hgl hml
 have hns:=NumSig_v op ho
 simp only [Ss.formNum]
 generalize hsg:Ss.numSig op=sgv at *
 obtain ⟨l,t,b⟩:=sgv
 simp only at hns
 by_cases hnt:b=true
 ·subst hnt
  simp only
  refine jb (c:=jf Tryz.f108) Tryz.func108 rfl rfl (by simp [Tryz.ntmps108]) ?_
  rw [Tryz.ntmps108]
  intro hwf
  repeat refine QS ?_
  refine QP ?_
  refine QN ?_
  repeat refine QS ?_
  refine QP ?_
  refine QN ?_
  refine ji 12 rfl ((frz1 (k:=1) (len:=1) (by simp) (by rfl) (by rfl) (by rfl))) (by conv=>lhs; simp [Fr.set]) ?_
  simp only [List.set_cons_succ,List.set_cons_zero]
  repeat (first|refine QG ?_|refine QY ?_ (r:=by conv=>lhs;simp[-List.map_set,QV,h1,h2,h3,h4,h5,h6]))
  repeat refine QS ?_
  refine QP ?_
  refine jc (hns) (by rfl) ?_
  refine QM (by conv=>lhs;simp[-List.map_set,QV]) ?_
  refine QN ?_
  repeat (first|refine QG ?_|refine QY ?_)
  exact jh hwf (((Ghost.tuple [_] [_,_] (frz1 (k:=2) (by simp) (by rfl) (by rfl) (by rfl)))).toB _) rfl
 have hnt':b=false:=by simpa using hnt
 rw [hnt']
 simp only
 by_cases hme:me=true
 case neg =>
  have hme':me=false:=by simpa using hme
  rw [if_neg hme]
  refine jb (c:=jf Tryz.f108) Tryz.func108 rfl rfl (by simp [Tryz.ntmps108]) ?_
  rw [Tryz.ntmps108]
  intro hwf
  repeat refine QS ?_
  refine QP ?_
  refine QN ?_
  repeat refine QS ?_
  refine QP ?_
  refine QN ?_
  refine ji 12 rfl ((frz1 (k:=1) (len:=1) (by simp) (by rfl) (by rfl) (by rfl))) (by conv=>lhs; simp [Fr.set]) ?_
  simp only [List.set_cons_succ,List.set_cons_zero]
  repeat (first|refine QG ?_|refine QY ?_ (r:=by conv=>lhs;simp[-List.map_set,QV,h1,h2,h3,h4,h5,h6]))
  repeat refine QS ?_
  refine QP ?_
  refine jc (hns) (by rfl) ?_
  refine QM (by conv=>lhs;simp[-List.map_set,QV,hnt']) ?_
  refine QN ?_
  repeat (first|refine QG ?_|refine QY ?_ (r:=by conv=>lhs;simp[-List.map_set,QV,hme']))
  exact jh hwf ((((Ghost.tuple [] [_,_,_] (Ghost.nils_list _)).trans (Ghost.tuple [_] [_,_] (Ghost.nils_list _)))).toB _) rfl
 rw [if_pos hme]
 unfold Ss.formMem
 by_cases k1:op=257
 ·rw [if_pos k1]
  refine jb (c:=jf Tryz.f108) Tryz.func108 rfl rfl (by simp [Tryz.ntmps108]) ?_
  rw [Tryz.ntmps108]
  intro hwf
  repeat refine QS ?_
  refine QP ?_
  refine QN ?_
  repeat refine QS ?_
  refine QP ?_
  refine QN ?_
  refine ji 12 rfl ((frz1 (k:=1) (len:=1) (by simp) (by rfl) (by rfl) (by rfl))) (by conv=>lhs; simp [Fr.set]) ?_
  simp only [List.set_cons_succ,List.set_cons_zero]
  repeat (first|refine QG ?_|refine QY ?_ (r:=by conv=>lhs;simp[-List.map_set,QV,h1,h2,h3,h4,h5,h6]))
  repeat refine QS ?_
  refine QP ?_
  refine jc (hns) (by rfl) ?_
  refine QM (by conv=>lhs;simp[-List.map_set,QV,hnt']) ?_
  refine QN ?_
  repeat (first|refine QG ?_|refine QY ?_ (r:=by conv=>lhs;simp[-List.map_set,QV,hme,k1]))
  exact jh hwf (((Ghost.tuple [_] [_,_] (Ghost.nils_list _))).toB _) rfl
 rw [if_neg k1]
 by_cases k2:op=63
 ·rw [if_pos k2]
  refine jb (c:=jf Tryz.f108) Tryz.func108 rfl rfl (by simp [Tryz.ntmps108]) ?_
  rw [Tryz.ntmps108]
  intro hwf
  repeat refine QS ?_
  refine QP ?_
  refine QN ?_
  repeat refine QS ?_
  refine QP ?_
  refine QN ?_
  refine ji 12 rfl ((frz1 (k:=1) (len:=1) (by simp) (by rfl) (by rfl) (by rfl))) (by conv=>lhs; simp [Fr.set]) ?_
  simp only [List.set_cons_succ,List.set_cons_zero]
  repeat (first|refine QG ?_|refine QY ?_ (r:=by conv=>lhs;simp[-List.map_set,QV,h1,h2,h3,h4,h5,h6]))
  repeat refine QS ?_
  refine QP ?_
  refine jc (hns) (by rfl) ?_
  refine QM (by conv=>lhs;simp[-List.map_set,QV,hnt']) ?_
  refine QN ?_
  repeat (first|refine QG ?_|refine QY ?_ (r:=by conv=>lhs;simp[-List.map_set,QV,hme,k1,k2]))
  exact jh hwf (((Ghost.tuple [] [_,_,_] (Ghost.nils_list _))).toB _) rfl
 rw [if_neg k2]
 by_cases k3:op=64
 ·rw [if_pos k3]
  refine jb (c:=jf Tryz.f108) Tryz.func108 rfl rfl (by simp [Tryz.ntmps108]) ?_
  rw [Tryz.ntmps108]
  intro hwf
  repeat refine QS ?_
  refine QP ?_
  refine QN ?_
  repeat refine QS ?_
  refine QP ?_
  refine QN ?_
  refine ji 12 rfl ((frz1 (k:=1) (len:=1) (by simp) (by rfl) (by rfl) (by rfl))) (by conv=>lhs; simp [Fr.set]) ?_
  simp only [List.set_cons_succ,List.set_cons_zero]
  repeat (first|refine QG ?_|refine QY ?_ (r:=by conv=>lhs;simp[-List.map_set,QV,h1,h2,h3,h4,h5,h6]))
  repeat refine QS ?_
  refine QP ?_
  refine jc (hns) (by rfl) ?_
  refine QM (by conv=>lhs;simp[-List.map_set,QV,hnt']) ?_
  refine QN ?_
  repeat (first|refine QG ?_|refine QY ?_ (r:=by conv=>lhs;simp[-List.map_set,QV,hme,k1,k2,k3]))
  exact ja hwf (by simp [jax,vl]) rfl
 rw [if_neg k3]
 have hac:=Access_v op
 cases hf:Ss.accOf op with
 | none =>
  rw [hf] at hac
  have hac':VPure Tryz.prog 134 [vint op] (.tuple [.int .i64 0, .int .i64 0, .bool false, .bool false]):=hac
  simp only
  refine jb (c:=jf Tryz.f108) Tryz.func108 rfl rfl (by simp [Tryz.ntmps108]) ?_
  rw [Tryz.ntmps108]
  intro hwf
  repeat refine QS ?_
  refine QP ?_
  refine QN ?_
  repeat refine QS ?_
  refine QP ?_
  refine QN ?_
  refine ji 12 rfl ((frz1 (k:=1) (len:=1) (by simp) (by rfl) (by rfl) (by rfl))) (by conv=>lhs; simp [Fr.set]) ?_
  simp only [List.set_cons_succ,List.set_cons_zero]
  repeat (first|refine QG ?_|refine QY ?_ (r:=by conv=>lhs;simp[-List.map_set,QV,h1,h2,h3,h4,h5,h6]))
  repeat refine QS ?_
  refine QP ?_
  refine jc (hns) (by rfl) ?_
  refine QM (by conv=>lhs;simp[-List.map_set,QV,hnt']) ?_
  refine QN ?_
  repeat (first|refine QG ?_|refine QY ?_ (r:=by conv=>lhs;simp[-List.map_set,QV,hme,k1,k2,k3]))
  repeat refine QS ?_
  refine QP ?_
  refine jc (hac') (by rfl) ?_
  refine QM (by conv=>lhs;simp[-List.map_set,QV]) ?_
  refine QN ?_
  repeat (first|refine QG ?_|refine QY ?_)
  exact jh hwf ((((Ghost.tuple [] [_,_,_] (Ghost.nils_list _)).trans (Ghost.tuple [_] [_,_] (Ghost.nils_list _)))).toB _) rfl
 | some a =>
  rw [hf] at hac
  obtain ⟨a1,a2,a3,a4⟩:=a
  have hac':VPure Tryz.prog 134 [vint op] (.tuple [.int .i64 a1, .int .i64 a2, .bool a3, .bool true]):=hac
  simp only
  by_cases h9:a3=true
  ·rw [if_pos h9]
   refine jb (c:=jf Tryz.f108) Tryz.func108 rfl rfl (by simp [Tryz.ntmps108]) ?_
   rw [Tryz.ntmps108]
   intro hwf
   repeat refine QS ?_
   refine QP ?_
   refine QN ?_
   repeat refine QS ?_
   refine QP ?_
   refine QN ?_
   refine ji 12 rfl ((frz1 (k:=1) (len:=1) (by simp) (by rfl) (by rfl) (by rfl))) (by conv=>lhs; simp [Fr.set]) ?_
   simp only [List.set_cons_succ,List.set_cons_zero]
   repeat (first|refine QG ?_|refine QY ?_ (r:=by conv=>lhs;simp[-List.map_set,QV,h1,h2,h3,h4,h5,h6]))
   repeat refine QS ?_
   refine QP ?_
   refine jc (hns) (by rfl) ?_
   refine QM (by conv=>lhs;simp[-List.map_set,QV,hnt']) ?_
   refine QN ?_
   repeat (first|refine QG ?_|refine QY ?_ (r:=by conv=>lhs;simp[-List.map_set,QV,hme,k1,k2,k3]))
   repeat refine QS ?_
   refine QP ?_
   refine jc (hac') (by rfl) ?_
   refine QM (by conv=>lhs;simp[-List.map_set,QV,h9]) ?_
   refine QN ?_
   repeat (first|refine QG ?_|refine QY ?_ (r:=by conv=>lhs;simp[-List.map_set,QV,h9]))
   exact jh hwf ((((Ghost.tuple [] [_,_,_] (frz1 (k:=2) (by simp) (by rfl) (by rfl) (by rfl))).trans (Ghost.tuple [_] [_,_] (Ghost.nils_list _)))).toB _) rfl
  ·rw [if_neg h9]
   have h9':a3=false:=by simpa using h9
   refine jb (c:=jf Tryz.f108) Tryz.func108 rfl rfl (by simp [Tryz.ntmps108]) ?_
   rw [Tryz.ntmps108]
   intro hwf
   repeat refine QS ?_
   refine QP ?_
   refine QN ?_
   repeat refine QS ?_
   refine QP ?_
   refine QN ?_
   refine ji 12 rfl ((frz1 (k:=1) (len:=1) (by simp) (by rfl) (by rfl) (by rfl))) (by conv=>lhs; simp [Fr.set]) ?_
   simp only [List.set_cons_succ,List.set_cons_zero]
   repeat (first|refine QG ?_|refine QY ?_ (r:=by conv=>lhs;simp[-List.map_set,QV,h1,h2,h3,h4,h5,h6]))
   repeat refine QS ?_
   refine QP ?_
   refine jc (hns) (by rfl) ?_
   refine QM (by conv=>lhs;simp[-List.map_set,QV,hnt']) ?_
   refine QN ?_
   repeat (first|refine QG ?_|refine QY ?_ (r:=by conv=>lhs;simp[-List.map_set,QV,hme,k1,k2,k3]))
   repeat refine QS ?_
   refine QP ?_
   refine jc (hac') (by rfl) ?_
   refine QM (by conv=>lhs;simp[-List.map_set,QV,h9']) ?_
   refine QN ?_
   repeat (first|refine QG ?_|refine QY ?_ (r:=by conv=>lhs;simp[-List.map_set,QV,h9']))
   exact jh hwf (((Ghost.tuple [_] [_,_] (frz1 (k:=2) (by simp) (by rfl) (by rfl) (by rfl)))).toB _) rfl
theorem form_v (e:Ss.Env) (op n out:Int) (hsl:e.sigs.length≤140737488355328) (hgl:e.globals.length≤140737488355328) (hml:e.muts.length=e.globals.length) (ho:Ss.I64 op) (h0:0≤n) :
  VPure Tryz.prog 108 [zm e,vint op,vu n,vint out] (jax (Ss.form e op n out)):=by
 unfold Ss.form
 split
 ·rename_i h1
  split
  ·rename_i h2; exact form_c32 e op n out hsl hgl hml h1 h2
  ·rename_i h2; exact form_c64 e op n out hsl hgl hml h1 h2
 ·rename_i h1
  split
  ·rename_i h2; exact form_tick e op n out hsl hgl hml h2
  ·rename_i h2
   split
   ·rename_i h3; exact form_sel e op n out hsl hgl hml h3
   ·rename_i h3
    split
    ·rename_i h4; exact form_call e op n out hsl hgl hml h0 h4
    ·rename_i h4
     split
     ·rename_i h5; exact form_glob e op n out hsl hgl hml h0 h5
     ·rename_i h5; exact form_num e op n out hsl hgl hml ho h1 h2 h3 h4 (fun h=>h5 (.inl h)) (fun h=>h5 (.inr h))
end Go.Vw

namespace Ss
def insOut (ts:List Int) (x:Ins):Int:=match x.outs with
 | []=>0
 | v::_=>ts.getD v.toNat 0
def insOk (e:Env) (f:Fn) (ds:List Def) (near:List Int) (block pos:Int) (x:Ins):Bool :=
 (form e x.op x.n (insOut f.types x)).ok&&decide (x.n≤(form e x.op x.n (insOut f.types x)).most)&&decide (typesOf f.types x.outs=(form e x.op x.n (insOut f.types x)).outs)&&asks f.types ds near block pos x.args (form e x.op x.n (insOut f.types x)).inn
def branches (t:Term):Bool:=decide (t.kind=2)||decide (t.kind=3)
def termHead (fo:List Int) (k:Int):Option (Nat × Nat × List Int) :=
 if k=1 then some (1,1,[]) else if k=2 then some (2,2,[]) else if k=3 then some (1,65,[]) else if k=4 then some (0,0,fo) else if k=5 then some (0,0,[]) else none
def edgeOk (f:Fn) (ds:List Def) (near:List Int) (i pos:Int) (x:Edge):Bool :=
 !decide (x.to=0)&&asks f.types ds near i pos x.args (typesOf f.types (f.blocks.getD x.to.toNat default).params)
def termTail (f:Fn) (ds:List Def) (near:List Int) (i pos:Int) (t:Term) (le mo:Nat) (rs:List Int):Bool :=
 (if branches t then asks f.types ds near i pos [t.arg] [127] else decide (t.arg=0))&&decide (le≤t.to.length)&&decide (t.to.length≤mo)&&asks f.types ds near i pos t.args rs&&t.to.all (edgeOk f ds near i pos)
def termOk (f:Fn) (ds:List Def) (near:List Int) (i:Int) (b:Block):Bool:=match termHead f.sig.out b.term.kind with
 | some (le,mo,rs)=>termTail f ds near i b.code.length b.term le mo rs
 | none=>false
end Ss
namespace Go.Vw
open Go.Proofs Go.RowKit
set_option maxRecDepth 10000
set_option maxHeartbeats 4000000
theorem Zk {P:Program} {N b:Nat} {Q Q2:Exit→Fr→Store→Prop} {σ:Fr} {S:Store} {c c2:Code} (Mid:Fr→Store→Prop) (ks:List Nat) (h1:VWp P N b c (Kf (fun σ S=>Mid (σ.only ks) S) Q) σ S) (h2 : ∀ σ S,Mid σ S→VWp P N b c2 Q2 σ S):VWp P N b c (Kf (VWp P N b c2 Q2) Q) σ S :=
 vw_mono h1 fun e σ S q=>by
  cases e with
  | normal=>exact jbk ks (h2 _ _ q)
  | exit id=>exact q
  | goto l=>exact q
  | ret=>exact q
  | panic ch=>exact q
  | outgrown=>exact q
theorem vw_joinR {P:Program} {N b:Nat} {Q Q2:Exit→Fr→Store→Prop} {σ:Fr} {S:Store} {c c2:Code} (Mid:Fr→Store→Prop) (ks:List Nat) (h1:VWp P N b c (Kf (fun σ S => ∃ σc Sc,Reach N b (σ.only ks) S σc Sc∧Mid σc Sc) Q) σ S) (h2 : ∀ σ S,Mid σ S→VWp P N b c2 Q2 σ S):VWp P N b c (Kf (VWp P N b c2 Q2) Q) σ S :=
 vw_mono h1 fun e σ S q=>by
  cases e with
  | normal=>obtain ⟨σc,Sc,hr,hm⟩:=q; exact jbk ks (ju hr (h2 _ _ hm))
  | exit id=>exact q
  | goto l=>exact q
  | ret=>exact q
  | panic ch=>exact q
  | outgrown=>exact q
theorem mid_gc {N:Nat} {Mid:Fr→Store→Prop} {σ σ1 σ':Fr} {B:Store} {u u':Upds} {l l':List (Option (Nat × List V))} (ks gs:List Nat) (hσ1:σ.only ks=σ1) (hw:B.Wf) (h1:gs.Nodup)
  (h2:(Kn B.nx gs u&&YO B.nx gs l gs&&idsF (gcP B.nx gs) σ1)=true) (hu:gcU B.nx gs u=u') (hl:gcL B.nx gs l gs=l') (hσ:renF (gcTo B.nx gs) σ1=σ') (h:Mid σ' (St B u' l')) :
  ∃ σc Sc,Reach N B.nx (σ.only ks) (St B u l) σc Sc∧Mid σc Sc:=⟨σ',_,by rw [hσ1]; exact Reach.gc gs hw h1 h2 hu hl hσ,h⟩
theorem ins_v (e:Ss.Env) (f:Ss.Fn) (ds:List Ss.Def) (near:List Int) (block pos:Int) (x:Ss.Ins) (hsl:e.sigs.length≤140737488355328) (hgl:e.globals.length≤140737488355328) (hml:e.muts.length=e.globals.length)
  (hds:ds.length=f.types.length) (htl:f.types.length<2^63) (hnl:near.length<2^63) (hx:x.Fits) (hol:x.outs.length≤1048576) (hov:Ss.InTs f.types.length x.outs) :
  VPure Tryz.prog 71 [ckV e f ds near,vint block,vint pos,jt x] (.bool (Ss.insOk e f ds near block pos x)):=by
 intro S
 have cf:=form_v e x.op x.n (Ss.insOut f.types x) hsl hgl hml hx.1 hx.2.1.1
 have ct:=types_v e f ds near x.outs hol hov
 have hal:=hx.2.2.1.1
 have ca : ∀ l:List Int,VPure Tryz.prog 109 [ckV e f ds near,vint block,vint pos,vl vint x.args,vl vint l] (.bool (Ss.asks f.types ds near block pos x.args l)):=fun l=>asks_v e f ds near block pos x.args l hds htl hnl (by omega)
 unfold Ss.insOk
 generalize hr:Ss.form e x.op x.n (Ss.insOut f.types x)=r at *
 have hql:(Ss.typesOf f.types x.outs).length<2^63:=by simp [Ss.typesOf]; omega
 generalize htt:Ss.typesOf f.types x.outs=tt at *
 obtain ⟨ri,ro,rm,rk⟩:=r
 have ceq:=Equal_v tt ro hql
 obtain ⟨xo,xn,xa,xu⟩:=x
 obtain ⟨⟨fi,fo⟩,ts,bs⟩:=f
 obtain ⟨sg,im,gl,mu,me⟩:=e
 simp only at *
 have ca':=ca ri
 generalize Ss.asks ts ds near block pos xa ri=ax at ca'
 generalize hio:Ss.insOut ts ⟨xo,xn,xa,xu⟩=io at cf
 have cf':VPure Tryz.prog 108 [.agg [vl jO sg, .int .i64 im,vl vint gl,vl V.bool mu, .bool me], .int .i64 xo, .int .u64 xn, .int .i64 io] (.tuple [vl vint ri,vl vint ro, .int .u64 rm, .bool rk]):=cf
 refine jb (c:=jf Tryz.f71) Tryz.func71 rfl rfl (by simp [Tryz.ntmps71]) ?_
 rw [Tryz.ntmps71]
 intro hwf
 repeat refine QS ?_
 refine QP ?_
 refine QN ?_
 repeat refine QS ?_
 refine QP ?_
 refine QN ?_
 refine Ku rfl ?_
 refine Zk (fun σ S'=>σ=[(0,ckV ⟨sg,im,gl,mu,me⟩ ⟨⟨fi,fo⟩,ts,bs⟩ ds near),(1,vint block),(2,vint pos),(7, .ptr (lid S.nx 0) 0),(8, .bool false),(9,vint io)]∧S'=St S [] [some (4,[vint xo,vu xn,vl vint xa,vl vint xu])]) [0,1,2,7,8,9] ?_ ?_
 ·cases xu with
  | nil =>
   have h0:io=0:=by rw [←hio]; rfl
   subst h0
   repeat (first|refine QG ?_|refine QY ?_)
   exact ⟨by simp [Fr.only],by simp⟩
  | cons v r =>
   obtain ⟨h0,h1⟩:=hov v (by simp)
   obtain ⟨n,rfl⟩ : ∃ n:Nat,v=n:=⟨v.toNat,by omega⟩
   have hn:n<ts.length:=by omega
   have h2:io=ts[n]:=by rw [←hio]; simp [Ss.insOut,hn]
   subst h2
   have hpos:(0:Int)<((r.length:Int)+1):=by omega
   repeat (first|refine QG ?_|refine QY ?_ (r:=by conv=>lhs;simp[-List.map_set,QV,hn,hpos]))
   exact ⟨by simp [Fr.only],by simp⟩
 rintro σ S' ⟨rfl,rfl⟩
 repeat refine QS ?_
 repeat refine QS ?_
 refine QD (r:=by conv=>lhs;simp[-List.map_set,QV]) (k:=?_)
 refine jc (cf') (by rfl) ?_
 refine QM (by conv=>lhs;simp[-List.map_set,QV]) ?_
 refine QN ?_
 by_cases h1:rk=true
 case neg =>
  have h1':rk=false:=by simpa using h1
  repeat (first|refine QG ?_|refine QY ?_ (r:=by conv=>lhs;simp[-List.map_set,QV,h1']))
  exact ja hwf (by simp [h1']) rfl
 by_cases h2:xn≤rm
 case neg =>
  repeat (first|refine QG ?_|refine QY ?_ (r:=by conv=>lhs;simp[-List.map_set,QV,h1,h2]))
  exact ja hwf (by simp [h2]) rfl
 repeat (first|refine QG ?_|refine QY ?_ (r:=by conv=>lhs;simp[-List.map_set,QV,h1,h2]))
 repeat refine QS ?_
 refine QP ?_ (r:=by conv=>lhs;simp[-List.map_set,QV,h1,h2])
 refine jc (ct) (by rfl) ?_
 refine QM (by conv=>lhs;simp[-List.map_set,QV]) ?_
 refine jc (ceq) (by rfl) ?_
 by_cases h3:tt=ro
 case neg =>
  refine QM (by conv=>lhs;simp[-List.map_set,QV,h3]) ?_
  refine QN ?_
  repeat (first|refine QG ?_|refine QY ?_)
  exact ja hwf (by simp [h3]) rfl
 refine QM (by conv=>lhs;simp[-List.map_set,QV,h3]) ?_
 refine jc (ca') (by rfl) ?_
 refine QM (by conv=>lhs;simp[-List.map_set,QV]) ?_
 refine QN ?_
 repeat (first|refine QG ?_|refine QY ?_)
 exact ja hwf (by simp [h1,h2,h3]) rfl
end Go.Vw
