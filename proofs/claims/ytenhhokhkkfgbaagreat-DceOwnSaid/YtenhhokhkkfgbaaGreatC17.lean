import Derived.Test.YtenhhokhkkfgbaaGreatC16
import Derived.Test.YtenhhokhkkfgbaaGreatC12
import Derived.Test.YtenhhokhkkfgbaaGreatProg
import Derived.Test.YtenhhokhkkfgbaaGreatC11
import Derived.Test.YtenhhokhkkfgbaaGreatC10
/-
  Part of the proof (texts SForm, SEqF, GDom, GDom2).
-/
set_option linter.unusedVariables false
set_option linter.unusedSimpArgs false
namespace Ss
structure FormR where
 inn:List Int
 outs:List Int
 most:Int
 ok:Bool
deriving DecidableEq,Inhabited
def formMem (op:Int):FormR :=
 if op=257 then ⟨[127],[],8589934592,true⟩
 else if op=63 then ⟨[],[127],0,true⟩
 else if op=64 then ⟨[127],[127],0,true⟩
 else match accOf op with
  | some a=>if a.store then ⟨[127,a.kind],[],4294967295,true⟩ else ⟨[127],[a.kind],4294967295,true⟩
  | none=>⟨[],[],0,false⟩
def formNum (e:Env) (op:Int):FormR :=
 match numSig op with
 | (l,t,true)=>⟨l,[t],0,true⟩
 | _=>if e.mem then formMem op else ⟨[],[],0,false⟩
def formGlob (e:Env) (op n:Int):FormR :=
 if n<e.globals.length then (if op=35 then ⟨[],[e.globals.getD n.toNat 0],n,true⟩ else ⟨[e.globals.getD n.toNat 0],[],n,e.muts.getD n.toNat false⟩) else ⟨[],[],0,false⟩
def form (e:Env) (op n out:Int):FormR :=
 if op=256 then (if out=127 then ⟨[],[127],4294967295,true⟩ else ⟨[],[126],18446744073709551615,true⟩)
 else if op=258 then ⟨[],[],0,true⟩
 else if op=27 then ⟨[out,out,127],[out],0,true⟩
 else if op=16 then (if n<e.sigs.length then ⟨(e.sigs.getD n.toNat default).inn,(e.sigs.getD n.toNat default).out,n,true⟩ else ⟨[],[],0,false⟩)
 else if op=35∨op=36 then formGlob e op n
 else formNum e op
end Ss
namespace Go.Vw
open Go.Proofs Go.RowKit
set_option maxRecDepth 10000
set_option maxHeartbeats 4000000
theorem Kn {n:Int} (h1:0≤n) (h2:n<18446744073709551616):IntKind.u64.wrap n=n:=by
 have e:IntKind.u64.wrap n=n % 18446744073709551616:=by simp [IntKind.wrap,IntKind.bits,IntKind.signed]
 rw [e]; omega
def jaq (r:Ss.FormR):V := .tuple [vl vint r.inn,vl vint r.outs,vu r.most, .bool r.ok]
theorem opSlice_one {α:Type} {enc:α→V} {l:List α} {k:IntKind} {m s:Nat} {S:Store} (hs : ∀ a,(enc a).ncells=s) (h:m<l.length):qC s S (vl enc l) (some (.int k (m:Int))) (some (.int k ((m:Int)+1))) none=some (vl enc [l[m]]):=by
 have e1:((m:Int)+1).toNat=m+1:=by omega
 have e2:((l.map enc).take (m+1)).drop m=[enc l[m]]:=by
  rw [List.drop_take]
  simp [List.drop_eq_getElem_cons,h]
 simp only [qC,vl,qN,List.length_map]
 rw [if_pos (by omega),if_pos (by omega),e1]
 simp only [Int.toNat_natCast]
 rw [if_pos ⟨by omega,by omega,by omega,by simp, .inr (by simp [hs])⟩]
 simp [e2]
theorem form_c32 (e:Ss.Env) (op n out:Int) (hsl:e.sigs.length≤140737488355328) (hgl:e.globals.length≤140737488355328) (hml:e.muts.length=e.globals.length) (h1:op=256) (h2:out=127) :
  VPure Tryz.prog 105 [zh e,vint op,vu n,vint out] (jaq ⟨[],[127],4294967295,true⟩):=by
 intro S
 obtain ⟨sg,im,gl,mu,me⟩:=e
 simp only at hsl hgl hml
 refine jb (c:=jg Tryz.f105) Tryz.func105 rfl rfl (by simp [Tryz.ntmps105]) ?_
 rw [Tryz.ntmps105]
 intro hwf
 repeat refine QS ?_
 refine QP ?_
 refine QN ?_
 repeat refine QS ?_
 refine QP ?_
 refine QN ?_
 refine ji 12 rfl ((frz1 (k:=1) (len:=1) (by simp) (by rfl) (by rfl) (by rfl))) (by conv=>lhs; simp [Fr.set]) ?_
 simp only [List.set_cons_succ,List.set_cons_zero]
 repeat (first|refine QG ?_|refine QY ?_ (r:=by conv=>lhs;simp[-List.map_set,QV,h1,h2]))
 exact jn hwf (((Ghost.tuple [] [_,_,_] (Ghost.nils_list _))).toB _) rfl
theorem form_c64 (e:Ss.Env) (op n out:Int) (hsl:e.sigs.length≤140737488355328) (hgl:e.globals.length≤140737488355328) (hml:e.muts.length=e.globals.length) (h1:op=256) (h2 : ¬ out=127) :
  VPure Tryz.prog 105 [zh e,vint op,vu n,vint out] (jaq ⟨[],[126],18446744073709551615,true⟩):=by
 intro S
 obtain ⟨sg,im,gl,mu,me⟩:=e
 simp only at hsl hgl hml
 refine jb (c:=jg Tryz.f105) Tryz.func105 rfl rfl (by simp [Tryz.ntmps105]) ?_
 rw [Tryz.ntmps105]
 intro hwf
 repeat refine QS ?_
 refine QP ?_
 refine QN ?_
 repeat refine QS ?_
 refine QP ?_
 refine QN ?_
 refine ji 12 rfl ((frz1 (k:=1) (len:=1) (by simp) (by rfl) (by rfl) (by rfl))) (by conv=>lhs; simp [Fr.set]) ?_
 simp only [List.set_cons_succ,List.set_cons_zero]
 repeat (first|refine QG ?_|refine QY ?_ (r:=by conv=>lhs;simp[-List.map_set,QV,h1,h2]))
 exact jn hwf ((((Ghost.tuple [] [_,_,_] (Ghost.nils_list _)).trans (Ghost.tuple [_] [_,_] (frz1 (k:=2) (by simp) (by rfl) (by rfl) (by rfl))))).toB _) rfl
theorem form_tick (e:Ss.Env) (op n out:Int) (hsl:e.sigs.length≤140737488355328) (hgl:e.globals.length≤140737488355328) (hml:e.muts.length=e.globals.length) (h1:op=258) :
  VPure Tryz.prog 105 [zh e,vint op,vu n,vint out] (jaq ⟨[],[],0,true⟩):=by
 intro S
 obtain ⟨sg,im,gl,mu,me⟩:=e
 simp only at hsl hgl hml
 refine jb (c:=jg Tryz.f105) Tryz.func105 rfl rfl (by simp [Tryz.ntmps105]) ?_
 rw [Tryz.ntmps105]
 intro hwf
 repeat refine QS ?_
 refine QP ?_
 refine QN ?_
 repeat refine QS ?_
 refine QP ?_
 refine QN ?_
 refine ji 12 rfl ((frz1 (k:=1) (len:=1) (by simp) (by rfl) (by rfl) (by rfl))) (by conv=>lhs; simp [Fr.set]) ?_
 simp only [List.set_cons_succ,List.set_cons_zero]
 repeat (first|refine QG ?_|refine QY ?_ (r:=by conv=>lhs;simp[-List.map_set,QV,h1]))
 exact jn hwf ((((Ghost.tuple [] [_,_,_] (Ghost.nils_list _)).trans (Ghost.tuple [_] [_,_] (Ghost.nils_list _)))).toB _) rfl
theorem form_sel (e:Ss.Env) (op n out:Int) (hsl:e.sigs.length≤140737488355328) (hgl:e.globals.length≤140737488355328) (hml:e.muts.length=e.globals.length) (h1:op=27) :
  VPure Tryz.prog 105 [zh e,vint op,vu n,vint out] (jaq ⟨[out,out,127],[out],0,true⟩):=by
 intro S
 obtain ⟨sg,im,gl,mu,me⟩:=e
 simp only at hsl hgl hml
 refine jb (c:=jg Tryz.f105) Tryz.func105 rfl rfl (by simp [Tryz.ntmps105]) ?_
 rw [Tryz.ntmps105]
 intro hwf
 repeat refine QS ?_
 refine QP ?_
 refine QN ?_
 repeat refine QS ?_
 refine QP ?_
 refine QN ?_
 refine ji 12 rfl ((frz1 (k:=1) (len:=1) (by simp) (by rfl) (by rfl) (by rfl))) (by conv=>lhs; simp [Fr.set]) ?_
 simp only [List.set_cons_succ,List.set_cons_zero]
 repeat (first|refine QG ?_|refine QY ?_ (r:=by conv=>lhs;simp[-List.map_set,QV,h1]))
 exact jn hwf ((((Ghost.tuple [] [_,_,_] (frz1 (k:=2) (by simp) (by rfl) (by rfl) (by rfl))).trans (Ghost.tuple [_] [_,_] (frz1 (k:=3) (by simp) (by rfl) (by rfl) (by rfl))))).toB _) rfl
theorem form_call (e:Ss.Env) (op n out:Int) (hsl:e.sigs.length≤140737488355328) (hgl:e.globals.length≤140737488355328) (hml:e.muts.length=e.globals.length) (h0:0≤n) (h1:op=16) :
  VPure Tryz.prog 105 [zh e,vint op,vu n,vint out] (jaq (if n<e.sigs.length then ⟨(e.sigs.getD n.toNat default).inn,(e.sigs.getD n.toNat default).out,n,true⟩ else ⟨[],[],0,false⟩)):=by
 intro S
 obtain ⟨sg,im,gl,mu,me⟩:=e
 simp only at hsl hgl hml
 obtain ⟨m,rfl⟩ : ∃ m:Nat,n=m:=⟨n.toNat,by omega⟩
 have hc:IntKind.u64.wrap (sg.length:Int)=(sg.length:Int):=Kn (by omega) (by omega)
 simp only
 by_cases h2:m<sg.length
 ·have h2':(m:Int)<(sg.length:Int):=by omega
  have h2n : ¬ (sg.length:Int)≤(m:Int):=by omega
  rw [if_pos h2']
  obtain ⟨⟨a,b⟩,hab⟩ : ∃ x,sg[m]=x:=⟨_,rfl⟩
  have hgd:sg.getD (m:Int).toNat default=⟨a,b⟩:=by simp [h2,hab]
  rw [hgd]
  refine jb (c:=jg Tryz.f105) Tryz.func105 rfl rfl (by simp [Tryz.ntmps105]) ?_
  rw [Tryz.ntmps105]
  intro hwf
  repeat refine QS ?_
  refine QP ?_
  refine QN ?_
  repeat refine QS ?_
  refine QP ?_
  refine QN ?_
  refine ji 12 rfl ((frz1 (k:=1) (len:=1) (by simp) (by rfl) (by rfl) (by rfl))) (by conv=>lhs; simp [Fr.set]) ?_
  simp only [List.set_cons_succ,List.set_cons_zero]
  repeat (first|refine QG ?_|refine QY ?_ (r:=by conv=>lhs;simp[-List.map_set,QV,h1,hc,h2,h2n,hab]))
  exact ja hwf (by simp [jaq,vl]) rfl
 ·have h2' : ¬ (m:Int)<(sg.length:Int):=by omega
  have h2n:(sg.length:Int)≤(m:Int):=by omega
  rw [if_neg h2']
  refine jb (c:=jg Tryz.f105) Tryz.func105 rfl rfl (by simp [Tryz.ntmps105]) ?_
  rw [Tryz.ntmps105]
  intro hwf
  repeat refine QS ?_
  refine QP ?_
  refine QN ?_
  repeat refine QS ?_
  refine QP ?_
  refine QN ?_
  refine ji 12 rfl ((frz1 (k:=1) (len:=1) (by simp) (by rfl) (by rfl) (by rfl))) (by conv=>lhs; simp [Fr.set]) ?_
  simp only [List.set_cons_succ,List.set_cons_zero]
  repeat (first|refine QG ?_|refine QY ?_ (r:=by conv=>lhs;simp[-List.map_set,QV,h1,hc,h2,h2n]))
  exact jn hwf ((((Ghost.tuple [] [_,_,_] (Ghost.nils_list _)).trans (Ghost.tuple [_] [_,_] (Ghost.nils_list _)))).toB _) rfl
theorem form_glob (e:Ss.Env) (op n out:Int) (hsl:e.sigs.length≤140737488355328) (hgl:e.globals.length≤140737488355328) (hml:e.muts.length=e.globals.length) (h0:0≤n) (h1:op=35∨op=36) :
  VPure Tryz.prog 105 [zh e,vint op,vu n,vint out] (jaq (Ss.formGlob e op n)):=by
 intro S
 obtain ⟨sg,im,gl,mu,me⟩:=e
 simp only at hsl hgl hml
 obtain ⟨m,rfl⟩ : ∃ m:Nat,n=m:=⟨n.toNat,by omega⟩
 have hc:IntKind.u64.wrap (gl.length:Int)=(gl.length:Int):=Kn (by omega) (by omega)
 simp only [Ss.formGlob]
 by_cases h2:m<gl.length
 case neg =>
  have h2' : ¬ (m:Int)<(gl.length:Int):=by omega
  have h2n:(gl.length:Int)≤(m:Int):=by omega
  rw [if_neg h2']
  rcases h1 with h1 | h1
  ·skip
   refine jb (c:=jg Tryz.f105) Tryz.func105 rfl rfl (by simp [Tryz.ntmps105]) ?_
   rw [Tryz.ntmps105]
   intro hwf
   repeat refine QS ?_
   refine QP ?_
   refine QN ?_
   repeat refine QS ?_
   refine QP ?_
   refine QN ?_
   refine ji 12 rfl ((frz1 (k:=1) (len:=1) (by simp) (by rfl) (by rfl) (by rfl))) (by conv=>lhs; simp [Fr.set]) ?_
   simp only [List.set_cons_succ,List.set_cons_zero]
   repeat (first|refine QG ?_|refine QY ?_ (r:=by conv=>lhs;simp[-List.map_set,QV,h1,hc,h2,h2n]))
   exact jn hwf ((((Ghost.tuple [] [_,_,_] (Ghost.nils_list _)).trans (Ghost.tuple [_] [_,_] (Ghost.nils_list _)))).toB _) rfl
  ·skip
   refine jb (c:=jg Tryz.f105) Tryz.func105 rfl rfl (by simp [Tryz.ntmps105]) ?_
   rw [Tryz.ntmps105]
   intro hwf
   repeat refine QS ?_
   refine QP ?_
   refine QN ?_
   repeat refine QS ?_
   refine QP ?_
   refine QN ?_
   refine ji 12 rfl ((frz1 (k:=1) (len:=1) (by simp) (by rfl) (by rfl) (by rfl))) (by conv=>lhs; simp [Fr.set]) ?_
   simp only [List.set_cons_succ,List.set_cons_zero]
   repeat (first|refine QG ?_|refine QY ?_ (r:=by conv=>lhs;simp[-List.map_set,QV,h1,hc,h2,h2n]))
   exact jn hwf ((((Ghost.tuple [] [_,_,_] (Ghost.nils_list _)).trans (Ghost.tuple [_] [_,_] (Ghost.nils_list _)))).toB _) rfl
 have h2':(m:Int)<(gl.length:Int):=by omega
 have h2n : ¬ (gl.length:Int)≤(m:Int):=by omega
 have hw:IntKind.u64.wrap ((m:Int)+1)=(m:Int)+1:=Kn (by omega) (by omega)
 have hsl1 : ∀ S:Store,qC 1 S (vl vint gl) (some (.int .u64 (m:Int))) (some (.int .u64 ((m:Int)+1))) none=some (vl vint [gl[m]]):=fun S=>opSlice_one nc_vint h2
 have hgd:gl.getD (m:Int).toNat 0=gl[m]:=by simp [h2]
 have hm:m<mu.length:=by omega
 obtain ⟨b,hb⟩ : ∃ b,mu[m]=b:=⟨_,rfl⟩
 have hmd:mu.getD (m:Int).toNat false=b:=by simp [hm,hb]
 rw [if_pos h2',hgd,hmd]
 rcases h1 with h1 | h1
 ·subst h1
  rw [if_pos rfl]
  refine jb (c:=jg Tryz.f105) Tryz.func105 rfl rfl (by simp [Tryz.ntmps105]) ?_
  rw [Tryz.ntmps105]
  intro hwf
  repeat refine QS ?_
  refine QP ?_
  refine QN ?_
  repeat refine QS ?_
  refine QP ?_
  refine QN ?_
  refine ji 12 rfl ((frz1 (k:=1) (len:=1) (by simp) (by rfl) (by rfl) (by rfl))) (by conv=>lhs; simp [Fr.set]) ?_
  simp only [List.set_cons_succ,List.set_cons_zero]
  repeat (first|refine QG ?_|refine QY ?_ (r:=by conv=>lhs;simp[-List.map_set,QV,hc,h2,h2n,hw,hsl1]))
  exact jn hwf (((Ghost.tuple [] [_,_,_] (Ghost.nils_list _))).toB _) rfl
 ·subst h1
  rw [if_neg (by decide)]
  refine jb (c:=jg Tryz.f105) Tryz.func105 rfl rfl (by simp [Tryz.ntmps105]) ?_
  rw [Tryz.ntmps105]
  intro hwf
  repeat refine QS ?_
  refine QP ?_
  refine QN ?_
  repeat refine QS ?_
  refine QP ?_
  refine QN ?_
  refine ji 12 rfl ((frz1 (k:=1) (len:=1) (by simp) (by rfl) (by rfl) (by rfl))) (by conv=>lhs; simp [Fr.set]) ?_
  simp only [List.set_cons_succ,List.set_cons_zero]
  repeat (first|refine QG ?_|refine QY ?_ (r:=by conv=>lhs;simp[-List.map_set,QV,hc,h2,h2n,hw,hsl1]))
  repeat refine QS ?_
  refine QD (r:=by conv=>lhs;simp[-List.map_set,QV,hm,hb]) (k:=?_)
  refine QN ?_
  repeat (first|refine QG ?_|refine QY ?_)
  exact jn hwf (((Ghost.tuple [_] [_,_] (Ghost.nils_list _))).toB _) rfl
theorem form_num (e:Ss.Env) (op n out:Int) (hsl:e.sigs.length≤140737488355328) (hgl:e.globals.length≤140737488355328) (hml:e.muts.length=e.globals.length) (ho:Ss.I64 op) (h1 : ¬ op=256) (h2 : ¬ op=258) (h3 : ¬ op=27) (h4 : ¬ op=16) (h5 : ¬ op=35) (h6 : ¬ op=36) :
  VPure Tryz.prog 105 [zh e,vint op,vu n,vint out] (jaq (Ss.formNum e op)):=by
 intro S
 obtain ⟨sg,im,gl,mu,me⟩:=e
 simp only at hsl hgl hml
 have hns:=NumSig_v op ho
 simp only [Ss.formNum]
 generalize hsg:Ss.numSig op=sgv at *
 obtain ⟨l,t,b⟩:=sgv
 simp only at hns
 by_cases hnt:b=true
 ·subst hnt
  simp only
  refine jb (c:=jg Tryz.f105) Tryz.func105 rfl rfl (by simp [Tryz.ntmps105]) ?_
  rw [Tryz.ntmps105]
  intro hwf
  repeat refine QS ?_
  refine QP ?_
  refine QN ?_
  repeat refine QS ?_
  refine QP ?_
  refine QN ?_
  refine ji 12 rfl ((frz1 (k:=1) (len:=1) (by simp) (by rfl) (by rfl) (by rfl))) (by conv=>lhs; simp [Fr.set]) ?_
  simp only [List.set_cons_succ,List.set_cons_zero]
  repeat (first|refine QG ?_|refine QY ?_ (r:=by conv=>lhs;simp[-List.map_set,QV,h1,h2,h3,h4,h5,h6]))
  repeat refine QS ?_
  refine QP ?_
  refine jd (hns) (by rfl) ?_
  refine QM (by conv=>lhs;simp[-List.map_set,QV]) ?_
  refine QN ?_
  repeat (first|refine QG ?_|refine QY ?_)
  exact jn hwf (((Ghost.tuple [_] [_,_] (frz1 (k:=2) (by simp) (by rfl) (by rfl) (by rfl)))).toB _) rfl
 have hnt':b=false:=by simpa using hnt
 rw [hnt']
 simp only
 by_cases hme:me=true
 case neg =>
  have hme':me=false:=by simpa using hme
  rw [if_neg hme]
  refine jb (c:=jg Tryz.f105) Tryz.func105 rfl rfl (by simp [Tryz.ntmps105]) ?_
  rw [Tryz.ntmps105]
  intro hwf
  repeat refine QS ?_
  refine QP ?_
  refine QN ?_
  repeat refine QS ?_
  refine QP ?_
  refine QN ?_
  refine ji 12 rfl ((frz1 (k:=1) (len:=1) (by simp) (by rfl) (by rfl) (by rfl))) (by conv=>lhs; simp [Fr.set]) ?_
  simp only [List.set_cons_succ,List.set_cons_zero]
  repeat (first|refine QG ?_|refine QY ?_ (r:=by conv=>lhs;simp[-List.map_set,QV,h1,h2,h3,h4,h5,h6]))
  repeat refine QS ?_
  refine QP ?_
  refine jd (hns) (by rfl) ?_
  refine QM (by conv=>lhs;simp[-List.map_set,QV,hnt']) ?_
  refine QN ?_
  repeat (first|refine QG ?_|refine QY ?_ (r:=by conv=>lhs;simp[-List.map_set,QV,hme']))
  exact jn hwf ((((Ghost.tuple [] [_,_,_] (Ghost.nils_list _)).trans (Ghost.tuple [_] [_,_] (Ghost.nils_list _)))).toB _) rfl
 rw [if_pos hme]
 unfold Ss.formMem
 by_cases k1:op=257
 ·rw [if_pos k1]
  refine jb (c:=jg Tryz.f105) Tryz.func105 rfl rfl (by simp [Tryz.ntmps105]) ?_
  rw [Tryz.ntmps105]
  intro hwf
  repeat refine QS ?_
  refine QP ?_
  refine QN ?_
  repeat refine QS ?_
  refine QP ?_
  refine QN ?_
  refine ji 12 rfl ((frz1 (k:=1) (len:=1) (by simp) (by rfl) (by rfl) (by rfl))) (by conv=>lhs; simp [Fr.set]) ?_
  simp only [List.set_cons_succ,List.set_cons_zero]
  repeat (first|refine QG ?_|refine QY ?_ (r:=by conv=>lhs;simp[-List.map_set,QV,h1,h2,h3,h4,h5,h6]))
  repeat refine QS ?_
  refine QP ?_
  refine jd (hns) (by rfl) ?_
  refine QM (by conv=>lhs;simp[-List.map_set,QV,hnt']) ?_
  refine QN ?_
  repeat (first|refine QG ?_|refine QY ?_ (r:=by conv=>lhs;simp[-List.map_set,QV,hme,k1]))
  exact jn hwf (((Ghost.tuple [_] [_,_] (Ghost.nils_list _))).toB _) rfl
 rw [if_neg k1]
 by_cases k2:op=63
 ·rw [if_pos k2]
  refine jb (c:=jg Tryz.f105) Tryz.func105 rfl rfl (by simp [Tryz.ntmps105]) ?_
  rw [Tryz.ntmps105]
  intro hwf
  repeat refine QS ?_
  refine QP ?_
  refine QN ?_
  repeat refine QS ?_
  refine QP ?_
  refine QN ?_
  refine ji 12 rfl ((frz1 (k:=1) (len:=1) (by simp) (by rfl) (by rfl) (by rfl))) (by conv=>lhs; simp [Fr.set]) ?_
  simp only [List.set_cons_succ,List.set_cons_zero]
  repeat (first|refine QG ?_|refine QY ?_ (r:=by conv=>lhs;simp[-List.map_set,QV,h1,h2,h3,h4,h5,h6]))
  repeat refine QS ?_
  refine QP ?_
  refine jd (hns) (by rfl) ?_
  refine QM (by conv=>lhs;simp[-List.map_set,QV,hnt']) ?_
  refine QN ?_
  repeat (first|refine QG ?_|refine QY ?_ (r:=by conv=>lhs;simp[-List.map_set,QV,hme,k1,k2]))
  exact jn hwf (((Ghost.tuple [] [_,_,_] (Ghost.nils_list _))).toB _) rfl
 rw [if_neg k2]
 by_cases k3:op=64
 ·rw [if_pos k3]
  refine jb (c:=jg Tryz.f105) Tryz.func105 rfl rfl (by simp [Tryz.ntmps105]) ?_
  rw [Tryz.ntmps105]
  intro hwf
  repeat refine QS ?_
  refine QP ?_
  refine QN ?_
  repeat refine QS ?_
  refine QP ?_
  refine QN ?_
  refine ji 12 rfl ((frz1 (k:=1) (len:=1) (by simp) (by rfl) (by rfl) (by rfl))) (by conv=>lhs; simp [Fr.set]) ?_
  simp only [List.set_cons_succ,List.set_cons_zero]
  repeat (first|refine QG ?_|refine QY ?_ (r:=by conv=>lhs;simp[-List.map_set,QV,h1,h2,h3,h4,h5,h6]))
  repeat refine QS ?_
  refine QP ?_
  refine jd (hns) (by rfl) ?_
  refine QM (by conv=>lhs;simp[-List.map_set,QV,hnt']) ?_
  refine QN ?_
  repeat (first|refine QG ?_|refine QY ?_ (r:=by conv=>lhs;simp[-List.map_set,QV,hme,k1,k2,k3]))
  exact ja hwf (by simp [jaq,vl]) rfl
 rw [if_neg k3]
 have hac:=Access_v op
 cases hf:Ss.accOf op with
 | none =>
  rw [hf] at hac
  have hac':VPure Tryz.prog 127 [vint op] (.tuple [.int .i64 0, .int .i64 0, .bool false, .bool false]):=hac
  simp only
  refine jb (c:=jg Tryz.f105) Tryz.func105 rfl rfl (by simp [Tryz.ntmps105]) ?_
  rw [Tryz.ntmps105]
  intro hwf
  repeat refine QS ?_
  refine QP ?_
  refine QN ?_
  repeat refine QS ?_
  refine QP ?_
  refine QN ?_
  refine ji 12 rfl ((frz1 (k:=1) (len:=1) (by simp) (by rfl) (by rfl) (by rfl))) (by conv=>lhs; simp [Fr.set]) ?_
  simp only [List.set_cons_succ,List.set_cons_zero]
  repeat (first|refine QG ?_|refine QY ?_ (r:=by conv=>lhs;simp[-List.map_set,QV,h1,h2,h3,h4,h5,h6]))
  repeat refine QS ?_
  refine QP ?_
  refine jd (hns) (by rfl) ?_
  refine QM (by conv=>lhs;simp[-List.map_set,QV,hnt']) ?_
  refine QN ?_
  repeat (first|refine QG ?_|refine QY ?_ (r:=by conv=>lhs;simp[-List.map_set,QV,hme,k1,k2,k3]))
  repeat refine QS ?_
  refine QP ?_
  refine jd (hac') (by rfl) ?_
  refine QM (by conv=>lhs;simp[-List.map_set,QV]) ?_
  refine QN ?_
  repeat (first|refine QG ?_|refine QY ?_)
  exact jn hwf ((((Ghost.tuple [] [_,_,_] (Ghost.nils_list _)).trans (Ghost.tuple [_] [_,_] (Ghost.nils_list _)))).toB _) rfl
 | some a =>
  rw [hf] at hac
  obtain ⟨a1,a2,a3,a4⟩:=a
  have hac':VPure Tryz.prog 127 [vint op] (.tuple [.int .i64 a1, .int .i64 a2, .bool a3, .bool true]):=hac
  simp only
  by_cases h9:a3=true
  ·rw [if_pos h9]
   refine jb (c:=jg Tryz.f105) Tryz.func105 rfl rfl (by simp [Tryz.ntmps105]) ?_
   rw [Tryz.ntmps105]
   intro hwf
   repeat refine QS ?_
   refine QP ?_
   refine QN ?_
   repeat refine QS ?_
   refine QP ?_
   refine QN ?_
   refine ji 12 rfl ((frz1 (k:=1) (len:=1) (by simp) (by rfl) (by rfl) (by rfl))) (by conv=>lhs; simp [Fr.set]) ?_
   simp only [List.set_cons_succ,List.set_cons_zero]
   repeat (first|refine QG ?_|refine QY ?_ (r:=by conv=>lhs;simp[-List.map_set,QV,h1,h2,h3,h4,h5,h6]))
   repeat refine QS ?_
   refine QP ?_
   refine jd (hns) (by rfl) ?_
   refine QM (by conv=>lhs;simp[-List.map_set,QV,hnt']) ?_
   refine QN ?_
   repeat (first|refine QG ?_|refine QY ?_ (r:=by conv=>lhs;simp[-List.map_set,QV,hme,k1,k2,k3]))
   repeat refine QS ?_
   refine QP ?_
   refine jd (hac') (by rfl) ?_
   refine QM (by conv=>lhs;simp[-List.map_set,QV,h9]) ?_
   refine QN ?_
   repeat (first|refine QG ?_|refine QY ?_ (r:=by conv=>lhs;simp[-List.map_set,QV,h9]))
   exact jn hwf ((((Ghost.tuple [] [_,_,_] (frz1 (k:=2) (by simp) (by rfl) (by rfl) (by rfl))).trans (Ghost.tuple [_] [_,_] (Ghost.nils_list _)))).toB _) rfl
  ·rw [if_neg h9]
   have h9':a3=false:=by simpa using h9
   refine jb (c:=jg Tryz.f105) Tryz.func105 rfl rfl (by simp [Tryz.ntmps105]) ?_
   rw [Tryz.ntmps105]
   intro hwf
   repeat refine QS ?_
   refine QP ?_
   refine QN ?_
   repeat refine QS ?_
   refine QP ?_
   refine QN ?_
   refine ji 12 rfl ((frz1 (k:=1) (len:=1) (by simp) (by rfl) (by rfl) (by rfl))) (by conv=>lhs; simp [Fr.set]) ?_
   simp only [List.set_cons_succ,List.set_cons_zero]
   repeat (first|refine QG ?_|refine QY ?_ (r:=by conv=>lhs;simp[-List.map_set,QV,h1,h2,h3,h4,h5,h6]))
   repeat refine QS ?_
   refine QP ?_
   refine jd (hns) (by rfl) ?_
   refine QM (by conv=>lhs;simp[-List.map_set,QV,hnt']) ?_
   refine QN ?_
   repeat (first|refine QG ?_|refine QY ?_ (r:=by conv=>lhs;simp[-List.map_set,QV,hme,k1,k2,k3]))
   repeat refine QS ?_
   refine QP ?_
   refine jd (hac') (by rfl) ?_
   refine QM (by conv=>lhs;simp[-List.map_set,QV,h9']) ?_
   refine QN ?_
   repeat (first|refine QG ?_|refine QY ?_ (r:=by conv=>lhs;simp[-List.map_set,QV,h9']))
   exact jn hwf (((Ghost.tuple [_] [_,_] (frz1 (k:=2) (by simp) (by rfl) (by rfl) (by rfl)))).toB _) rfl
theorem form_v (e:Ss.Env) (op n out:Int) (hsl:e.sigs.length≤140737488355328) (hgl:e.globals.length≤140737488355328) (hml:e.muts.length=e.globals.length) (ho:Ss.I64 op) (h0:0≤n) :
  VPure Tryz.prog 105 [zh e,vint op,vu n,vint out] (jaq (Ss.form e op n out)):=by
 unfold Ss.form
 split
 ·rename_i h1
  split
  ·rename_i h2; exact form_c32 e op n out hsl hgl hml h1 h2
  ·rename_i h2; exact form_c64 e op n out hsl hgl hml h1 h2
 ·rename_i h1
  split
  ·rename_i h2; exact form_tick e op n out hsl hgl hml h2
  ·rename_i h2
   split
   ·rename_i h3; exact form_sel e op n out hsl hgl hml h3
   ·rename_i h3
    split
    ·rename_i h4; exact form_call e op n out hsl hgl hml h0 h4
    ·rename_i h4
     split
     ·rename_i h5; exact form_glob e op n out hsl hgl hml h0 h5
     ·rename_i h5; exact form_num e op n out hsl hgl hml ho h1 h2 h3 h4 (fun h=>h5 (.inl h)) (fun h=>h5 (.inr h))
end Go.Vw

namespace Go.Vw
open Go.Proofs Go.RowKit
set_option maxRecDepth 10000
set_option maxHeartbeats 4000000
theorem EqFI_v (l m:List (Int)) (p:Int→Int→Bool) (fid:FuncId) (caps:List V) (hc:jO Tryz.prog fid=true) (hl:l.length<2^63) (h:l.length=m.length → ∀ (k:Nat) (h1:k<l.length) (h2:k<m.length),VPure Tryz.prog fid ([vint l[k],vint m[k]]++caps) (.bool (p l[k] m[k]))) :
  VPure Tryz.prog 128 [vl (vint) l,vl (vint) m, .func fid caps] (.bool (eqF p l m)):=by
 intro S
 by_cases hlm:l.length=m.length
 ·have hlm':(l.length:Int)=(m.length:Int):=by omega
  have h:=h hlm
  refine jb (c:=jg Tryz.f128) Tryz.func128 rfl rfl (by simp [Tryz.ntmps128]) ?_
  rw [Tryz.ntmps128]
  intro hwf
  repeat (first|refine QG ?_|refine QY ?_ (r:=by conv=>lhs;simp[-List.map_set,QV,hlm,hlm']))
  repeat refine QS ?_
  refine je [1,2,15,16,17] rfl (fun c σ S' => ∃ (k:Nat),k≤l.length∧c=l.length-k∧eqF p (l.drop k) (m.drop k)=eqF p l m∧σ=[(1,vl (vint) m),(2, .func fid caps),(15,vl (vint) l),(16,vnat m.length),(17,vnat k)]∧S'=St S [] []) l.length ?_ ?_
  ·exact ⟨0,by omega,rfl,rfl,by simp [Fr.only,hlm],rfl⟩
  ·rintro c σ T ⟨k,hk,rfl,hd,rfl,rfl⟩
   by_cases hkt:k<l.length
   ·have hkm:k<m.length:=by omega
    have hw:=jm hkt hl
    have hst:eqF p (l.drop k) (m.drop k)=(p l[k] m[k]&&eqF p (l.drop (k+1)) (m.drop (k+1))):=by rw [List.drop_eq_getElem_cons hkt,List.drop_eq_getElem_cons hkm,eqF]
    have hh:=h k hkt hkm
    obtain ⟨x,hx⟩ : ∃ x,l[k]=x:=⟨_,rfl⟩
    obtain ⟨y,hy⟩ : ∃ y,m[k]=y:=⟨_,rfl⟩
    rw [hx,hy] at hst hh
    repeat (first|refine QG ?_|refine QY ?_ (r:=by conv=>lhs;simp[-List.map_set,QV,hkt,hkm,hx,hy]))
    repeat refine QS ?_
    refine QP ?_ (r:=by conv=>lhs;simp[-List.map_set,QV,hkt,hkm,hx,hy])
    refine qO rfl hc rfl hh ?_
    refine QM (by conv=>lhs;simp[-List.map_set,QV]) ?_
    refine QN ?_
    cases hp:p x y with
    | false =>
     rw [hp] at hst
     repeat (first|refine QG ?_|refine QY ?_ (r:=by conv=>lhs;simp[-List.map_set,QV,hp]))
     exact ja hwf (by rw [←hd,hst]; rfl) rfl
    | true =>
     rw [hp] at hst
     repeat (first|refine QG ?_|refine QY ?_ (r:=by conv=>lhs;simp[-List.map_set,QV,hp]))
     show jt _ _ _ _ _ _ _
     exact again ⟨Nat.sub_lt_sub_left hkt (Nat.lt_succ_self k),k+1,hkt,rfl,by rw [←hd,hst]; rfl,by simp [Fr.only,hw],rfl⟩
   ·have e:l.drop k=[]:=by rw [List.drop_eq_nil_iff]; omega
    have e':m.drop k=[]:=by rw [List.drop_eq_nil_iff]; omega
    rw [e,e'] at hd
    have hkm : ¬ k<m.length:=by omega
    repeat (first|refine QG ?_|refine QY ?_ (r:=by conv=>lhs;simp[-List.map_set,QV,hkt,hkm]))
    exact ja hwf (by rw [←hd]; rfl) rfl
 ·have hlm' : ¬ (l.length:Int)=(m.length:Int):=by omega
  have e:eqF p l m=false:=eqF_len hlm
  rw [e]
  refine jb (c:=jg Tryz.f128) Tryz.func128 rfl rfl (by simp [Tryz.ntmps128]) ?_
  rw [Tryz.ntmps128]
  intro hwf
  repeat (first|refine QG ?_|refine QY ?_ (r:=by conv=>lhs;simp[-List.map_set,QV,hlm,hlm']))
  exact ja hwf rfl rfl
end Go.Vw

namespace Go.Vw
open Go.Proofs Go.RowKit
set_option maxRecDepth 10000
set_option maxHeartbeats 4000000
theorem RDominates_v (l:List Int) (a b:Int) (hl:l.length<2^63):VPure Tryz.prog 111 [vl vint l,vint a,vint b] (.bool (G.dominates l a b)):=by
 intro S
 refine za rfl ?_
 refine qV (c:=jg Tryz.f111) Tryz.func111 rfl rfl (by simp [Tryz.ntmps111]) ?_
 rw [Tryz.ntmps111]
 repeat refine QS ?_
 refine QP ?_
 refine QN ?_
 by_cases ha:G.okIx l a
 ·by_cases hb:G.okIx l b
  ·obtain ⟨ha1,ha2⟩:=ha
   obtain ⟨hb1,hb2⟩:=hb
   have e1 : ¬ a<0:=by omega
   have e2 : ¬ (l.length:Int)≤a:=by omega
   have e3 : ¬ b<0:=by omega
   have e4 : ¬ (l.length:Int)≤b:=by omega
   repeat refine QS ?_
   refine QP ?_ (r:=by conv=>lhs;simp[-List.map_set,QV,jG,e1,e2,e3,e4])
   refine QN ?_
   repeat refine QS ?_
   refine jW rfl rfl rfl ?_
   repeat refine QS ?_
   refine jX rfl ?_
   repeat refine QS ?_
   refine QP ?_
   refine QN ?_
   repeat refine QS ?_
   refine qi 0 rfl rfl ?_
   repeat refine QS ?_
   refine je [0,1,2,7] rfl (fun n σ S' => ∃ (k:Nat) (c:Int),k≤257∧n=257-k∧G.okIx l c∧G.dom1 l a (257-k) c=G.dom1 l a 257 b∧σ=[(0,vl vint l),(1,vint a),(2,vint c),(7,vnat k)]∧S'=S) 257 ?_ ?_
   ·exact ⟨0,b,by omega,rfl,⟨hb1,hb2⟩,rfl,by simp [Fr.only,Fr.look,vnat,vint],rfl⟩
   ·rintro n σ S' ⟨k,c,hk,rfl,hc,hd,rfl,rfl⟩
    have hfin:G.dominates l a b=G.dom1 l a 257 b:=by simp [G.dominates,G.okIx,ha1,ha2]
    obtain ⟨hc1,hc2⟩:=hc
    have hcn:c.toNat<l.length:=by omega
    repeat refine QS ?_
    refine QP ?_
    refine QN ?_
    repeat refine QS ?_
    refine WO rfl rfl rfl (k≤256) (by first | (simp; done) | (simp; omega)) ?_ ?_
    ·intro hk6
     have hst:G.dom1 l a (257-k) c=if a=c then true else G.dom1 l a (256-k) (l[c.toNat]):=by
      rw [show 257-k=(256-k)+1 from by omega,G.dom1,if_pos ⟨hc1,hc2⟩]
      simp [hcn]
     repeat refine QS ?_
     refine jX rfl ?_
     repeat refine QS ?_
     refine qi 1 rfl rfl ?_
     repeat refine QS ?_
     refine QP ?_
     refine QN ?_
     repeat refine QS ?_
     refine WO rfl rfl rfl (a=c) (by first | (simp; done) | (simp; omega)) ?_ ?_
     ·intro hac
      repeat refine QS ?_
      refine QP ?_
      refine QN ?_
      repeat refine QS ?_
      refine jM rfl ?_
      rw [hfin, ←hd,hst,if_pos hac]
      exact Gives.same (Agree.refl S')
     ·intro hac
      rw [if_neg hac] at hst
      repeat refine QS ?_
      refine jX rfl ?_
      repeat refine QS ?_
      refine QP ?_ (r:=by conv=>lhs;simp[-List.map_set,QV,ZC,hc1,hcn])
      refine QN ?_
      have fls : ¬ G.okIx l l[c.toNat]→G.dom1 l a (256-k) l[c.toNat]=false:=by
       intro h
       cases 256-k<;>simp [G.dom1,h]
      by_cases hx:l[c.toNat]<0
      ·repeat refine QS ?_
       refine QP ?_ (r:=by conv=>lhs;simp[-List.map_set,QV,jG,hx])
       refine QN ?_
       repeat refine QS ?_
       refine jR rfl rfl rfl ?_
       repeat refine QS ?_
       refine QP ?_
       refine QN ?_
       repeat refine QS ?_
       refine jM rfl ?_
       rw [hfin, ←hd,hst,fls (by simp [G.okIx]; omega)]
       exact Gives.same (Agree.refl S')
      ·by_cases hy:(l.length:Int)≤l[c.toNat]
       ·repeat refine QS ?_
        refine QP ?_ (r:=by conv=>lhs;simp[-List.map_set,QV,jG,hx,hy])
        refine QN ?_
        repeat refine QS ?_
        refine jR rfl rfl rfl ?_
        repeat refine QS ?_
        refine QP ?_
        refine QN ?_
        repeat refine QS ?_
        refine jM rfl ?_
        rw [hfin, ←hd,hst,fls (by simp [G.okIx]; omega)]
        exact Gives.same (Agree.refl S')
       ·repeat refine QS ?_
        refine QP ?_ (r:=by conv=>lhs;simp[-List.map_set,QV,jG,hx,hy])
        refine QN ?_
        repeat refine QS ?_
        refine jW rfl rfl rfl ?_
        repeat refine QS ?_
        refine jX rfl ?_
        have hw:IntKind.i64.wrap ((k:Int)+1)=(k:Int)+1:=wrap_i64 (by omega) (by omega)
        repeat refine QS ?_
        refine QP ?_ (r:=by conv=>lhs;simp[-List.map_set,QV,hw])
        refine QN ?_
        exact again ⟨Nat.sub_lt_sub_left (by omega) (Nat.lt_succ_self k),k+1,l[c.toNat],by omega,rfl,⟨by omega,by omega⟩,by rw [←hd,hst]; congr 1; omega,by simp [Fr.only,Fr.look,vnat,vint],rfl⟩
    ·intro hk6
     repeat refine QS ?_
     refine qo 0 rfl rfl ?_
     repeat refine QS ?_
     refine QP ?_
     refine QN ?_
     repeat refine QS ?_
     refine jM rfl ?_
     rw [hfin, ←hd,show 257-k=0 from by omega]
     exact Gives.same (Agree.refl S')
  ·have hfin:G.dominates l a b=false:=by simp [G.dominates,G.dom1,hb]
   obtain ⟨ha1,ha2⟩:=ha
   have e1 : ¬ a<0:=by omega
   have e2 : ¬ (l.length:Int)≤a:=by omega
   rw [hfin]
   by_cases e3:b<0
   ·repeat refine QS ?_
    refine QP ?_ (r:=by conv=>lhs;simp[-List.map_set,QV,jG,e1,e2,e3])
    refine QN ?_
    repeat refine QS ?_
    refine jR rfl rfl rfl ?_
    repeat refine QS ?_
    refine QP ?_
    refine QN ?_
    repeat refine QS ?_
    refine jM rfl ?_
    exact Gives.same (Agree.refl S)
   ·have e4:(l.length:Int)≤b:=by simp [G.okIx] at hb; omega
    repeat refine QS ?_
    refine QP ?_ (r:=by conv=>lhs;simp[-List.map_set,QV,jG,e1,e2,e3,e4])
    refine QN ?_
    repeat refine QS ?_
    refine jR rfl rfl rfl ?_
    repeat refine QS ?_
    refine QP ?_
    refine QN ?_
    repeat refine QS ?_
    refine jM rfl ?_
    exact Gives.same (Agree.refl S)
 ·have hfin:G.dominates l a b=false:=by simp [G.dominates,ha]
  rw [hfin]
  by_cases e1:a<0
  ·repeat refine QS ?_
   refine QP ?_ (r:=by conv=>lhs;simp[-List.map_set,QV,jG,e1])
   refine QN ?_
   repeat refine QS ?_
   refine jR rfl rfl rfl ?_
   repeat refine QS ?_
   refine QP ?_
   refine QN ?_
   repeat refine QS ?_
   refine jM rfl ?_
   exact Gives.same (Agree.refl S)
  ·have e2:(l.length:Int)≤a:=by simp [G.okIx] at ha; omega
   repeat refine QS ?_
   refine QP ?_ (r:=by conv=>lhs;simp[-List.map_set,QV,jG,e1,e2])
   refine QN ?_
   repeat refine QS ?_
   refine jR rfl rfl rfl ?_
   repeat refine QS ?_
   refine QP ?_
   refine QN ?_
   repeat refine QS ?_
   refine jM rfl ?_
   exact Gives.same (Agree.refl S)
end Go.Vw

namespace Go.Vw
open Go.Proofs Go.RowKit
set_option maxRecDepth 10000
set_option maxHeartbeats 4000000
theorem there_v (l:List Int) (n:Int):VPure Tryz.prog 140 [vint n, .ref (vl vint l)] (.bool (decide (G.okIx l n))):=by
 intro S
 refine za rfl ?_
 refine qV (c:=jg Tryz.f140) Tryz.func140 rfl rfl (by simp [Tryz.ntmps140]) ?_
 rw [Tryz.ntmps140]
 repeat refine QS ?_
 refine QP ?_
 refine QN ?_
 by_cases h0:0≤n
 ·repeat refine QS ?_
  refine QP ?_ (r:=by conv=>lhs;simp[-List.map_set,QV,jG,h0])
  refine QN ?_
  repeat refine QS ?_
  refine jM rfl ?_
  have:decide (G.okIx l n)=decide (n<(l.length:Int)):=by simp [G.okIx,h0]
  rw [this]
  exact Gives.same (Agree.refl S)
 ·repeat refine QS ?_
  refine QP ?_ (r:=by conv=>lhs;simp[-List.map_set,QV,jG,h0])
  refine QN ?_
  repeat refine QS ?_
  refine jM rfl ?_
  have:decide (G.okIx l n)=false:=by simp [G.okIx,h0]
  rw [this]
  exact Gives.same (Agree.refl S)
theorem Dominates_v (l:List Int) (a b:Int) (hl:l.length<2^63):VPure Tryz.prog 130 [vl vint l,vint a,vint b] (.bool (G.dominates l a b)):=by
 intro S
 refine za rfl ?_
 refine qV (c:=jg Tryz.f130) Tryz.func130 rfl rfl (by simp [Tryz.ntmps130]) ?_
 rw [Tryz.ntmps130]
 repeat refine QS ?_
 refine QP ?_
 refine QN ?_
 refine ji 3 rfl (Ghost.box (get_add _ _) (jaU _ _)) (by conv=>lhs; simp [Fr.set]) ?_
 have hag:Agree S ((S.add (1,[vl vint l])).del S.nx):=((Agree.refl S).add _).del (Nat.le_refl _)
 generalize (S.add (1,[vl vint l])).del S.nx=S1 at hag ⊢
 repeat refine QS ?_
 refine QP ?_
 refine QN ?_
 repeat refine QS ?_
 refine QP ?_
 refine qO rfl rfl rfl (there_v l a) ?_
 refine QM (by conv=>lhs;simp[-List.map_set,QV]) ?_
 refine QN ?_
 by_cases ha:G.okIx l a
 ·have hfin:G.dominates l a b=G.dom1 l a 257 b:=by simp [G.dominates,ha]
  rw [hfin]
  refine jW rfl rfl (by simp [ev,Fr.look,ha]) ?_
  repeat refine QS ?_
  refine jX rfl ?_
  repeat refine QS ?_
  refine QP ?_
  refine QN ?_
  repeat refine QS ?_
  refine qi 0 rfl rfl ?_
  repeat refine QS ?_
  refine je [0,1,2,3,7,8] rfl (fun n σ S' => ∃ (k:Nat) (c:Int),k≤257∧n=257-k∧G.dom1 l a (257-k) c=G.dom1 l a 257 b∧σ=[(0,vl vint l),(1,vint a),(2,vint c),(3, .ref (vl vint l)),(7, .func 140 [.ref (vl vint l)]),(8,vnat k)]∧S'=S1) 257 ?_ ?_
  ·exact ⟨0,b,by omega,rfl,rfl,by simp [Fr.only,Fr.look,vnat,vint],rfl⟩
  ·rintro n σ S' ⟨k,c,hk,rfl,hd,rfl,rfl⟩
   by_cases hk6:k≤256
   ·have hst:G.dom1 l a (257-k) c=if G.okIx l c then (if a=c then true else G.dom1 l a (256-k) (l.getD c.toNat 0)) else false:=by
     rw [show 257-k=(256-k)+1 from by omega,G.dom1]
    have h7:(k:Int)≤256:=by omega
    repeat refine QS ?_
    refine QP ?_ (r:=by conv=>lhs;simp[-List.map_set,QV,h7])
    refine qO rfl rfl rfl (there_v l c) ?_
    refine QM (by conv=>lhs;simp[-List.map_set,QV]) ?_
    refine QN ?_
    by_cases hc:G.okIx l c
    ·refine jR rfl rfl (by simp [ev,Fr.look,hc]) ?_
     rw [if_pos hc] at hst
     obtain ⟨hc1,hc2⟩:=hc
     have hcn:c.toNat<l.length:=by omega
     repeat refine QS ?_
     refine jX rfl ?_
     repeat refine QS ?_
     refine qi 1 rfl rfl ?_
     repeat refine QS ?_
     refine QP ?_
     refine QN ?_
     repeat refine QS ?_
     refine WO rfl rfl rfl (a=c) (by first | (simp; done) | (simp; omega)) ?_ ?_
     ·intro hac
      repeat refine QS ?_
      refine QP ?_
      refine QN ?_
      repeat refine QS ?_
      refine jM rfl ?_
      rw [←hd,hst,if_pos hac]
      exact Gives.same hag
     ·intro hac
      rw [if_neg hac] at hst
      have hw:IntKind.i64.wrap ((k:Int)+1)=(k:Int)+1:=wrap_i64 (by omega) (by omega)
      repeat refine QS ?_
      refine jX rfl ?_
      repeat refine QS ?_
      refine QP ?_ (r:=by conv=>lhs;simp[-List.map_set,QV,ZC,hc1,hcn])
      refine QN ?_
      repeat refine QS ?_
      refine QP ?_ (r:=by conv=>lhs;simp[-List.map_set,QV,hw])
      refine QN ?_
      exact again ⟨Nat.sub_lt_sub_left (by omega) (Nat.lt_succ_self k),k+1,l[c.toNat],by omega,rfl,by rw [←hd,hst,show 257-(k+1)=256-k from by omega]; simp [hcn],by simp [Fr.only,Fr.look,vnat,vint],rfl⟩
    ·refine jW rfl rfl (by simp [ev,Fr.look,hc]) ?_
     repeat refine QS ?_
     refine qo 0 rfl rfl ?_
     repeat refine QS ?_
     refine QP ?_
     refine QN ?_
     repeat refine QS ?_
     refine jM rfl ?_
     rw [←hd,hst,if_neg hc]
     exact Gives.same hag
   ·have h7 : ¬ (k:Int)≤256:=by omega
    repeat refine QS ?_
    refine QP ?_ (r:=by conv=>lhs;simp[-List.map_set,QV,h7])
    refine QN ?_
    repeat refine QS ?_
    refine jW rfl rfl rfl ?_
    repeat refine QS ?_
    refine qo 0 rfl rfl ?_
    repeat refine QS ?_
    refine QP ?_
    refine QN ?_
    repeat refine QS ?_
    refine jM rfl ?_
    rw [←hd,show 257-k=0 from by omega]
    exact Gives.same hag
 ·have hfin:G.dominates l a b=false:=by simp [G.dominates,ha]
  rw [hfin]
  refine jR rfl rfl (by simp [ev,Fr.look,ha]) ?_
  repeat refine QS ?_
  refine QP ?_
  refine QN ?_
  repeat refine QS ?_
  refine jM rfl ?_
  exact Gives.same hag
end Go.Vw
