import Derived.Test.YtkfllaokjaldnaaGreatC21
import Derived.Test.YtkfllaokjaldnaaGreatC16
import Derived.Test.YtkfllaokjaldnaaGreatC12
import Derived.Test.YtkfllaokjaldnaaGreatC19
import Derived.Test.YtkfllaokjaldnaaGreatC7
import Derived.Test.YtkfllaokjaldnaaGreatC20
import Derived.Test.YtkfllaokjaldnaaGreatC17
/- Part of the proof. -/
set_option linter.unusedVariables false
set_option linter.unusedSimpArgs false
set_option maxRecDepth 10000
set_option maxHeartbeats 16000000
namespace Ss
open Go.Vw.G
def moved (f:Fn) (p n i:Nat):Fn:=⟨f.sig,f.types,moveAt f.blocks p n i⟩
noncomputable def KB:Nat→Fn→Fn
 | 0,f=>f
 | k+1,f=>match first f.blocks (homeOf f) (lps f.blocks) with
  | none=>f
  | some m=>KB k (moved f m.1 m.2.1 m.2.2)
noncomputable def wt (f:Fn):Nat:=weigh (rk (nats (succs f.blocks)) (order (nats (succs f.blocks)))) 0 f.blocks
noncomputable def licF (f:Fn):Fn:=KB (wt f+1) f
noncomputable def licOut (e:Env) (f:Fn):Fn × Int:=if check e f then (licF f,0) else (emptyFn,6)
theorem licOut_t {e:Env} {f:Fn} (h:check e f=true):licOut e f=(licF f,0):=by simp [licOut,h]
theorem licOut_f {e:Env} {f:Fn} (h:check e f=false):licOut e f=(emptyFn,6):=by simp [licOut,h]
theorem Jl (k:Nat) {f:Fn} (h:first f.blocks (homeOf f) (lps f.blocks)=none):KB k f=f:=by
 cases k with
 | zero=>rfl
 | succ k=>rw [KB,h]
theorem WN (k:Nat) {f:Fn} {p n i:Nat} (h:first f.blocks (homeOf f) (lps f.blocks)=some (p,n,i)):KB (k+1) f=KB k (moved f p n i):=by rw [KB,h]
theorem ZS {e:Env} {f:Fn} (h:check e f=true) {p n i:Nat} (hf:first f.blocks (homeOf f) (lps f.blocks)=some (p,n,i)) :
  check e (moved f p n i)=true∧succs (moved f p n i).blocks=succs f.blocks∧wt (moved f p n i)<wt f:=by
 obtain ⟨bp,bn,x,hm,hx,hc,hr⟩:=ZA h hf;have hs:succs (moved f p n i).blocks=succs f.blocks:=hm.succs;refine ⟨hc,hs, ?_⟩;unfold wt;rw [hs];exact hm.weigh hr
theorem lic_inv {P:Fn→Prop} {e:Env} (hs : ∀ f p n i,check e f=true→P f→first f.blocks (homeOf f) (lps f.blocks)=some (p,n,i)→P (moved f p n i)) : ∀ k f,check e f=true→P f→check e (KB k f)=true∧P (KB k f)
 | 0,f,h,hp=>⟨h,hp⟩
 | k+1,f,h,hp=>by
  cases hf:first f.blocks (homeOf f) (lps f.blocks) with
  | none=>rw [Jl _ hf]; exact ⟨h,hp⟩
  | some m =>
   obtain ⟨p,n,i⟩:=m;rw [WN _ hf];exact lic_inv hs k _ (ZS h hf).1 (hs f p n i h hp hf)
theorem lic_end {e:Env} : ∀ k f,check e f=true→wt f<k→first (KB k f).blocks (homeOf (KB k f)) (lps (KB k f).blocks)=none
 | 0,f,h,hk=>by omega
 | k+1,f,h,hk=>by
  cases hf:first f.blocks (homeOf f) (lps f.blocks) with
  | none=>rw [Jl _ hf]; exact hf
  | some m =>
   obtain ⟨p,n,i⟩:=m;rw [WN _ hf];obtain ⟨h1,h2,h3⟩:=ZS h hf;exact lic_end k _ h1 (by omega)
theorem licF_check {e:Env} {f:Fn} (h:check e f=true):check e (licF f)=true:=(lic_inv (P:=fun _=>True) (fun _ _ _ _ _ _ _=>trivial) _ f h trivial).1
def bare (b:Block):Block:=⟨b.params,[],b.term⟩
theorem moved_fits {f:Fn} {p n i:Nat} {bp bn:Block} {x:Ins} (hm:Mv f.blocks p n i bp bn x) (hf:f.Fits) (hl:bp.code.length<140737488355328):(moved f p n i).Fits:=by
 obtain ⟨h1,h2,h3,h4⟩:=hf;refine ⟨h1,h2,by rw [moved]; simp only [hm.len]; exact h3,fun c hc => ?_⟩;obtain ⟨j,hj⟩:=List.mem_iff_getElem?.1 hc;have hj':(moveAt f.blocks p n i)[j]? = some c:=hj;rw [hm.at j] at hj';split at hj'
 ·cases hj'
  obtain ⟨k1,⟨k2,k3⟩,k4⟩:=h4 bp (List.mem_of_getElem? hm.hp);obtain ⟨_,⟨_,m3⟩,_⟩:=h4 bn (List.mem_of_getElem? hm.hn);refine ⟨k1,⟨by simp [endWith]; omega,fun y hy => ?_⟩,k4⟩;rcases List.mem_append.1 hy with hy | hy
  ·exact k3 y hy
  ·rw [List.mem_singleton] at hy; subst hy; exact m3 _ (List.mem_of_getElem? hm.hi)
 ·split at hj'
  ·cases hj'
   obtain ⟨k1,⟨k2,k3⟩,k4⟩:=h4 bn (List.mem_of_getElem? hm.hn);refine ⟨k1,⟨Nat.le_trans (List.length_eraseIdx_le _ _) k2,fun y hy=>k3 y (List.mem_of_mem_eraseIdx hy)⟩,k4⟩
  ·exact h4 c (List.mem_of_getElem? hj')
theorem check_code {e:Env} {f:Fn} (h:check e f=true) : ∀ b∈f.blocks,b.code.length≤4096:=fun b hb=>by
 have h1:=((small_iff f).1 (check_small h)).2.2;have h2:=Go.Vw.count_mem hb;omega
theorem ZT {e:Env} {f:Fn} (h:check e f=true) (hf:f.Fits) {p n i:Nat} (hs:first f.blocks (homeOf f) (lps f.blocks)=some (p,n,i)):(moved f p n i).Fits:=by
 obtain ⟨bp,bn,x,hm,_⟩:=ZA h hs;have:=check_code h bp (List.mem_of_getElem? hm.hp);exact moved_fits hm hf (by omega)
theorem licF_fits {e:Env} {f:Fn} (h:check e f=true) (hf:f.Fits):(licF f).Fits:=(lic_inv (P:=Fn.Fits) (fun g p n i hg hp hs=>ZT hg hp hs) _ f h hf).2
theorem licOut_fits (e:Env) {f:Fn} (hf:f.Fits):(licOut e f).1.Fits:=by
 unfold licOut;split
 ·rename_i h; exact licF_fits h hf
 ·exact emptyFn_fits
theorem licOut_small (e:Env) (f:Fn):(licOut e f).1.small=true:=by
 unfold licOut;split
 ·rename_i h; exact check_small (licF_check h)
 ·rfl
theorem move_home {e:Env} {f:Fn} (h:check e f=true) {p n i:Nat} {bp bn:Block} {x:Ins} (hm:Mv f.blocks p n i bp bn x) (hc:check e (moved f p n i)=true) : ∀ v∈allL f.blocks,homeOf (moved f p n i) v=if v∈x.outs then (p:Int) else homeOf f v:=by
 obtain ⟨_,ds,hds,_,_⟩:=check_spec h;obtain ⟨_,ds',hds',_,_⟩:=check_spec hc;obtain ⟨hnd,hmade,hout⟩:=Jc hds;obtain ⟨_,hmade',hout'⟩:=Jc hds';have e1 : ∀ v:Int,homeOf f v=(dAt ds v).block:=fun v=>by simp only [homeOf,hds,Option.getD_some]
 have e2 : ∀ v:Int,homeOf (moved f p n i) v=(dAt ds' v).block:=fun v=>by simp only [homeOf,hds',Option.getD_some]
 have hat:=hm.at;have hxn : ∀ v∈x.outs,dAt ds v=⟨true,n,i⟩:=fun v hv=>hout n bn hm.hn i x hm.hi v hv
 intro v hv;rw [e1,e2];obtain ⟨b2,hb2,hv2⟩:=List.mem_flatMap.1 hv;obtain ⟨j,hj⟩:=List.mem_iff_getElem?.1 hb2;have blk : ∃ c,(moved f p n i).blocks[j]? = some c∧c.params=b2.params:=by
  have:=hat j
  by_cases e1:j=p
  ·subst e1; rw [if_pos rfl] at this; rw [hm.hp] at hj; cases hj; exact ⟨_,this,rfl⟩
  ·rw [if_neg e1] at this
   by_cases e2:j=n
   ·subst e2; rw [if_pos rfl] at this; rw [hm.hn] at hj; cases hj; exact ⟨_,this,rfl⟩
   ·rw [if_neg e2,hj] at this; exact ⟨_,this,rfl⟩
 rcases List.mem_append.1 hv2 with hp | ho
 ·have a1:=qh hds j b2 hj v hp;obtain ⟨c,hc,hcp⟩:=blk;have a2:=qh hds' j c hc v (by rw [hcp]; exact hp);have hno:v∉x.outs:=fun hxv=>by
   have:=hxn v hxv;rw [this] at a1;have:=congrArg Def.pos a1;simp only at this;omega
  rw [if_neg hno,a1,a2]
 ·obtain ⟨y,hy,hvy⟩:=List.mem_flatMap.1 ho;obtain ⟨k,hk⟩:=List.mem_iff_getElem?.1 hy;have a1:=hout j b2 hj k y hk v hvy;have new : ∀ (j' k':Nat) (c:Block),(moved f p n i).blocks[j']? = some c→c.code[k']? = some y→(dAt ds' v).block=(j':Int):=fun j' k' c hc hk'=>congrArg Def.block (hout' j' c hc k' y hk' v hvy)
  have hkl:=(List.getElem?_eq_some_iff.1 hk).1;have atp:=hat p;rw [if_pos rfl] at atp;have atn:=hat n;rw [if_neg (Ne.symm hm.ne),if_pos rfl] at atn
  by_cases hxv:v∈x.outs
  ·rw [if_pos hxv];have h3:=hxn v hxv;have h4:(⟨true,(j:Int),(k:Int)⟩:Def)=⟨true,n,i⟩:=a1.symm.trans h3;have h5:j=n:=by have:=congrArg Def.block h4; simp only at this; omega
   have h6:k=i:=by have:=congrArg Def.pos h4; simp only at this; omega
   subst h5; subst h6;rw [hm.hn] at hj
   cases hj
   rw [hm.hi] at hk
   cases hk
   exact new p bp.code.length _ atp (by simp [endWith])
  ·rw [if_neg hxv,a1];simp only
   by_cases e1:j=p
   ·subst e1;rw [hm.hp] at hj
    cases hj
    exact new j k _ atp (by simp only [endWith]; rw [List.getElem?_append_left hkl]; exact hk)
   ·by_cases e2:j=n
    ·subst e2;rw [hm.hn] at hj
     cases hj
     by_cases e3:k<i
     ·exact new j k _ atn (by simp only [cutAt]; rw [WW,if_pos e3]; exact hk)
     ·have e4:k≠i:=fun e4=>by
       subst e4;rw [hm.hi] at hk
       cases hk
       exact hxv hvy
      exact new j (k-1) _ atn (by simp only [cutAt]; rw [WW,if_neg (by omega),Nat.sub_add_cancel (by omega)]; exact hk)
    ·have:=hat j;rw [if_neg e1,if_neg e2,hj] at this;exact new j k b2 this hk
end Ss
namespace Go.Vw
open Go.Proofs Go.RowKit
theorem rright_nats (g:List (List Int)) (h:Fits g) (hr:G.right g=true):VPure Tryz.prog 45 [vl (vl vnat) (G.nats g)] (.bool true):=by
 have:=ZF g h.1 h.2;rw [hr,G.right_enc hr] at this;exact this
theorem FromAll_v (g:List (List Int)) (h:Fits g):VPure Tryz.prog 78 [vl (vl vint) g] (.tuple [vl (vl vnat) (G.fromI g),vint (G.err g)]):=by
 cases hr:G.right g with
 | false =>
  simp only [G.fromI,G.err,hr];exact FromErr_v g h.1 h.2 hr
 | true =>
  simp only [G.fromI,G.err,hr,if_true];rw [G.right_enc hr];exact From_v _ (G.right_ok hr) (Yo g h hr)
theorem jbQ (g:List (List Int)) (h:Fits g):VPure Tryz.prog 58 [vl (vl vint) g] (.tuple [vl (vl vnat) (G.fromI g),vint (G.err g)]):=by
 cases hr:G.right g with
 | false =>
  simp only [G.fromI,G.err,hr];exact RFromErr_v g h.1 h.2 hr
 | true =>
  simp only [G.fromI,G.err,hr,if_true];rw [G.right_enc hr];exact RFrom_v _ (G.right_ok hr) (rright_nats g h hr)
end Go.Vw
namespace Go.Vw
open Go.Proofs Go.RowKit
attribute [-simp] List.map_set
def jA (x:Nat × List Nat):V := .agg [vnat x.1,vl vnat x.2]
theorem Ka (x:Nat × List Nat):(jA x).cells=[vnat x.1,vl vnat x.2]:=by simp [jA,V.cells]
theorem JZ (x:Nat × List Nat):(jA x).cells.length=2:=by rw [Ka]; rfl
theorem zW (x:Nat × List Nat):(jA x).closed=true:=rfl
theorem jL (f:Nat→Nat) (ls:List (Nat × List Nat)):V.renL f (je jA ls)=je jA ls:=JM zW f ls
theorem jM (p:Nat→Bool) (ls:List (Nat × List Nat)):V.idsL p (je jA ls)=true:=JN zW p ls
theorem zX (f:Nat→Nat) (n:Nat) (b:Bool):V.renL f (List.replicate n (V.bool b))=List.replicate n (V.bool b):=by
 have:=jac f (List.replicate n b);simpa using this
theorem Ja (p:Nat→Bool) (n:Nat) (b:Bool):V.idsL p (List.replicate n (V.bool b))=true:=by
 have:=jaB p (List.replicate n b);simpa using this
theorem few {u t:Nat} (hu:u≤256) (ht:t≤1048576):u*(1048576+1)+t≤1073741824:=by omega
theorem few_len {M:Nat} {inn:List Bool} {td:List Nat} {n:Nat} (h:G.todoM M inn (td++[n])≤1073741824):td.length+1≤1073741824:=by
 simp only [G.todoM,List.length_append,List.length_cons,List.length_nil] at h;have:=Nat.zero_le (G.unmet inn*(M+1));omega
theorem few_less {M:Nat} {inn:List Bool} {td:List Nat} {n:Nat}:G.todoM M inn td<G.todoM M inn (td++[n]):=by
 simp [G.todoM]
def Few (inn:List Bool) (todo:List Nat):Prop:=G.todoM (1048576) inn todo≤1073741824
theorem gLoopsErr_v (g:List (List Int)) (h:Fits g) (hr:G.right g=false):VPure Tryz.prog 25 [vl (vl vint) g] (.tuple [vl jA [],vint 1]):=by
 intro S;have e:G.err g=1:=by simp [G.err,hr]
 refine QB (c:=jd Tryz.f25) Tryz.func25 Tryz.ntmps25 fun hwf=>?_
 repeat first|refine QG ?_|refine QY ?_
 refine QT ?_;refine QP ?_;refine jm rfl (KH g h) ?_;refine QW ?_
 repeat first|refine QG ?_|refine QY ?_ (r:=by conv=>lhs;simp[QV,e])
 exact jh (l:=[]) hwf ((Ghost.tuple [] [vint 1] (Ghost.nils_list _)).toB _) rfl
theorem gLoops_v (g:List (List Nat)) (hg:G.Ok g) (near:List Int) (fr:List (List Nat)) (cn:VPure Tryz.prog 77 [vl (vl vnat) g] (.tuple [vl vint near,vint 0])) (cf:VPure Tryz.prog 78 [vl (vl vnat) g] (.tuple [vl (vl vnat) fr,vint 0]))
  (hnl:near.length=g.length) (hfl:fr.length=g.length) (hfm : ∀ r∈fr,r.length≤1048576) (hfe : ∀ r∈fr, ∀ x∈r,x<g.length) :
  VPure Tryz.prog 25 [vl (vl vnat) g] (.tuple [vl jA (G.loopsTo near fr g.length g.length),vint 0]):=by
 intro S;refine QB (c:=jd Tryz.f25) Tryz.func25 Tryz.ntmps25 fun hwf=>?_
 have hm:=hg.max;have hp:=hg.pos;have hb1:g.length*1≤140737488355328:=by omega
 have hb0:g.length≤140737488355328:=by omega
 repeat first|refine QG ?_|refine QY ?_
 refine QT ?_;refine QP ?_;refine jm rfl (cn) ?_;refine QW ?_
 repeat first|refine QG ?_|refine QY ?_
 refine QT ?_;refine QP ?_;refine jm rfl (cf) ?_;refine QW ?_;refine QT ?_;refine QY ?_;refine qW 8 2 rfl (by conv=>lhs; simp [Fr.set]) ?_
 repeat first|refine QG ?_|refine QY ?_
 refine QT ?_;refine jc [0,4,6,8,32,33] rfl (fun c σ S' => ∃ h:Nat,h≤g.length∧c=g.length-h∧σ=[(0,vl (vl vnat) g),(4,vl vint near),(6,vl (vl vnat) fr),(8, .slice (lid S.nx 0) 0 (G.loopsTo near fr g.length h).length),(32,vnat g.length),(33,vnat h)]∧S'=St S [] [some (2,je jA (G.loopsTo near fr g.length h))]) g.length ?_ ?_
 ·exact ⟨0,by omega,rfl,by simp [Fr.only,G.loopsTo],by simp [G.loopsTo,je]⟩
 ·rintro c σ T ⟨h,hh,rfl,rfl,rfl⟩
  by_cases hht:h<g.length
  ·have hw:IntKind.i64.wrap ((h:Int)+1)=(h:Int)+1:=wrap_i64 (by omega) (by omega);have hhn:h<near.length:=by omega
   have hhf:h<fr.length:=by omega
   have hnd:near.getD h 0=near[h]:=by simp [hhn]
   have hfd:fr.getD h []=fr[h]:=by simp [hhf]
   have hrow:=hfm _ (List.getElem_mem hhf);have hrowe:=hfe _ (List.getElem_mem hhf);have hst:G.loopsTo near fr g.length (h+1)=if (0<h∧near[h]<0)∨G.backs near h fr[h]=[] then G.loopsTo near fr g.length h else G.loopsTo near fr g.length h++[(h,G.picked (G.loopIn fr h (G.backs near h fr[h]) g.length) g.length)]:=by
    simp only [G.loopsTo,hnd,hfd]
   have hlo:=G.loopsTo_len near fr g.length h;generalize G.loopsTo near fr g.length h=ls at *
   by_cases hskip:0<h∧near[h]<0
   ·rw [if_pos (.inl hskip)] at hst;obtain ⟨h1,h2⟩:=hskip;have h1':(0:Int)<(h:Int):=by omega
    repeat first|refine QG ?_|refine QY ?_ (r:=by conv=>lhs;simp[QV,hht,hhn,h1,h1',h2])
    show jp _ _ _ _ _ _ _;exact again ⟨Nat.sub_lt_sub_left hht (Nat.lt_succ_self h),h+1,hht,rfl,by rw [hst]; simp [Fr.only,hw],by rw [hst]⟩
   ·have hge:0<h → ¬ near[h]<0:=fun h1 h2=>hskip ⟨h1,h2⟩
    repeat first|refine QG ?_|refine QY ?_ (r:=by conv=>lhs;simp[QV,hht])
    refine QT ?_;refine jaY (0<h) [0,4,6,8,9,32,33,44] rfl (by conv=>lhs; reduce) (fun hyes=>⟨_,by conv=>lhs; simp [QV,hyes,hhn,(hge hyes)],by conv=>lhs; simp [Fr.only]⟩) (fun hno=>⟨_,by conv=>lhs; simp [QV,hno,hhn],by conv=>lhs; simp [Fr.only]⟩) ?_
    repeat first|refine QG ?_|refine QY ?_ (r:=by conv=>lhs;simp[QV,hb1,hb0,hhf])
    refine qW 11 1 rfl (by conv=>lhs; simp [Fr.set]) ?_
    repeat first|refine QG ?_|refine QY ?_ (r:=by conv=>lhs;simp[QV,hhf])
    generalize hts:G.backs near h fr[h]=ts at *
    have htsl:ts.length≤fr[h].length:=by rw [←hts]; exact List.length_filter_le _ _
    refine QT ?_;refine jc [0,4,6,8,9,10,11,32,33,51,52,53] rfl (fun c σ S' => ∃ (k:Nat) (todo:List Nat),k≤fr[h].length∧c=fr[h].length-k∧todo++G.backs near h (fr[h].drop k)=ts∧σ=[(0,vl (vl vnat) g),(4,vl vint near),(6,vl (vl vnat) fr),(8, .slice (lid S.nx 0) 0 ls.length),(9,vnat h),(10, .slice (lid S.nx 1) 0 g.length),(11, .slice (lid S.nx 2) 0 todo.length),(32,vnat g.length),(33,vnat h),(51,vl vnat fr[h]),(52,vnat fr[h].length),(53,vnat k)]∧S'=St S [] [some (2,je jA ls),some (1,(List.replicate g.length false).map V.bool),some (1,todo.map vnat)]) fr[h].length ?_ ?_
    ·exact ⟨0,[],by omega,rfl,by simpa using hts,by simp [Fr.only],by simp⟩
    ·rintro c σ T ⟨k,todo,hk,rfl,hdo,rfl,rfl⟩;have htdl:todo.length≤ts.length:=by rw [←hdo]; simp
     by_cases hkt:k<fr[h].length
     ·have hwk:IntKind.i64.wrap ((k:Int)+1)=(k:Int)+1:=wrap_i64 (by omega) (by omega);rw [List.drop_eq_getElem_cons hkt] at hdo;generalize hpe:fr[h][k]=p at hdo;have hd:=jaV near h p (by omega)
      repeat first|refine QG ?_|refine QY ?_ (r:=by conv=>lhs;simp[QV,hkt,hpe])
      refine QT ?_;refine QP ?_;refine jm rfl (hd) ?_;refine QW ?_
      cases hb:G.dominates near h p with
      | true =>
       have hc8:(todo.length+1)*8≤140737488355328:=by omega
       have hc1:todo.length+1≤140737488355328:=by omega
       have hdo':(todo++[p])++G.backs near h (fr[h].drop (k+1))=ts:=by
        rw [←hdo]; simp [G.backs,hb]
       repeat first|refine QG ?_|refine QY ?_ (r:=by conv=>lhs;simp[QV,hb,hc8,hc1])
       refine QA [0,1,4] (h2:=by simp [jL,jM,zX,Ja]) (hl:=by conv=>lhs; simp [jL,jM,zX,Ja]) (h:=⟨?_,k+1,todo++[p],hkt,rfl,hdo',by simp [hwk],by simp⟩);omega
      | false =>
       have hdo':todo++G.backs near h (fr[h].drop (k+1))=ts:=by
        rw [←hdo]; simp [G.backs,hb]
       repeat first|refine QG ?_|refine QY ?_ (r:=by conv=>lhs;simp[QV,hb])
       show jp _ _ _ _ _ _ _;exact again ⟨Nat.sub_lt_sub_left hkt (Nat.lt_succ_self k),k+1,todo,hkt,rfl,hdo',by simp [Fr.only,hwk],by simp⟩
     ·have hke:k=fr[h].length:=by omega
      subst hke;simp only [List.drop_length] at hdo;have hts':todo=ts:=by simpa [G.backs] using hdo
      subst hts'
      by_cases hemp:todo=[]
      ·rw [if_pos (.inr hemp)] at hst;subst hemp
       repeat first|refine QG ?_|refine QY ?_ (r:=by conv=>lhs;simp[QV,hkt])
       refine QA [0] (h2:=by simp [jL,jM,zX,Ja]) (hl:=by conv=>lhs; simp [jL,jM,zX,Ja]) (h:=⟨?_,h+1,hht,rfl,by rw [hst]; simp [hw],by rw [hst]⟩);omega
      ·rw [if_neg (by rintro (h1 | h1); exact hskip h1; exact hemp h1)] at hst;have hlen0 : ¬ todo.length=0:=fun e=>hemp (List.eq_nil_of_length_eq_zero e)
       have hlt : ∀ t∈todo,t<g.length:=fun t ht=>hrowe t (by rw [←hts] at ht; exact (List.mem_filter.1 ht).1)
       have hS0:=G.Srch.start (fr:=fr) hht hlt
       repeat first|refine QG ?_|refine QY ?_ (r:=by conv=>lhs;simp[QV,hkt,hlen0,hht])
       have hum:G.unmet ((List.replicate g.length false).set h true)≤g.length:=by
        have:=List.count_le_length (a:=false) (l:=(List.replicate g.length false).set h true);simpa [G.unmet] using this
       have hm0:G.todoM (1048576) ((List.replicate g.length false).set h true) todo≤1073741824:=by
        exact few (by omega) (by omega)
       refine QT ?_;refine jc [0,4,6,8,9,10,11,32,33] rfl (fun c σ S' => ∃ (inn:List Bool) (td:List Nat),G.Srch fr h todo g.length inn td∧c=G.todoM (1048576) inn td∧c≤1073741824∧σ=[(0,vl (vl vnat) g),(4,vl vint near),(6,vl (vl vnat) fr),(8, .slice (lid S.nx 0) 0 ls.length),(9,vnat h),(10, .slice (lid S.nx 1) 0 g.length),(11, .slice (lid S.nx 2) 0 td.length),(32,vnat g.length),(33,vnat h)]∧S'=St S [] [some (2,je jA ls),some (1,inn.map V.bool),some (1,td.map vnat)]) (G.todoM (1048576) ((List.replicate g.length false).set h true) todo) ?_ ?_
       ·exact ⟨_,_,hS0,rfl,hm0,by simp [Fr.only],by simp [List.map_set]⟩
       ·rintro c σ T ⟨inn,td,hS,rfl,hcm,rfl,rfl⟩;have hil:=hS.len;rcases List.eq_nil_or_concat td with rfl | ⟨td,n,rfl⟩
        ·have hie:=G.loopIn_eq hS;rw [←hie] at hst;refine QT ?_;refine QY ?_;refine QT ?_;refine jH rfl rfl rfl ?_;refine QT ?_;refine jQ 4 rfl rfl ?_;refine QT ?_;refine QY ?_
         apply jo
         ·exact Reach.voidCell 1 (k:=3) (i:=1) (by simp) rfl rfl
         simp only [List.cons_append,List.nil_append,List.set_cons_succ,List.set_cons_zero,List.length_cons,List.length_nil,Nat.reduceAdd]
         repeat first|refine QG ?_|refine QY ?_
         refine QT ?_;refine jc [0,4,6,8,15,32,33,102,103,104] rfl (fun c σ S' => ∃ k:Nat,k≤g.length∧c=g.length-k∧σ=[(0,vl (vl vnat) g),(4,vl vint near),(6,vl (vl vnat) fr),(8, .slice (lid S.nx 0) 0 ls.length),(15, .ptr (lid S.nx 3) 0),(32,vnat g.length),(33,vnat h),(102, .slice (lid S.nx 1) 0 g.length),(103,vnat g.length),(104,vnat k)]∧S'=St S [] [some (2,je jA ls),some (1,inn.map V.bool),some (1,[]),some (2,[vnat h, .slice (lid S.nx 4) 0 (G.picked inn k).length]),some (1,(G.picked inn k).map vnat)]) g.length ?_ ?_
         ·exact ⟨0,by omega,rfl,by simp [Fr.only],by simp [G.picked]⟩
         ·rintro c σ T ⟨k,hk,rfl,rfl,rfl⟩;have hpl:=G.picked_len inn k
          by_cases hkt:k<g.length
          ·have hwk:IntKind.i64.wrap ((k:Int)+1)=(k:Int)+1:=wrap_i64 (by omega) (by omega);have hki:k<inn.length:=by omega
           obtain ⟨x,hx⟩ : ∃ x,inn[k]=x:=⟨_,rfl⟩
           have hxd:inn.getD k false=x:=by simp [hki,hx]
           have hps:G.picked inn (k+1)=if x=true then G.picked inn k++[k] else G.picked inn k:=by simp only [G.picked,hxd]
           have hc8:((G.picked inn k).length+1)*8≤140737488355328:=by omega
           have hc1:(G.picked inn k).length+1≤140737488355328:=by omega
           generalize G.picked inn k=pk at *
           cases x with
           | true =>
            repeat first|refine QG ?_|refine QY ?_ (r:=by conv=>lhs;simp[QV,hkt,hki,hx,hc8,hc1])
            refine QA [0,1,2,3,6] (h2:=by simp [jL,jM]) (hl:=by conv=>lhs; simp [jL,jM]) (h:=⟨?_,k+1,hkt,rfl,by simp [hwk],by rw [hps]; simp⟩);omega
           | false =>
            repeat first|refine QG ?_|refine QY ?_ (r:=by conv=>lhs;simp[QV,hkt,hki,hx,hc8,hc1])
            show jp _ _ _ _ _ _ _;exact again ⟨Nat.sub_lt_sub_left hkt (Nat.lt_succ_self k),k+1,hkt,rfl,by simp [Fr.only,hwk],by rw [hps]; simp⟩
          ·have hke:k=g.length:=by omega
           subst hke;generalize G.picked inn g.length=pk at *
           refine QT ?_;refine QY ?_ (r:=by conv=>lhs;simp[QV,hkt]);refine QT ?_;refine jH rfl rfl rfl ?_;refine QT ?_;refine jQ 6 rfl rfl ?_
           apply jo
           ·exact Reach.frzCell (k:=3) (j:=4) (i:=1) (n:=pk.length) (cells':=pk.map vnat) (by omega) (by simp) (by simp) rfl rfl rfl (jF vnat (fun _=>rfl) _) (by simp)
           simp only [List.set_cons_succ,List.set_cons_zero];have hfl2:ls.length*2=(je jA ls).length:=by rw [zm JZ]
           have hc8:(ls.length+1)*32≤140737488355328:=by omega
           have hc1:ls.length+1≤140737488355328:=by omega
           have hsnoc:je jA (ls++[(h,pk)])=je jA ls++[vnat h,V.list (pk.map vnat)]:=by rw [qK,Ka]; rfl
           repeat first|refine QG ?_|refine QY ?_ (r:=by conv=>lhs;simp[QV,hfl2,hc8,hc1,rep0])
           refine QA [6] (h2:=by simp [jL,jM]) (hl:=by conv=>lhs; simp [jL,jM]) (h:=⟨?_,h+1,hht,rfl,by rw [hst]; simp [hw],by rw [hst,hsnoc]; simp⟩);omega
        ·rw [List.concat_eq_append] at *
         have hn:=hS.lt n (by simp);have hni:n<inn.length:=by omega
         have hnf:n<fr.length:=by omega
         have hfn:fr.getD n []=fr[n]:=by simp [hnf]
         have hrn:=hfm _ (List.getElem_mem hnf);have htl:td.length+1≤1073741824:=few_len hcm;have hw1:IntKind.i64.wrap ((td.length:Int)+1-1)=(td.length:Int):=by
          rw [wrap_i64 (by omega) (by omega)]; omega
         have hw2:IntKind.i64.wrap (td.length:Int)=(td.length:Int):=wrap_i64 (by omega) (by omega);have h0:(0:Int)<(td.length:Int)+1:=by omega
         have h1:(td.length:Int)<(td.length:Int)+1:=by omega
         have h2:(td.length:Int)≤(td.length:Int)+1:=by omega
         have hsub : ∀ t∈td,t∈td++[n]:=fun t ht=>by simp [ht]
         have hre : ∀ t∈td++[n],t=n∨t∈td:=fun t ht=>by
          rcases List.mem_append.1 ht with h | h
          ·exact .inr h
          ·simp at h; exact .inl h
         refine QT ?_;refine QY ?_ (r:=by conv=>lhs;simp[QV,h0]);refine QT ?_;refine jG rfl rfl rfl ?_;refine QT ?_;refine jB rfl ?_;refine QT ?_;refine jK 5 rfl rfl ?_;refine QT ?_;refine QY ?_ (r:=by conv=>lhs;simp[QV,hw1,hw2,h0,h1]);refine QT ?_;refine QY ?_ (r:=by conv=>lhs;simp[QV,hw1,hw2,h0,h1,h2]);refine vw_trim 11 td.length rfl (by simp) rfl (by conv=>lhs; simp [List.set_cons_zero,List.set_cons_succ]) ?_;obtain ⟨x,hx⟩ : ∃ x,inn[n]=x:=⟨_,rfl⟩
         have hxd:inn.getD n false=x:=by simp [hni,hx]
         cases x with
         | true =>
          have hS':=hS.seen hxd hsub hre
          repeat first|refine QG ?_|refine QY ?_ (r:=by conv=>lhs;simp[QV,hn,hni,hx])
          refine QA [0,1,2] (h2:=by simp [jL,jM]) (hl:=by conv=>lhs; simp [jL,jM]) (h:=⟨?_,inn,td,hS',rfl,Nat.le_trans (Nat.le_of_lt few_less) hcm,by simp,by simp⟩);exact few_less
         | false =>
          have hS':=hS.take (todo':=td++fr[n]) (by simp) (by rw [hfn]; exact hfe _ (List.getElem_mem hnf)) hxd (fun t ht=>by
           rcases List.mem_append.1 ht with h | h
           ·exact .inl (by simp [h])
           ·exact .inr (by rw [hfn]; exact h)) (fun t ht=>by
           rcases hre t ht with h | h
           ·exact .inl h
           ·exact .inr (by simp [h])) (fun t ht=>by rw [hfn] at ht; simp [ht])
          have hmm:=G.todoM_take (M:=1048576) (todo:=td++[n]) (todo':=td++fr[n]) hni hx hrn (by simp; omega);have hc8:(td.length+fr[n].length)*8≤140737488355328:=by omega
          have hc1:td.length+fr[n].length≤140737488355328:=by omega
          repeat first|refine QG ?_|refine QY ?_ (r:=by conv=>lhs;simp[QV,hn,hni,hx,hnf,jao,nc_vnat,hc8,hc1,flatC_vnat])
          refine QA [0,1,3] (h2:=by simp [jL,jM]) (hl:=by conv=>lhs; simp [jL,jM]) (h:=⟨?_,_,_,hS',rfl,Nat.le_trans (Nat.le_of_lt hmm) hcm,by simp,by simp⟩);exact hmm
  ·have hhe:h=g.length:=by omega
   subst hhe
   repeat first|refine QG ?_|refine QY ?_ (r:=by conv=>lhs;simp[QV,hht])
   exact jh hwf ((Ghost.tuple [] [vint 0] (frzSt (k:=0) JZ zW _ (by simp) rfl)).toB _) rfl
theorem opAppend_off {S:Store} {o off len:Nat} {pre cells:List V} {l:List Nat} (ho:S.get o=some (1,pre++cells)) (hp:pre.length=off) (hl:cells.length=len) (hb:(len+l.length)*8≤140737488355328) (hb1:len+l.length≤140737488355328) :
  jY 1 8 S (.slice o off len) (vl vnat l)=some (.slice S.nx 0 (len+l.length),(S.del o).add (1,cells++l.map vnat)):=by
 subst hp; subst hl;have e1:jU 1 S (vl vnat l)=some (l.map vnat,l.length):=by
  have h1:(l.map vnat).all (fun x=>x.ncells==1)=true:=by simp [vnat,V.ncells]
  have h2:(l.map vnat).flatMap V.cells=l.map vnat:=by
   clear hb hb1 h1
   induction l with
   | nil=>rfl
   | cons x l ih=>simp only [List.map_cons,List.flatMap_cons,ih]; rfl
  simp only [jU,vl,h1,if_true,h2,List.length_map]
 simp [jY,e1,ho,hb,hb1]
theorem rLoopsErr_v (g:List (List Int)) (h:Fits g) (hr:G.right g=false):VPure Tryz.prog 19 [vl (vl vint) g] (.tuple [vl jA [],vint 1]):=by
 intro S;have e:G.err g=1:=by simp [G.err,hr]
 refine QB (c:=jd Tryz.f19) Tryz.func19 Tryz.ntmps19 fun hwf=>?_
 repeat first|refine QG ?_|refine QY ?_
 refine QT ?_;refine QP ?_;refine jm rfl (jbQ g h) ?_;refine QW ?_
 repeat first|refine QG ?_|refine QY ?_ (r:=by conv=>lhs;simp[QV,e])
 exact jh (l:=[]) hwf ((Ghost.tuple [] [vint 1] (Ghost.nils_list _)).toB _) rfl
theorem rLoops_v (g:List (List Nat)) (hg:G.Ok g) (t:List (List Bool)) (fr:List (List Nat)) (ct:VPure Tryz.prog 59 [vl (vl vnat) g] (vl (vl V.bool) t)) (cf:VPure Tryz.prog 58 [vl (vl vnat) g] (.tuple [vl (vl vnat) fr,vint 0]))
  (htl:t.length=g.length) (htr : ∀ a (ha:a<t.length),t[a].length=g.length) (hfl:fr.length=g.length) (hfm : ∀ r∈fr,r.length≤1048576) (hfe : ∀ r∈fr, ∀ x∈r,x<g.length) :
  VPure Tryz.prog 19 [vl (vl vnat) g] (.tuple [vl jA (G.rloopsTo t fr g.length g.length),vint 0]):=by
 intro S;refine QB (c:=jd Tryz.f19) Tryz.func19 Tryz.ntmps19 fun hwf=>?_
 have hm:=hg.max;have hp:=hg.pos;have hb1:g.length*1≤140737488355328:=by omega
 have hb0:g.length≤140737488355328:=by omega
 repeat first|refine QG ?_|refine QY ?_
 refine QT ?_;refine QP ?_;refine jm rfl (cf) ?_;refine QW ?_
 repeat first|refine QG ?_|refine QY ?_
 refine QT ?_;refine QP ?_;refine jm rfl (ct) ?_;refine QW ?_;refine QT ?_;refine QY ?_;refine qW 7 2 rfl (by conv=>lhs; simp [Fr.set]) ?_
 repeat first|refine QG ?_|refine QY ?_
 refine QT ?_;refine jc [0,4,6,7,8] rfl (fun c σ S' => ∃ h:Nat,h≤g.length∧c=g.length-h∧σ=[(0,vl (vl vnat) g),(4,vl (vl vnat) fr),(6,vl (vl V.bool) t),(7, .slice (lid S.nx 0) 0 (G.rloopsTo t fr g.length h).length),(8,vnat h)]∧S'=St S [] [some (2,je jA (G.rloopsTo t fr g.length h))]) g.length ?_ ?_
 ·exact ⟨0,by omega,rfl,by simp [Fr.only,G.rloopsTo],by simp [G.rloopsTo,je]⟩
 ·rintro c σ T ⟨h,hh,rfl,rfl,rfl⟩
  by_cases hht:h<g.length
  ·have hw:IntKind.i64.wrap ((h:Int)+1)=(h:Int)+1:=wrap_i64 (by omega) (by omega);have hhf:h<fr.length:=by omega
   have hhtb:h<t.length:=by omega
   have htrl:=htr h hhtb;have hfd:fr.getD h []=fr[h]:=by simp [hhf]
   have hrow:=hfm _ (List.getElem_mem hhf);have hrowe:=hfe _ (List.getElem_mem hhf);have hst:G.rloopsTo t fr g.length (h+1)=if G.rbacks t h fr[h]=[] then G.rloopsTo t fr g.length h else G.rloopsTo t fr g.length h++[(h,G.picked (G.loopIn fr h (G.rbacks t h fr[h]) g.length) g.length)]:=by
    simp only [G.rloopsTo,hfd]
   have hlo:=G.rloopsTo_len t fr g.length h;generalize G.rloopsTo t fr g.length h=ls at *
   repeat first|refine QG ?_|refine QY ?_ (r:=by conv=>lhs;simp[QV,hht,hb1,hb0])
   refine qW 10 1 rfl (by conv=>lhs; simp [Fr.set]) ?_
   repeat first|refine QG ?_|refine QY ?_
   generalize hts:G.rbacks t h fr[h]=ts at *
   have htsl:ts.length≤fr[h].length:=by rw [←hts]; exact List.length_filter_le _ _
   refine QT ?_;refine jc [0,4,6,7,8,9,10,11] rfl (fun c σ S' => ∃ (k:Nat) (todo:List Nat),k≤fr[h].length∧c=fr[h].length-k∧todo++G.rbacks t h (fr[h].drop k)=ts∧σ=[(0,vl (vl vnat) g),(4,vl (vl vnat) fr),(6,vl (vl V.bool) t),(7, .slice (lid S.nx 0) 0 ls.length),(8,vnat h),(9, .slice (lid S.nx 1) 0 g.length),(10, .slice (lid S.nx 2) 0 todo.length),(11,vnat k)]∧S'=St S [] [some (2,je jA ls),some (1,(List.replicate g.length false).map V.bool),some (1,todo.map vnat)]) fr[h].length ?_ ?_
   ·exact ⟨0,[],by omega,rfl,by simpa using hts,by simp [Fr.only],by simp⟩
   ·rintro c σ T ⟨k,todo,hk,rfl,hdo,rfl,rfl⟩;have htdl:todo.length≤ts.length:=by rw [←hdo]; simp
    by_cases hkt:k<fr[h].length
    ·have hwk:IntKind.i64.wrap ((k:Int)+1)=(k:Int)+1:=wrap_i64 (by omega) (by omega);rw [List.drop_eq_getElem_cons hkt] at hdo;have hpl:=hrowe _ (List.getElem_mem hkt);generalize hpe:fr[h][k]=p at hdo hpl;have hptl:p<t[h].length:=by omega
     obtain ⟨b,hbe⟩ : ∃ b,t[h][p]=b:=⟨_,rfl⟩
     have hb:G.tabAt t h p=b:=by simp [G.tabAt,hhtb,hptl,hbe]
     repeat first|refine QG ?_|refine QY ?_ (r:=by conv=>lhs;simp[QV,hkt,hhf])
     cases b with
     | true =>
      have hc8:(todo.length+1)*8≤140737488355328:=by omega
      have hc1:todo.length+1≤140737488355328:=by omega
      have hdo':(todo++[p])++G.rbacks t h (fr[h].drop (k+1))=ts:=by
       rw [←hdo]; simp [G.rbacks,hb]
      repeat first|refine QG ?_|refine QY ?_ (r:=by conv=>lhs;simp[QV,hkt,hpe,hhf,hhtb,hptl,hbe,hc8,hc1])
      refine QA [0,1,4] (h2:=by simp [jL,jM,zX,Ja]) (hl:=by conv=>lhs; simp [jL,jM,zX,Ja]) (h:=⟨?_,k+1,todo++[p],hkt,rfl,hdo',by simp [hwk],by simp⟩);omega
     | false =>
      have hdo':todo++G.rbacks t h (fr[h].drop (k+1))=ts:=by
       rw [←hdo]; simp [G.rbacks,hb]
      repeat first|refine QG ?_|refine QY ?_ (r:=by conv=>lhs;simp[QV,hkt,hpe,hhf,hhtb,hptl,hbe])
      show jp _ _ _ _ _ _ _;exact again ⟨Nat.sub_lt_sub_left hkt (Nat.lt_succ_self k),k+1,todo,hkt,rfl,hdo',by simp [Fr.only,hwk],by simp⟩
    ·have hke:k=fr[h].length:=by omega
     subst hke;simp only [List.drop_length] at hdo;have hts':todo=ts:=by simpa [G.rbacks] using hdo
     subst hts'
     by_cases hemp:todo=[]
     ·rw [if_pos hemp] at hst;subst hemp
      repeat first|refine QG ?_|refine QY ?_ (r:=by conv=>lhs;simp[QV,hkt,hhf])
      refine QA [0] (h2:=by simp [jL,jM,zX,Ja]) (hl:=by conv=>lhs; simp [jL,jM,zX,Ja]) (h:=⟨?_,h+1,hht,rfl,by rw [hst]; simp [hw],by rw [hst]⟩);omega
     ·rw [if_neg hemp] at hst;have hlen0 : ¬ todo.length=0:=fun e=>hemp (List.eq_nil_of_length_eq_zero e)
      have hlt : ∀ t∈todo,t<g.length:=fun t ht=>hrowe t (by rw [←hts] at ht; exact (List.mem_filter.1 ht).1)
      have hS0:=G.Srch.start (fr:=fr) hht hlt;have hum:G.unmet ((List.replicate g.length false).set h true)≤g.length:=by
       have:=List.count_le_length (a:=false) (l:=(List.replicate g.length false).set h true);simpa [G.unmet] using this
      have hm0:G.todoM (1048576) ((List.replicate g.length false).set h true) todo≤1073741824:=by
       exact few (by omega) (by omega)
      repeat first|refine QG ?_|refine QY ?_ (r:=by conv=>lhs;simp[QV,hkt,hhf,hlen0,hht])
      refine QT ?_;refine jc [0,4,6,7,8,9,10] rfl (fun c σ S' => ∃ (inn:List Bool) (pre td:List Nat),G.Srch fr h todo g.length inn td∧c=G.todoM (1048576) inn td∧c≤1073741824∧σ=[(0,vl (vl vnat) g),(4,vl (vl vnat) fr),(6,vl (vl V.bool) t),(7, .slice (lid S.nx 0) 0 ls.length),(8,vnat h),(9, .slice (lid S.nx 1) 0 g.length),(10, .slice (lid S.nx 2) pre.length td.length)]∧S'=St S [] [some (2,je jA ls),some (1,inn.map V.bool),some (1,pre.map vnat++td.map vnat)]) (G.todoM (1048576) ((List.replicate g.length false).set h true) todo) ?_ ?_
      ·exact ⟨_,[],_,hS0,rfl,hm0,by simp [Fr.only],by simp [List.map_set]⟩
      ·rintro c σ T ⟨inn,pre,td,hS,rfl,hcm,rfl,rfl⟩;have hil:=hS.len
       cases td with
       | nil =>
        have hie:=G.loopIn_eq hS;rw [←hie] at hst;refine QT ?_;refine QY ?_;refine QT ?_;refine jH rfl rfl rfl ?_;refine QT ?_;refine jQ 4 rfl rfl ?_;refine QT ?_;refine QY ?_
        apply jo
        ·exact Reach.voidCell 1 (k:=3) (i:=1) (by simp) rfl rfl
        simp only [List.cons_append,List.nil_append,List.set_cons_succ,List.set_cons_zero,List.length_cons,List.length_nil,Nat.reduceAdd]
        repeat first|refine QG ?_|refine QY ?_
        refine QT ?_;refine jc [0,4,6,7,8,9,13,14] rfl (fun c σ S' => ∃ k:Nat,k≤g.length∧c=g.length-k∧σ=[(0,vl (vl vnat) g),(4,vl (vl vnat) fr),(6,vl (vl V.bool) t),(7, .slice (lid S.nx 0) 0 ls.length),(8,vnat h),(9, .slice (lid S.nx 1) 0 g.length),(13, .ptr (lid S.nx 3) 0),(14,vnat k)]∧S'=St S [] [some (2,je jA ls),some (1,inn.map V.bool),some (1,pre.map vnat),some (2,[vnat h, .slice (lid S.nx 4) 0 (G.picked inn k).length]),some (1,(G.picked inn k).map vnat)]) g.length ?_ ?_
        ·exact ⟨0,by omega,rfl,by simp [Fr.only],by simp [G.picked]⟩
        ·rintro c σ T ⟨k,hk,rfl,rfl,rfl⟩;have hpl:=G.picked_len inn k
         by_cases hkt:k<g.length
         ·have hwk:IntKind.i64.wrap ((k:Int)+1)=(k:Int)+1:=wrap_i64 (by omega) (by omega);have hki:k<inn.length:=by omega
          obtain ⟨x,hx⟩ : ∃ x,inn[k]=x:=⟨_,rfl⟩
          have hxd:inn.getD k false=x:=by simp [hki,hx]
          have hps:G.picked inn (k+1)=if x=true then G.picked inn k++[k] else G.picked inn k:=by simp only [G.picked,hxd]
          have hc8:((G.picked inn k).length+1)*8≤140737488355328:=by omega
          have hc1:(G.picked inn k).length+1≤140737488355328:=by omega
          generalize G.picked inn k=pk at *
          cases x with
          | true =>
           repeat first|refine QG ?_|refine QY ?_ (r:=by conv=>lhs;simp[QV,hkt,hki,hx,hc8,hc1])
           refine QA [0,1,2,3,6] (h2:=by simp [jL,jM]) (hl:=by conv=>lhs; simp [jL,jM]) (h:=⟨?_,k+1,hkt,rfl,by simp [hwk],by rw [hps]; simp⟩);omega
          | false =>
           repeat first|refine QG ?_|refine QY ?_ (r:=by conv=>lhs;simp[QV,hkt,hki,hx,hc8,hc1])
           show jp _ _ _ _ _ _ _;exact again ⟨Nat.sub_lt_sub_left hkt (Nat.lt_succ_self k),k+1,hkt,rfl,by simp [Fr.only,hwk],by rw [hps]; simp⟩
         ·have hke:k=g.length:=by omega
          subst hke;generalize G.picked inn g.length=pk at *
          refine QT ?_;refine QY ?_ (r:=by conv=>lhs;simp[QV,hkt]);refine QT ?_;refine jH rfl rfl rfl ?_;refine QT ?_;refine jQ 6 rfl rfl ?_
          apply jo
          ·exact Reach.frzCell (k:=3) (j:=4) (i:=1) (n:=pk.length) (cells':=pk.map vnat) (by omega) (by simp) (by simp) rfl rfl rfl (jF vnat (fun _=>rfl) _) (by simp)
          simp only [List.set_cons_succ,List.set_cons_zero];have hfl2:ls.length*2=(je jA ls).length:=by rw [zm JZ]
          have hc8:(ls.length+1)*32≤140737488355328:=by omega
          have hc1:ls.length+1≤140737488355328:=by omega
          have hsnoc:je jA (ls++[(h,pk)])=je jA ls++[vnat h,V.list (pk.map vnat)]:=by rw [qK,Ka]; rfl
          repeat first|refine QG ?_|refine QY ?_ (r:=by conv=>lhs;simp[QV,hfl2,hc8,hc1,rep0])
          refine QA [6] (h2:=by simp [jL,jM]) (hl:=by conv=>lhs; simp [jL,jM]) (h:=⟨?_,h+1,hht,rfl,by rw [hst]; simp [hw],by rw [hst,hsnoc]; simp⟩);omega
       | cons n td =>
        have hn:=hS.lt n (by simp);have hni:n<inn.length:=by omega
        have hnf:n<fr.length:=by omega
        have hfn:fr.getD n []=fr[n]:=by simp [hnf]
        have hrn:=hfm _ (List.getElem_mem hnf);have htl:td.length+1≤1073741824:=by
         have:G.todoM (1048576) inn (td++[n])=G.todoM (1048576) inn (n::td):=by simp [G.todoM]
         rw [←this] at hcm;exact few_len hcm
        have h0:(0:Int)<(td.length:Int)+1:=by omega
        have h2:(1:Int)≤(td.length:Int)+1:=by omega
        have hsub : ∀ t∈td,t∈n::td:=fun t ht=>by simp [ht]
        have hre : ∀ t∈n::td,t=n∨t∈td:=fun t ht=>by simpa using ht
        have hless:G.todoM (1048576) inn td<G.todoM (1048576) inn (n::td):=by simp [G.todoM]
        have hpre:(pre.map vnat++(n::td).map vnat)=((pre++[n]).map vnat++td.map vnat):=by simp
        obtain ⟨x,hx⟩ : ∃ x,inn[n]=x:=⟨_,rfl⟩
        have hxd:inn.getD n false=x:=by simp [hni,hx]
        cases x with
        | true =>
         have hS':=hS.seen hxd hsub hre
         repeat first|refine QG ?_|refine QY ?_ (r:=by conv=>lhs;simp[QV,h0,h2,hn,hni,hx])
         show jp _ _ _ _ _ _ _;exact again ⟨hless,inn,pre++[n],td,hS',rfl,Nat.le_trans (Nat.le_of_lt hless) hcm,by simp [Fr.only],by rw [←hpre]; simp⟩
        | false =>
         have hS':=hS.take (todo':=td++fr[n]) (by simp) (by rw [hfn]; exact hfe _ (List.getElem_mem hnf)) hxd (fun t ht=>by
          rcases List.mem_append.1 ht with h | h
          ·exact .inl (by simp [h])
          ·exact .inr (by rw [hfn]; exact h)) (fun t ht=>by
          rcases hre t ht with h | h
          ·exact .inl h
          ·exact .inr (by simp [h])) (fun t ht=>by rw [hfn] at ht; simp [ht])
         have hmm:=G.todoM_take (M:=1048576) (todo:=n::td) (todo':=td++fr[n]) hni hx hrn (by simp; omega);have hc8:(td.length+fr[n].length)*8≤140737488355328:=by omega
         have hc1:td.length+fr[n].length≤140737488355328:=by omega
         have hap:=opAppend_off (S:=St S [] [some (2,je jA ls),some (1,(inn.set n true).map V.bool),some (1,pre.map vnat++V.int .i64 (n:Int)::td.map vnat)]) (o:=lid S.nx 2) (off:=pre.length+1) (len:=td.length) (pre:=pre.map vnat++[vnat n]) (cells:=td.map vnat) (l:=fr[n]) (by simp [jv]) (by simp) (by simp) hc8 hc1
         repeat first|refine QG ?_|refine QY ?_ (r:=by conv=>lhs;simp[QV,h0,h2,hn,hni,hx])
         refine QT ?_;refine QY ?_ (r:=by conv=>lhs;simp[QV,hnf,hap])
         repeat first|refine QG ?_|refine QY ?_
         refine QA [0,1,3] (h2:=by simp [jL,jM]) (hl:=by conv=>lhs; simp [jL,jM]) (h:=⟨?_,_,[],_,hS',rfl,Nat.le_trans (Nat.le_of_lt hmm) hcm,by simp,by simp⟩);exact hmm
  ·have hhe:h=g.length:=by omega
   subst hhe
   repeat first|refine QG ?_|refine QY ?_ (r:=by conv=>lhs;simp[QV,hht])
   exact jh hwf ((Ghost.tuple [] [vint 0] (frzSt (k:=0) JZ zW _ (by simp) rfl)).toB _) rfl
end Go.Vw
namespace Go.Vw
open Go.Proofs Go.RowKit
namespace G
theorem JX (near:List Int) (fr:List (List Nat)) (N:Nat) : ∀ k, ∀ x∈loopsTo near fr N k,x.2.length≤N
 | 0,x,h=>by simp [loopsTo] at h
 | k+1,x,h=>by
  simp only [loopsTo] at h;split at h
  ·exact JX near fr N k x h
  ·rcases List.mem_append.1 h with h | h
   ·exact JX near fr N k x h
   ·simp at h;rw [h];exact picked_len _ N
noncomputable def loopsI (g:List (List Int)):List (Nat × List Nat):=if right g then loopsTo (rNear (nats g)) (froms (nats g)) (nats g).length (nats g).length else []
theorem loopsI_len (g:List (List Int)):(loopsI g).length≤256:=by
 simp only [loopsI];split
 ·rename_i h;have:=(right_ok h).max;have:=loopsTo_len (rNear (nats g)) (froms (nats g)) (nats g).length (nats g).length;omega
 ·simp
theorem loopsI_nodes (g:List (List Int)) : ∀ x∈loopsI g,x.2.length≤256:=by
 simp only [loopsI];split
 ·rename_i h;have h1:=(right_ok h).max;intro x hx;have:=JX _ _ _ _ x hx;omega
 ·simp
theorem froms_few {g:List (List Nat)} (hg:Ok g) : ∀ r∈froms g,r.length≤1048576:=by
 intro r hr;have k1:=Wi _ _ r hr;have k2:=edges_len hg.row 0;have k3:=hg.max;rw [total_rep] at k1;omega
theorem froms_lt {g:List (List Nat)} (hg:Ok g) : ∀ r∈froms g, ∀ x∈r,x<g.length:=by
 intro r hr x hx;obtain ⟨i,hi,rfl⟩:=List.getElem_of_mem hr;have hig:i<g.length:=by rw [froms_length] at hi; exact hi
 have:=(mem_froms hg i x hig).1 (by simpa [hi] using hx);exact this.1
end G
theorem LoopsAll_v (g:List (List Int)) (h:Fits g):VPure Tryz.prog 25 [vl (vl vint) g] (.tuple [vl jA (G.loopsI g),vint (G.err g)]):=by
 cases hr:G.right g with
 | false =>
  simp only [G.loopsI,G.err,hr];exact gLoopsErr_v g h hr
 | true =>
  have c1:=KH g h;have c2:=FromAll_v g h;simp only [G.loopsI,G.nearI,G.fromI,G.err,hr,if_true] at c1 c2 ⊢;rw [G.right_enc hr] at c1 c2 ⊢;have hg:=G.right_ok hr;exact gLoops_v (G.nats g) hg _ _ c1 c2 (G.rNear_ok hg).len (G.froms_length _) (G.froms_few hg) (G.froms_lt hg)
theorem RLoopsAll_v (g:List (List Int)) (h:Fits g):VPure Tryz.prog 19 [vl (vl vint) g] (.tuple [vl jA (G.loopsI g),vint (G.err g)]):=by
 cases hr:G.right g with
 | false =>
  simp only [G.loopsI,G.err,hr];exact rLoopsErr_v g h hr
 | true =>
  have c2:=jbQ g h;simp only [G.loopsI,G.fromI,G.err,hr,if_true] at c2 ⊢;rw [G.right_enc hr] at c2 ⊢;have hg:=G.right_ok hr;rw [←G.loops_eq hg _ (Nat.le_refl _)];refine rLoops_v (G.nats g) hg _ _ (Table_v _ hg) c2 ?_ ?_ (G.froms_length _) (G.froms_few hg) (G.froms_lt hg)
  ·simp [G.table]
  ·intro a ha;simp only [G.table,G.tableRow,List.getElem_map];split<;>simp
end Go.Vw
namespace Ss
open Go.Vw.G
def tabOf (hm:List Int) (v:Int):Int:=hm.getD v.toNat 0
theorem licTo_more {e:Env} {f:Fn} (h:check e f=true) {k:Nat} (hk:wt f<k) (j:Nat):KB (k+j) f=KB k f:=by
 have add : ∀ (k:Nat) (f:Fn),KB (k+j) f=KB j (KB k f):=by
  intro k
  induction k with
  | zero=>intro f; rw [Nat.zero_add]; rfl
  | succ k ih =>
   intro f;rw [show k+1+j=k+j+1 by omega]
   cases hf:first f.blocks (homeOf f) (lps f.blocks) with
   | none=>rw [Jl _ hf,Jl _ hf,Jl _ hf]
   | some m =>
    obtain ⟨p,n,i⟩:=m;rw [WN _ hf,WN _ hf,ih]
 rw [add,Jl _ (lic_end k f h hk)]
theorem jau {e:Env} {f:Fn} (h:check e f=true) {p n i:Nat} (hf:first f.blocks (homeOf f) (lps f.blocks)=some (p,n,i)):licF (moved f p n i)=licF f:=by
 obtain ⟨h1,h2,h3⟩:=ZS h hf;unfold licF;rw [WN _ hf];obtain ⟨j,hj⟩ : ∃ j,wt f=wt (moved f p n i)+1+j:=⟨wt f-(wt (moved f p n i)+1),by omega⟩
 rw [hj];exact (licTo_more h1 (Nat.lt_succ_self _) j).symm
structure LOk (e:Env) (f g:Fn) (hm:List Int):Prop where
 chk:check e g=true
 fits:g.Fits
 fin:licF g=licF f
 sig:g.sig=f.sig
 types:g.types=f.types
 succs:Ss.succs g.blocks=Ss.succs f.blocks
 len:hm.length=f.types.length
 home : ∀ v∈allL g.blocks,tabOf hm v=homeOf g v
theorem LOk.first {e:Env} {f g:Fn} {hm:List Int} (h:LOk e f g hm):Ss.first g.blocks (tabOf hm) (lps f.blocks)=Ss.first g.blocks (homeOf g) (lps g.blocks):=by
 have e1:lps g.blocks=lps f.blocks:=by unfold lps; rw [h.succs]
 rw [e1];refine Wm (fun n x hx a ha => ?_) _;have hb:g.blocks.getD n default∈g.blocks∨g.blocks.getD n default=default:=by
  rw [List.getD_eq_getElem?_getD]
  cases hn:g.blocks[n]? with
  | none=>exact .inr rfl
  | some b=>exact .inl (List.mem_of_getElem? hn)
 rcases hb with hb | hb
 ·exact h.home a (arg_made h.chk _ hb x hx a ha)
 ·rw [hb] at hx
  cases hx
theorem LOk.start {e:Env} {f:Fn} (h:check e f=true) (hf:f.Fits):LOk e f f (homesI f):=⟨h,hf,rfl,rfl,rfl,rfl,homesI_len f,fun v hv=>homes_home h v hv⟩
theorem LOk.end {e:Env} {f g:Fn} {hm:List Int} (h:LOk e f g hm) (hf:Ss.first g.blocks (tabOf hm) (lps f.blocks)=none):g=licF f:=by
 rw [h.first] at hf;have:=Jl (wt g+1) hf;rw [←h.fin]; exact this.symm
theorem LOk.step {e:Env} {f g:Fn} {hm:List Int} (h:LOk e f g hm) {p n i:Nat} (hf:Ss.first g.blocks (tabOf hm) (lps f.blocks)=some (p,n,i)) :
  ∃ (hp:p<g.blocks.length) (hn:n<g.blocks.length) (hi:i<g.blocks[n].code.length) (o:Nat),p≠n∧g.blocks[n].code[i].outs=[(o:Int)]∧o<hm.length∧moveAt g.blocks p n i=(g.blocks.set n (cutAt g.blocks[n] i)).set p (endWith g.blocks[p] g.blocks[n].code[i])∧LOk e f (moved g p n i) (hm.set o (p:Int))∧wt (moved g p n i)<wt g:=by
 rw [h.first] at hf;obtain ⟨bp,bn,x,hm',hx,hc,hr⟩:=ZA h.chk hf;obtain ⟨s1,s2,s3⟩:=ZS h.chk hf;have hd:=check_dok h.chk;obtain ⟨hp,ep⟩:=List.getElem?_eq_some_iff.1 hm'.hp;obtain ⟨hn,en⟩:=List.getElem?_eq_some_iff.1 hm'.hn;obtain ⟨hi,ei⟩:=List.getElem?_eq_some_iff.1 hm'.hi;have hbm:bn∈g.blocks:=List.mem_of_getElem? hm'.hn;have hxm:x∈bn.code:=List.mem_of_getElem? hm'.hi;obtain ⟨o,ho⟩:=hd.one bn hbm x hxm hx;have hoi:=hd.outs bn hbm x hxm o (by rw [ho]; simp);rw [h.types] at hoi;have heq:=hm'.eq;subst en;subst ep;subst ei;refine ⟨hp,hn,hi,o.toNat,hm'.ne,by rw [ho]; congr 1; have:=hoi.1; omega,by rw [h.len]; have:=hoi.1; have:=hoi.2; omega,heq, ?_,s3⟩;refine ⟨s1,ZT h.chk h.fits hf,(jau h.chk hf).trans h.fin,h.sig,h.types,s2.trans h.succs,by rw [List.length_set]; exact h.len,fun v hv => ?_⟩;have hv2:v∈allL g.blocks:=hm'.all.mem_iff.1 hv;have hvi:=all_in hd v hv2;rw [h.types] at hvi
 rw [move_home h.chk hm' s1 v hv2,ho];unfold tabOf
 by_cases e1:v=o
 ·subst e1;rw [if_pos (by simp),List.getD_eq_getElem?_getD,List.getElem?_set_self (by rw [h.len]; have:=hvi.1; have:=hvi.2; omega)]; rfl
 ·rw [if_neg (by simpa using e1),List.getD_eq_getElem?_getD,List.getElem?_set_ne (by have:=hvi.1; have:=hoi.1; omega), ←List.getD_eq_getElem?_getD];exact h.home v hv2
end Ss
namespace Ss
def rDefB (d:Def):Int:=if d.made then d.block else -1
def madeI (f:Fn):List Int:=((defsOf f).getD []).map rDefB
end Ss
namespace Go.Vw
open Go.Proofs Go.RowKit
attribute [-simp] List.map_set
theorem RMade_v (f:Ss.Fn) (hf:f.Fits) (hts:f.types.length≤1048576) {ds:List Ss.Def} (hds:Ss.defsOf f=some ds) (hdl:ds.length=f.types.length):VPure Tryz.prog 62 [ql f] (vl vint (ds.map Ss.rDefB)):=by
 intro S;have cd:=Defs_v f hf hts;rw [hds] at cd;rw [←hdl] at hts;clear hds hdl hf;obtain ⟨⟨fi,fo⟩,ts,bs⟩:=f;have cd':VPure Tryz.prog 44 [.agg [vl vint fi,vl vint fo,vl vint ts,vl jb bs]] (.tuple [vl jV ds, .bool true]):=cd;refine QB (c:=jd Tryz.f62) Tryz.func62 Tryz.ntmps62 fun hwf=>?_
 refine QT ?_;refine QY ?_;refine QH 1 0 ?_;refine QT ?_;refine QP ?_;refine QL (cd') ?_;refine QW ?_;refine QO [3] ?_;refine QK [] ?_;refine QT ?_;refine QY ?_;refine qW 5 1 rfl (by conv=>lhs; simp [Fr.set]) ?_
 repeat first|refine QG ?_|refine QY ?_
 refine QT ?_;refine jc [3,5,6] rfl (fun c σ S' => ∃ (k:Nat) (out:List Int),k≤ds.length∧out=(ds.take k).map Ss.rDefB∧out.length=k∧c=ds.length-k∧σ=[(3,vl jV ds),(5, .slice (lid S.nx 0) 0 k),(6,vnat k)]∧S'=St S [] [some (1,out.map vint)]) ds.length ?_ ?_
 ·exact ⟨0,[],by omega,rfl,rfl,rfl,by simp [Fr.only,Fr.look],by simp⟩
 ·rintro c σ T ⟨k,out,hk,hout,hol,rfl,rfl,rfl⟩
  by_cases hkt:k<ds.length
  ·have hw:=ji hkt (by omega);have hxi : ∀ S',qj 2 S' (vl jV ds) (V.int .i64 (k:Int))=some (.ref (jV ds[k])):=fun S'=>Jx rfl (by rw [List.getElem?_eq_getElem hkt])
   have hd1:out++[Ss.rDefB ds[k]]=(ds.take (k+1)).map Ss.rDefB:=by
    rw [List.take_add_one,List.getElem?_eq_getElem hkt,List.map_append, ←hout]; rfl
   generalize ds[k]=d at hxi hd1;have he:jV d = .agg [vint (Ss.rDefB d),vint (if d.made then d.pos else 0)]:=rfl;rw [he] at hxi;generalize Ss.rDefB d=q at *
   subst hol;have hb8:(out.length+1)*8≤140737488355328:=by omega
   have hb1:out.length+1≤140737488355328:=by omega
   repeat first|refine QG ?_|refine QY ?_ (r:=by conv=>lhs;simp[QV,hkt,hxi,hw,hb8,hb1])
   refine QA [2] (h:=⟨?_,out.length+1,out++[q],hkt,hd1,by simp,rfl,by simp [Fr.only,Fr.look],by simp⟩);omega
  ·have hke:k=ds.length:=by omega
   subst hke;rw [List.take_length] at hout;rw [←hout]
   repeat first|refine QG ?_|refine QY ?_ (r:=by conv=>lhs;simp[QV,hkt])
   exact jh hwf ((frz1 (by simp) (by rfl) (jF vint (fun _=>rfl) _) (by simpa using hol)).toB _) rfl
end Go.Vw
namespace Ss
def rHome (ds:List Def) (v:Int):Int:=(ds.map rDefB).getD v.toNat 0
end Ss
namespace Go.Vw
open Go.Proofs Go.RowKit
end Go.Vw
