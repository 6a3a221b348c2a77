import Derived.Test.YtenhhokhkkfgbaaGreatC32
/- Part of the proof. -/
set_option linter.unusedVariables false
set_option linter.unusedSimpArgs false
set_option maxRecDepth 10000
set_option maxHeartbeats 16000000
namespace Ss
structure RForm where
 inn:List Int
 outs:List Int
 ok:Bool
deriving DecidableEq,Inhabited
def rformMem (op n:Int):RForm :=
 if op=257 then ⟨[127],[],decide (n<=8589934592)⟩
 else match accOf op with
  | some a=>if a.store then ⟨[127,a.kind],[],decide (n<4294967296)⟩ else ⟨[127],[a.kind],decide (n<4294967296)⟩
  | none=>if op=63 then ⟨[],[127],decide (n=0)⟩ else if op=64 then ⟨[127],[127],decide (n=0)⟩ else ⟨[],[],false⟩
def rformEnv (e:Env) (op n:Int):RForm :=
 if op=35\/op=36 then (if n<e.globals.length then (if op=35 then ⟨[],[e.globals.getD n.toNat 0],true⟩ else ⟨[e.globals.getD n.toNat 0],[],e.muts.getD n.toNat false⟩) else ⟨[],[],false⟩)
 else if op=16 then (if n<e.sigs.length then ⟨(e.sigs.getD n.toNat default).inn,(e.sigs.getD n.toNat default).out,true⟩ else ⟨[],[],false⟩)
 else if e.mem then rformMem op n else ⟨[],[],false⟩
def rform (e:Env) (op n out:Int):RForm :=
 if op=256 then ⟨[],[out],decide (out=126)||(decide (out=127)&&decide (n<4294967296))⟩
 else if op=258 then ⟨[],[],decide (n=0)⟩
 else match numSig op with
  | (l,t,true)=>⟨l,[t],decide (n=0)⟩
  | _=>if op=27 then ⟨[out,out,127],[out],decide (n=0)⟩ else rformEnv e op n
end Ss
namespace Go.Vw
open Go.Proofs Go.RowKit
attribute [-simp] List.map_set
def rformV (r:Ss.RForm):V := .tuple [vl vint r.inn,vl vint r.outs, .bool r.ok]
theorem Form_v (e:Ss.Env) (x:Ss.Ins) (out:Int) (hsl:e.sigs.length<=140737488355328) (hgl:e.globals.length<=140737488355328) (hml:e.muts.length=e.globals.length) (hx:x.Fits) :
  bS 81 [qL e,jp x,vint out] (rformV (Ss.rform e x.op x.n out)):=by
 intro S;obtain ⟨sg,im,gl,mu,me⟩:=e;obtain ⟨op,n,xa,xo⟩:=x;obtain ⟨ho,⟨h0,hn64⟩,_⟩:=hx;simp only at hsl hgl hml h0 ho hn64 ⊢;obtain ⟨m,rfl⟩ : ∃ m:Nat,n=m:=⟨n.toNat,by omega⟩
 have hns:=KG op;have hac:=Yd op;have hfi:=jbe out (m:Int);have hcg:IntKind.u64.wrap (gl.length:Int)=(gl.length:Int):=bO;have hcs:IntKind.u64.wrap (sg.length:Int)=(sg.length:Int):=bO;have hz:decide ((m:Int)=0)=decide (m=0):=by simp
 unfold Ss.rform;rw [hz];generalize (decide (out=126)||(decide (out=127)&&decide ((m:Int)<4294967296)))=fi at *
 generalize hsg:Ss.numSig op=sgv at *
 obtain ⟨l,t,b⟩:=sgv;generalize hak:((Ss.accOf op).getD ⟨0,0,false,false⟩).kind=ak at *
 generalize hast:((Ss.accOf op).getD ⟨0,0,false,false⟩).store=ast at *
 generalize ((Ss.accOf op).getD ⟨0,0,false,false⟩).width=aw at *
 generalize his:(Ss.accOf op).isSome=ais at *
 simp only at hns;refine QB (c:=jc Tryz.f81) Tryz.func81 Tryz.ntmps81 fun hwf=>?_
 refine bw ?_
 refine QP ?_;refine QL (hns) ?_;refine QW ?_;refine QP ?_;refine QL (hac) ?_;refine QW ?_
 by_cases h1:op=256
 ·rw [if_pos h1]
  refine bx h1 ?_
  refine QP ?_;refine QL (hfi) ?_;refine bQ ?_
  exact jf hwf (((Ghost.tuple [] [_,_] (Ghost.nils_list _)).trans (Ghost.tuple [_] [_] (frz1 (k:=2) (by simp) (by rfl) (by rfl) (by rfl)))).toB _) rfl
 rw [if_neg h1]
 by_cases h2:op=258
 ·rw [if_pos h2]
  refine bt h1 h2 ?_
  exact jf hwf (((Ghost.tuple [] [_,_] (Ghost.nils_list _)).trans (Ghost.tuple [_] [_] (Ghost.nils_list _))).toB _) rfl
 rw [if_neg h2]
 by_cases hb:b=true
 ·subst hb;simp only
  refine bt h1 h2 ?_
  refine QT ?_;refine QJ (St S [] [some (5,[vl jm sg,vint im,vl vint gl,vl V.bool mu, .bool me]),some (4,[vint op, .int .u64 (m:Int),vl vint xa,vl vint xo])]) (St S [] [some (5,[vl jm sg,vint im,vl vint gl,vl V.bool mu, .bool me]),some (4,[vint op, .int .u64 (m:Int),vl vint xa,vl vint xo])]) [] ?_ (r:=by conv=>lhs; simp [QV,h1]);refine QI ?_ (r:=by conv=>lhs;simp[QV,h1]);refine bB h1 ?_;refine bR ?_
  exact jf hwf ((Ghost.tuple [_] [_] (frz1 (k:=2) (by simp) (by rfl) (by rfl) (by rfl))).toB _) rfl
 obtain rfl:b=false:=by simpa using hb
 simp only
 by_cases h3:op=27
 ·rw [if_pos h3];subst h3
  refine bt h1 h2 ?_
  refine QT ?_;refine Yj (σm := ?sma) (Sm := ?Sma) (ZZ.mk _ (St S [] [some (5,[vl jm sg,vint im,vl vint gl,vl V.bool mu, .bool me]),some (4,[.int .i64 27, .int .u64 (m:Int),vl vint xa,vl vint xo])]) (St S [] [some (5,[vl jm sg,vint im,vl vint gl,vl V.bool mu, .bool me]),some (4,[.int .i64 27, .int .u64 (m:Int),vl vint xa,vl vint xo])]) []) 2 4 [0,1,2,3,4,5,6,7,8,9,10] [0,1,3,4,2,5,6,7,8,9,10] rfl (by kernel_rfl) (by conv=>lhs; reduce) (by kernel_rfl) (by decide) (by kernel_rfl) (by kernel_rfl) (by kernel_rfl) (by kernel_rfl) (by kernel_rfl) (by kernel_rfl) rfl (Kl (by simp [subU,shpU,subL,shpL])) (Store.sub_refl _) (by conv=>lhs; reduce) (by conv=>lhs; reduce) ?H1a ?H2a ?H3a
  case H1a =>
   refine QZ ?_;refine QI ?_;refine QZ ?_;refine QI ?_;refine QW ?_;refine zM [6,7,8] (Eq.trans (b := ?_) ?_ rfl)
   rotate_left
   conv=>lhs; simp [Fr.only,Fr.look]
  case H2a =>
   refine QZ ?_;refine QI ?_;refine QI ?_;refine QW ?_;exact Jf [6,7,8] [0,1,3,2] (by conv=>lhs; simp [Fr.only,Fr.look]) hwf (by decide) (by simp) (by conv=>lhs; simp) (by conv=>lhs; simp) (by conv=>lhs; simp)
  refine bw ?_
  exact jf hwf (((Ghost.tuple [] [_,_] (frz1 (k:=2) (by simp) (by rfl) (by rfl) (by rfl))).trans (Ghost.tuple [_] [_] (frz1 (k:=3) (by simp) (by rfl) (by rfl) (by rfl)))).toB _) rfl
 rw [if_neg h3];unfold Ss.rformEnv;simp only
 by_cases h4:op=35\/op=36
 ·rw [if_pos h4]
  by_cases h5:m<gl.length
  case neg =>
   have h5' : ¬ (m:Int)<(gl.length:Int):=by omega
   have h5n:(gl.length:Int)<=(m:Int):=by omega
   rw [if_neg h5']
   by_cases h6:op=35
   ·repeat first|refine QG ?_|refine QY ?_ (r:=by conv=>lhs;simp[QV,h1,h2,h3,h6,hcg,h5,h5n])
    exact jf hwf (((Ghost.tuple [] [_,_] (Ghost.nils_list _)).trans (Ghost.tuple [_] [_] (Ghost.nils_list _))).toB _) rfl
   ·have h7:op=36:=by omega
    repeat first|refine QG ?_|refine QY ?_ (r:=by conv=>lhs;simp[QV,h1,h2,h3,h6,h7,hcg,h5,h5n])
    exact jf hwf (((Ghost.tuple [] [_,_] (Ghost.nils_list _)).trans (Ghost.tuple [_] [_] (Ghost.nils_list _))).toB _) rfl
  have h5':(m:Int)<(gl.length:Int):=by omega
  have h5n : ¬ (gl.length:Int)<=(m:Int):=by omega
  have hgd:gl.getD (m:Int).toNat 0=gl[m]:=by simp [h5]
  have hm:m<mu.length:=by omega
  obtain ⟨b,hb⟩ : ∃ b,mu[m]=b:=⟨_,rfl⟩
  have hmd:mu.getD (m:Int).toNat false=b:=by simp [hm,hb]
  rw [if_pos h5',hgd,hmd]
  by_cases h6:op=35
  ·rw [if_pos h6]
   repeat first|refine QG ?_|refine QY ?_ (r:=by conv=>lhs;simp[QV,h1,h2,h3,h6,hcg,h5,h5n])
   exact jf hwf (((Ghost.tuple [] [_,_] (Ghost.nils_list _)).trans (Ghost.tuple [_] [_] (frz1 (k:=2) (by simp) (by rfl) (by rfl) (by rfl)))).toB _) rfl
  ·have h7:op=36:=by omega
   rw [if_neg h6]
   repeat first|refine QG ?_|refine QY ?_ (r:=by conv=>lhs;simp[QV,h1,h2,h3,h6,h7,hcg,h5,h5n,hm,hb])
   exact jf hwf (((Ghost.tuple [] [_,_] (frz1 (k:=2) (by simp) (by rfl) (by rfl) (by rfl))).trans (Ghost.tuple [_] [_] (Ghost.nils_list _))).toB _) rfl
 rw [if_neg h4];have h6 : ¬ op=35:=fun h=>h4 (.inl h)
 have h7 : ¬ op=36:=fun h=>h4 (.inr h)
 by_cases h8:op=16
 ·rw [if_pos h8]
  by_cases h5:m<sg.length
  case neg =>
   have h5' : ¬ (m:Int)<(sg.length:Int):=by omega
   have h5n:(sg.length:Int)<=(m:Int):=by omega
   rw [if_neg h5']
   repeat first|refine QG ?_|refine QY ?_ (r:=by conv=>lhs;simp[QV,h1,h2,h3,h6,h7,h8,hcs,h5,h5n])
   exact jf hwf (((Ghost.tuple [] [_,_] (Ghost.nils_list _)).trans (Ghost.tuple [_] [_] (Ghost.nils_list _))).toB _) rfl
  have h5':(m:Int)<(sg.length:Int):=by omega
  have h5n : ¬ (sg.length:Int)<=(m:Int):=by omega
  obtain ⟨⟨a,b⟩,hab⟩ : ∃ x,sg[m]=x:=⟨_,rfl⟩
  have hgd:sg.getD (m:Int).toNat default=⟨a,b⟩:=by simp [h5,hab]
  rw [if_pos h5',hgd]
  repeat first|refine QG ?_|refine QY ?_ (r:=by conv=>lhs;simp[QV,h1,h2,h3,h6,h7,h8,hcs,h5,h5n,hab])
  exact ja hwf (by simp [rformV,vl]) rfl
 rw [if_neg h8]
 by_cases hme:me=true
 case neg =>
  have hme':me=false:=by simpa using hme
  rw [if_neg hme]
  repeat first|refine QG ?_|refine QY ?_ (r:=by conv=>lhs;simp[QV,h1,h2,h3,h6,h7,h8,hme'])
  exact jf hwf (((Ghost.tuple [] [_,_] (Ghost.nils_list _)).trans (Ghost.tuple [_] [_] (Ghost.nils_list _))).toB _) rfl
 subst hme;rw [if_pos rfl];unfold Ss.rformMem;rw [hz]
 by_cases k1:op=257
 ·rw [if_pos k1];subst k1
  refine bz h1 h2 h3 h6 h7 h8 ?_
  refine QT ?_;refine QJ (St S [] [some (5,[vl jm sg,vint im,vl vint gl,vl V.bool mu, .bool true]),some (4,[.int .i64 257, .int .u64 (m:Int),vl vint xa,vl vint xo])]) (St S [] [some (5,[vl jm sg,vint im,vl vint gl,vl V.bool mu, .bool true]),some (4,[.int .i64 257, .int .u64 (m:Int),vl vint xa,vl vint xo])]) [] ?_ (r:=by conv=>lhs; simp [QV,h1]);refine QI ?_ (r:=by conv=>lhs;simp[QV,h1]);refine bB h1 ?_;refine bR ?_
  exact jf hwf (((Ghost.tuple [] [_,_] (frz1 (k:=2) (by simp) (by rfl) (by rfl) (by rfl))).trans (Ghost.tuple [_] [_] (Ghost.nils_list _))).toB _) rfl
 rw [if_neg k1]
 cases hf:Ss.accOf op with
 | some a =>
  obtain ⟨b1,b2,b3,b4⟩:=a;rw [hf] at his hak hast;simp only [Option.isSome_some,aS] at his hak hast;subst his hak hast;simp only;generalize hz4:decide ((m:Int)<4294967296)=z4 at *
  by_cases k2:b3=true
  ·subst k2;rw [if_pos rfl]
   repeat first|refine QG ?_|refine QY ?_ (r:=by conv=>lhs;simp[QV,h1,h2,h3,h6,h7,h8,k1,hz4])
   refine QT ?_;refine QJ (St S [] [some (5,[vl jm sg,vint im,vl vint gl,vl V.bool mu, .bool true]),some (4,[vint op, .int .u64 (m:Int),vl vint xa,vl vint xo])]) (St S [] [some (5,[vl jm sg,vint im,vl vint gl,vl V.bool mu, .bool true]),some (4,[vint op, .int .u64 (m:Int),vl vint xa,vl vint xo])]) [] ?_ (r:=by conv=>lhs; simp [QV,h1]);refine QI ?_ (r:=by conv=>lhs;simp[QV,h1,hz4]);refine bF h1 hz4 ?_;refine bR ?_
   exact jf hwf (((Ghost.tuple [] [_,_] (frz1 (k:=2) (by simp) (by rfl) (by rfl) (by rfl))).trans (Ghost.tuple [_] [_] (Ghost.nils_list _))).toB _) rfl
  ·rw [if_neg k2];obtain rfl:b3=false:=by simpa using k2
   repeat first|refine QG ?_|refine QY ?_ (r:=by conv=>lhs;simp[QV,h1,h2,h3,h6,h7,h8,k1,hz4])
   refine QT ?_;refine Yj (σm := ?smb) (Sm := ?Smb) (ZZ.mk _ (St S [] [some (5,[vl jm sg,vint im,vl vint gl,vl V.bool mu, .bool true]),some (4,[vint op, .int .u64 (m:Int),vl vint xa,vl vint xo])]) (St S [] [some (5,[vl jm sg,vint im,vl vint gl,vl V.bool mu, .bool true]),some (4,[vint op, .int .u64 (m:Int),vl vint xa,vl vint xo])]) []) 0 2 [0,1,2,3,4,5,6,7,8] [1,2,0,3,4,5,6,7,8] rfl (by kernel_rfl) (by conv=>lhs; reduce) (by kernel_rfl) (by decide) (by kernel_rfl) (by kernel_rfl) (by kernel_rfl) (by kernel_rfl) (by kernel_rfl) (by kernel_rfl) rfl (Kl (by simp [subU,shpU,subL,shpL])) (Store.sub_refl _) (by conv=>lhs; reduce) (by conv=>lhs; reduce) ?H1b ?H2b ?H3b
   case H1b =>
    refine bF h1 hz4 ?_;refine QI ?_;refine bB hz4 ?_;refine QI ?_;refine bB hz4 ?_;refine QN ?_;refine zM [6,7,8] (Eq.trans (b := ?_) ?_ rfl)
    rotate_left
    conv=>lhs; simp [Fr.only,Fr.look]
   case H2b =>
    refine bF h1 hz4 ?_;refine QI ?_;refine QI ?_;refine bB hz4 ?_;refine QN ?_;exact Jf [6,7,8] [0,1,3,2] (by conv=>lhs; simp [Fr.only,Fr.look]) hwf (by decide) (by simp) (by conv=>lhs; simp) (by conv=>lhs; simp) (by conv=>lhs; simp)
   refine bw ?_
   exact jf hwf (((Ghost.tuple [] [_,_] (frz1 (k:=2) (by simp) (by rfl) (by rfl) (by rfl))).trans (Ghost.tuple [_] [_] (frz1 (k:=3) (by simp) (by rfl) (by rfl) (by rfl)))).toB _) rfl
 | none =>
  rw [hf] at his hak hast;simp only [Option.isSome_none,Option.getD_none] at his hak hast;subst his hak hast;simp only
  by_cases k2:op=63
  ·rw [if_pos k2];subst k2
   repeat first|refine QG ?_|refine QY ?_ (r:=by conv=>lhs;simp[QV,h1,h2,h3,h6,h7,h8,k1])
   refine QT ?_;refine QJ (St S [] [some (5,[vl jm sg,vint im,vl vint gl,vl V.bool mu, .bool true]),some (4,[.int .i64 63, .int .u64 (m:Int),vl vint xa,vl vint xo])]) (St S [] [some (5,[vl jm sg,vint im,vl vint gl,vl V.bool mu, .bool true]),some (4,[.int .i64 63, .int .u64 (m:Int),vl vint xa,vl vint xo])]) [] ?_ (r:=by conv=>lhs; simp [QV,h1]);refine QI ?_ (r:=by conv=>lhs;simp[QV,h1]);refine bB h1 ?_;refine bR ?_
   exact jf hwf (((Ghost.tuple [] [_,_] (Ghost.nils_list _)).trans (Ghost.tuple [_] [_] (frz1 (k:=2) (by simp) (by rfl) (by rfl) (by rfl)))).toB _) rfl
  rw [if_neg k2]
  by_cases k3:op=64
  ·rw [if_pos k3];subst k3
   repeat first|refine QG ?_|refine QY ?_ (r:=by conv=>lhs;simp[QV,h1,h2,h3,h6,h7,h8,k1,k2])
   refine QT ?_;refine Yj (σm := ?smc) (Sm := ?Smc) (ZZ.mk _ (St S [] [some (5,[vl jm sg,vint im,vl vint gl,vl V.bool mu, .bool true]),some (4,[.int .i64 64, .int .u64 (m:Int),vl vint xa,vl vint xo])]) (St S [] [some (5,[vl jm sg,vint im,vl vint gl,vl V.bool mu, .bool true]),some (4,[.int .i64 64, .int .u64 (m:Int),vl vint xa,vl vint xo])]) []) 0 1 [0,1,2,3,4,5,6,7] [1,0,2,3,4,5,6,7] rfl (by kernel_rfl) (by conv=>lhs; reduce) (by kernel_rfl) (by decide) (by kernel_rfl) (by kernel_rfl) (by kernel_rfl) (by kernel_rfl) (by kernel_rfl) (by kernel_rfl) rfl (Kl (by simp [subU,shpU,subL,shpL])) (Store.sub_refl _) (by conv=>lhs; reduce) (by conv=>lhs; reduce) ?H1c ?H2c ?H3c
   case H1c =>
    refine bB h1 ?_;refine QI ?_;refine QZ ?_;refine QI ?_;refine QW ?_;refine zM [6,7,8] (Eq.trans (b := ?_) ?_ rfl)
    rotate_left
    conv=>lhs; simp [Fr.only,Fr.look]
   case H2c =>
    refine bB h1 ?_;refine QI ?_;refine QI ?_;refine QW ?_;exact Jf [6,7,8] [0,1,3,2] (by conv=>lhs; simp [Fr.only,Fr.look]) hwf (by decide) (by simp) (by conv=>lhs; simp) (by conv=>lhs; simp) (by conv=>lhs; simp)
   refine bw ?_
   exact jf hwf (((Ghost.tuple [] [_,_] (frz1 (k:=2) (by simp) (by rfl) (by rfl) (by rfl))).trans (Ghost.tuple [_] [_] (frz1 (k:=3) (by simp) (by rfl) (by rfl) (by rfl)))).toB _) rfl
  rw [if_neg k3]
  repeat first|refine QG ?_|refine QY ?_ (r:=by conv=>lhs;simp[QV,h1,h2,h3,h6,h7,h8,k1,k2,k3])
  exact jf hwf (((Ghost.tuple [] [_,_] (Ghost.nils_list _)).trans (Ghost.tuple [_] [_] (Ghost.nils_list _))).toB _) rfl
end Go.Vw
namespace Ss
def rinsOk (e:Env) (f:Fn) (ds:List Def) (near:List Int) (block pos:Int) (x:Ins):Bool :=
 (rform e x.op x.n (insOut f.types x)).ok&&decide (typesOf f.types x.outs=(rform e x.op x.n (insOut f.types x)).outs)&&asks f.types ds near block pos x.args (rform e x.op x.n (insOut f.types x)).inn
end Ss
namespace Go.Vw
open Go.Proofs Go.RowKit
attribute [-simp] List.map_set
theorem rins_v (e:Ss.Env) (f:Ss.Fn) (ds:List Ss.Def) (near:List Int) (i k:Nat) (b:Ss.Block) (x:Ss.Ins) (hsl:e.sigs.length<=140737488355328) (hgl:e.globals.length<=140737488355328) (hml:e.muts.length=e.globals.length)
  (hds:ds.length=f.types.length) (htl:f.types.length<2^63) (hnl:near.length<2^63) (hnn : ∀ x∈ds,x.made=true->0<=x.block) (hi:f.blocks[i]? = some b) (hk:b.code[k]? = some x) (hx:x.Fits) (hol:x.outs.length<=1048576) (hov:Ss.InTs f.types.length x.outs) :
  bS 48 [ckR e f ds near,vnat i,vnat k] (.bool (Ss.rinsOk e f ds near i k x)):=by
 intro S;have cf:=Form_v e x (Ss.insOut f.types x) hsl hgl hml hx;have ct:=jck e f ds near x.outs hol hov;have hal:=hx.2.2.1.1;have ca : ∀ l:List Int,bS 82 [ckR e f ds near,vl vint x.args,vl vint l,vnat i,vnat k] (.bool (Ss.asks f.types ds near i k x.args l)):=fun l=>jcl e f ds near i k x.args l hds htl hnl (by omega) hnn
 unfold Ss.rinsOk;generalize hr:Ss.rform e x.op x.n (Ss.insOut f.types x)=r at *
 have hql:(Ss.typesOf f.types x.outs).length<2^63:=by simp [Ss.typesOf]; omega
 generalize htt:Ss.typesOf f.types x.outs=tt at *
 obtain ⟨ri,ro,rk⟩:=r;have ceq:=jdb tt ro hql;obtain ⟨xo,xn,xa,xu⟩:=x;obtain ⟨ps,code,⟨tk,ta,to,az⟩⟩:=b;obtain ⟨⟨fi,fo⟩,ts,bs⟩:=f;obtain ⟨sg,im,gl,mu,me⟩:=e;simp only at *
 obtain ⟨hi1,hi2⟩:=ae.1 hi;obtain ⟨hk1,hk2⟩:=ae.1 hk;have ca':=ca ri;generalize Ss.asks ts ds near i k xa ri=ax at ca';generalize hio:Ss.insOut ts ⟨xo,xn,xa,xu⟩=io at cf;have cf':bS 81 [.agg [vl jm sg, .int .i64 im,vl vint gl,vl V.bool mu, .bool me], .agg [.int .i64 xo, .int .u64 xn,vl vint xa,vl vint xu], .int .i64 io] (.tuple [vl vint ri,vl vint ro, .bool rk]):=cf;refine QB (c:=jc Tryz.f48) Tryz.func48 Tryz.ntmps48 fun hwf=>?_
 refine bD hi1 hi2 hk1 hk2 ?_
 refine ZQ (fun σ S'=>σ=[(0,ckR ⟨sg,im,gl,mu,me⟩ ⟨⟨fi,fo⟩,ts,bs⟩ ds near),(1,vnat i),(2,vnat k),(7, .ptr (lid S.nx 0) 0),(8,vint io)]/\S'=St S [] [some (4,[vint xo,vu xn,vl vint xa,vl vint xu])]) [0,1,2,7,8] ?_ ?_
 ·cases xu with
  | nil =>
   have h0:io=0:=by rw [<-hio]; rfl
   subst h0
   refine bw ?_
   exact ⟨by simp [Fr.only],by simp⟩
  | cons v r =>
   obtain ⟨h0,h1⟩:=hov v (by simp);obtain ⟨n,rfl⟩ : ∃ n:Nat,v=n:=⟨v.toNat,by omega⟩
   have hn:n<ts.length:=by omega
   have h2:io=ts[n]:=by rw [<-hio]; simp [Ss.insOut,hn]
   subst h2;have hpos:(0:Int)<((r.length:Int)+1):=by omega
   refine bt hn hpos ?_
   exact ⟨by simp [Fr.only],by simp⟩
 rintro σ S' ⟨rfl,rfl⟩;refine QT ?_;refine QT ?_;refine QD (r:=by conv=>lhs;simp[QV]) (k:=?_);refine QL (cf') ?_;refine QW ?_
 by_cases h1:rk=true
 case neg =>
  have h1':rk=false:=by simpa using h1
  refine bx h1' ?_
  exact ja hwf (by simp [h1']) rfl
 refine bH h1 ?_;refine QL (ct) ?_;refine QZ ?_;refine QL (ceq) ?_
 by_cases h3:tt=ro
 case neg =>
  refine bB h3 ?_;refine bR ?_
  exact ja hwf (by simp [h3]) rfl
 refine bB h3 ?_;refine QL (ca') ?_;refine bQ ?_
 exact ja hwf (by simp [h1,h3]) rfl
end Go.Vw
namespace Ss
def rtermOk (f:Fn) (ds:List Def) (near:List Int) (i pos:Int) (t:Term):Bool :=
 if t.kind=2 then asks f.types ds near i pos [t.arg] [127]&&(decide (t.args.length=0)&&decide (t.to.length=2))
 else if t.kind=3 then asks f.types ds near i pos [t.arg] [127]&&(decide (t.args.length=0)&&(decide (1<=t.to.length)&&decide (t.to.length<=65)))
 else decide (t.arg=0)&&(if t.kind=4 then decide (t.to.length=0)&&asks f.types ds near i pos t.args f.sig.out
  else decide (t.args.length=0)&&(if t.kind=1 then decide (t.to.length=1) else decide (t.kind=5)&&decide (t.to.length=0)))
def redgeOk (f:Fn) (ds:List Def) (near:List Int) (i pos:Int) (x:Edge):Bool :=
 decide (1<=x.to)&&asks f.types ds near i pos x.args (typesOf f.types (f.blocks.getD x.to.toNat default).params)
end Ss
namespace Go.Vw
open Go.Proofs Go.RowKit
attribute [-simp] List.map_set
theorem rterm_v (e:Ss.Env) (f:Ss.Fn) (ds:List Ss.Def) (near:List Int) (i:Nat) (b:Ss.Block) (hds:ds.length=f.types.length) (htl:f.types.length<2^63) (hnl:near.length<2^63) (hnn : ∀ x∈ds,x.made=true->0<=x.block) (hi:f.blocks[i]? = some b) (hb:b.Fits) :
  bS 49 [ckR e f ds near,vnat i] (.bool (Ss.rtermOk f ds near i b.code.length b.term)):=by
 intro S;obtain ⟨_,⟨hcl,_⟩,_,_,⟨htol,htf⟩,⟨haz,_⟩⟩:=hb;have ca : ∀ l m:List Int,l.length<2^63->bS 82 [ckR e f ds near,vl vint l,vl vint m,vnat i,vnat b.code.length] (.bool (Ss.asks f.types ds near i b.code.length l m)):=fun l m hl=>jcl e f ds near i b.code.length l m hds htl hnl hl hnn
 obtain ⟨ps,code,⟨tk,ta,to,az⟩⟩:=b;simp only at hcl htol htf haz ca;obtain ⟨⟨fi,fo⟩,ts,bs⟩:=f;simp only at *
 have c1:=ca [ta] [127] (by simp);have c2:=ca az fo (by omega);obtain ⟨hi1,hi2⟩:=ae.1 hi;have hX:Ss.rtermOk ⟨⟨fi,fo⟩,ts,bs⟩ ds near i code.length ⟨tk,ta,to,az⟩=if tk=2 then Ss.asks ts ds near i code.length [ta] [127]&&(decide (az.length=0)&&decide (to.length=2))
  else if tk=3 then Ss.asks ts ds near i code.length [ta] [127]&&(decide (az.length=0)&&(decide (1<=to.length)&&decide (to.length<=65)))
  else decide (ta=0)&&(if tk=4 then decide (to.length=0)&&Ss.asks ts ds near i code.length az fo
   else decide (az.length=0)&&(if tk=1 then decide (to.length=1) else decide (tk=5)&&decide (to.length=0))):=rfl
 rw [hX];clear hX;generalize Ss.asks ts ds near i code.length [ta] [127]=A at *
 generalize Ss.asks ts ds near i code.length az fo=B at *
 refine QB (c:=jc Tryz.f49) Tryz.func49 Tryz.ntmps49 fun hwf=>?_
 refine bt hi1 hi2 ?_
 refine QT ?_;refine QJ (St S [] [some (6,[vl vint ps,vl jp code, .int .i64 tk, .int .i64 ta,vl jk to,vl vint az])]) (St S [] [some (6,[vl vint ps,vl jp code, .int .i64 tk, .int .i64 ta,vl jk to,vl vint az])]) [] ?_ (r:=by conv=>lhs; simp [QV]);refine QI ?_;refine QZ ?_;refine QI ?_;refine QW ?_
 by_cases k2:tk=2
 ·rw [if_pos k2]
  refine bx k2 ?_
  refine QP ?_;refine qU (xs':=[ckR e ⟨⟨fi,fo⟩,ts,bs⟩ ds near,vl vint [ta],vl vint [127],vnat i,vnat code.length]) rfl (GhostArgs.trans (GhostArgs.one [_] [_,_,_] (frz1 (k:=2) (len:=1) (by simp) (by rfl) (by rfl) (by rfl))) (GhostArgs.one [_,_] [_,_] (frz1 (k:=3) (len:=1) (by simp) (by rfl) (by rfl) (by rfl)))) c1 ?_;simp only [aq,au]
  by_cases h2:A=true
  case neg =>
   have h2':A=false:=by simpa using h2
   refine bB h2' ?_;refine bR ?_
   exact ja hwf (by simp [h2']) rfl
  by_cases h3:az.length=0
  case neg =>
   have h3':(0:Int)<(az.length:Int):=by omega
   have h3n:0<az.length:=by omega
   refine QM (by conv=>lhs;simp[QV,h2,k2,h3,h3',h3n]) ?_;refine bR ?_
   exact ja hwf (by simp [h3]) rfl
  have h3':az=[]:=aO h3;subst h3';refine bF h2 k2 ?_;refine QN ?_
  refine bx k2 ?_
  exact ja hwf (by simp [h2]; try omega) rfl
 rw [if_neg k2]
 by_cases k3:tk=3
 ·rw [if_pos k3]
  refine bt k2 k3 ?_
  refine QP ?_;refine qU (xs':=[ckR e ⟨⟨fi,fo⟩,ts,bs⟩ ds near,vl vint [ta],vl vint [127],vnat i,vnat code.length]) rfl (GhostArgs.trans (GhostArgs.one [_] [_,_,_] (frz1 (k:=2) (len:=1) (by simp) (by rfl) (by rfl) (by rfl))) (GhostArgs.one [_,_] [_,_] (frz1 (k:=3) (len:=1) (by simp) (by rfl) (by rfl) (by rfl)))) c1 ?_;simp only [aq,au]
  by_cases h2:A=true
  case neg =>
   have h2':A=false:=by simpa using h2
   refine bB h2' ?_;refine bR ?_
   exact ja hwf (by simp [h2']) rfl
  by_cases h3:az.length=0
  case neg =>
   have h3':(0:Int)<(az.length:Int):=by omega
   have h3n:0<az.length:=by omega
   refine QM (by conv=>lhs;simp[QV,h2,k2,k3,h3,h3',h3n]) ?_;refine bR ?_
   exact ja hwf (by simp [h3]) rfl
  have h3':az=[]:=aO h3;subst h3';have k4 : ¬ tk=4:=by omega
  refine QM (by conv=>lhs;simp[QV,h2,k2,k3,k4]) ?_;refine QN ?_
  by_cases h5:(1:Int)<=(to.length:Int)
  case neg =>
   refine bv k2 k3 h5 ?_
   exact ja hwf (by simp; omega) rfl
  have h6:decide (1<=to.length)=true:=decide_eq_true (by omega)
  refine bv k2 k3 h5 ?_
  exact ja hwf (by rw [h6]; simp [h2]; try omega) rfl
 rw [if_neg k3]
 by_cases h1:ta=0
 case neg =>
  refine bv k2 k3 h1 ?_
  exact ja hwf (by simp [h1]) rfl
 by_cases k4:tk=4
 ·rw [if_pos k4]
  by_cases h5:to.length=0
  case neg =>
   have h5' : ¬ (to.length:Int)=0:=by omega
   have k1 : ¬ tk=1:=by omega
   repeat first|refine QG ?_|refine QY ?_ (r:=by conv=>lhs;simp[QV,k2,k3,h1,k4,k1,h5,h5'])
   exact ja hwf (by simp [h5]) rfl
  have h5':(to.length:Int)=0:=by omega
  have k1 : ¬ tk=1:=by omega
  obtain rfl:to=[]:=aO h5
  refine bJ k2 k3 h1 k4 k1 ?_
  refine QT ?_;refine QD (r:=by conv=>lhs;simp[QV]) (k:=?_);refine QL (c2) ?_;refine bQ ?_
  exact ja hwf (by simp [h1]) rfl
 rw [if_neg k4]
 by_cases h3:az.length=0
 case neg =>
  have h3':(0:Int)<(az.length:Int):=by omega
  have h3n:0<az.length:=by omega
  repeat first|refine QG ?_|refine QY ?_ (r:=by conv=>lhs;simp[QV,k2,k3,h1,k4,h3,h3',h3n])
  exact ja hwf (by simp [h3]) rfl
 have h3':az=[]:=aO h3;subst h3'
 by_cases k1:tk=1
 ·refine bJ k2 k3 h1 k4 k1 ?_
  exact ja hwf (by simp [h1,k1]; try omega) rfl
 by_cases k5:tk=5
 ·refine bz k2 k3 h1 k4 k1 k5 ?_
  exact ja hwf (by simp [h1,k1,k5]; try omega) rfl
 ·refine bz k2 k3 h1 k4 k1 k5 ?_
  exact ja hwf (by simp [h1,k1,k5]; try omega) rfl
theorem redges_v (e:Ss.Env) (f:Ss.Fn) (ds:List Ss.Def) (near:List Int) (i:Nat) (b:Ss.Block) (hds:ds.length=f.types.length) (htl:f.types.length<2^63) (hnl:near.length<2^63) (hnn : ∀ x∈ds,x.made=true->0<=x.block) (hi:f.blocks[i]? = some b) (hb:b.Fits)
  (hbl:f.blocks.length<2^63) (hto : ∀ x∈b.term.to,0<=x.to/\x.to<f.blocks.length) (hps : ∀ b∈f.blocks,b.params.length<=1048576/\Ss.InTs f.types.length b.params) :
  bS 50 [ckR e f ds near,vnat i] (.bool (b.term.to.all (Ss.redgeOk f ds near i b.code.length))):=by
 intro S;obtain ⟨_,⟨hcl,_⟩,_,_,⟨htol,htf⟩,⟨haz,_⟩⟩:=hb;have ca : ∀ l m:List Int,l.length<2^63->bS 82 [ckR e f ds near,vl vint l,vl vint m,vnat i,vnat b.code.length] (.bool (Ss.asks f.types ds near i b.code.length l m)):=fun l m hl=>jcl e f ds near i b.code.length l m hds htl hnl hl hnn
 have ct : ∀ b∈f.blocks,bS 46 [ckR e f ds near,vl vint b.params] (vl vint (Ss.typesOf f.types b.params)):=fun b hb=>jck e f ds near b.params (hps b hb).1 (hps b hb).2
 obtain ⟨ps,code,⟨tk,ta,to,az⟩⟩:=b;simp only at hcl htol htf haz hto ca;obtain ⟨hi1,hi2⟩:=ae.1 hi;have htl63:to.length<2^63:=by omega
 have hE : ∀ x:Ss.Edge,Ss.redgeOk f ds near i code.length x=(decide (1<=x.to)&&Ss.asks f.types ds near i code.length x.args (Ss.typesOf f.types (f.blocks.getD x.to.toNat default).params)):=fun x=>rfl
 obtain ⟨⟨fi,fo⟩,ts,bs⟩:=f;simp only at *
 generalize hP:Ss.redgeOk ⟨⟨fi,fo⟩,ts,bs⟩ ds near i code.length=P at *
 refine QB (c:=jc Tryz.f50) Tryz.func50 Tryz.ntmps50 fun hwf=>?_
 refine bt hi1 hi2 ?_
 refine QT ?_;refine jd [0,1,5,6] rfl (fun c σ S' => ∃ (k:Nat),k<=to.length/\c=to.length-k/\(to.drop k).all P=to.all P/\σ=[(0,ckR e ⟨⟨fi,fo⟩,ts,bs⟩ ds near),(1,vnat i),(5, .ptr (lid S.nx 0) 0),(6,vnat k)]/\S'=St S [] [some (6,[vl vint ps,vl jp code,vint tk,vint ta,vl jk to,vl vint az])]) to.length ?_ ?_
 ·exact ⟨0,by omega,rfl,rfl,by simp [Fr.only],rfl⟩
 ·rintro c σ T ⟨k,hk,rfl,hd,rfl,rfl⟩
  by_cases hkt:k<to.length
  case neg =>
   refine bx hkt ?_
   rw [<-hd,Ss.drop_all_end _ hkt];exact bN
  have hw:=jg hkt htl63;have hst:=Ss.drop_all P hkt;obtain ⟨h0,h1⟩:=hto _ (ah hkt);have hxa:=(htf _ (ah hkt)).2.1;obtain ⟨⟨xt,xa⟩,hx⟩ : ∃ x,to[k]=x:=⟨_,rfl⟩
  rw [hx] at hst h0 h1 hxa;simp only at h0 h1 hxa;obtain ⟨n,rfl⟩ : ∃ n:Nat,xt=n:=⟨xt.toNat,by omega⟩
  have hn:n<bs.length:=by omega
  obtain ⟨⟨qs,qc,⟨qk,qa,qt,qz⟩⟩,hq⟩ : ∃ b,bs[n]=b:=⟨_,rfl⟩
  have hqg:bs.getD (n:Int).toNat default=⟨qs,qc,⟨qk,qa,qt,qz⟩⟩:=by simp [hn,hq]
  have hE':=hE ⟨(n:Int),xa⟩;rw [hqg] at hE';simp only at hE';rw [hE'] at hst
  by_cases h2:(n:Int)<1
  ·have h2' : ¬ (1:Int)<=(n:Int):=by omega
   rw [decide_eq_false h2',aX,aX,hd] at hst
   refine bv hkt hx h2 ?_
   rw [hst];exact bN
  have h2':(1:Int)<=(n:Int):=by omega
  rw [decide_eq_true h2',aE] at hst;have c1:=ct _ (ah hn);rw [hq] at c1;simp only at c1;generalize Ss.typesOf ts qs=tq at *
  have c2:=ca xa tq (by omega);generalize Ss.asks ts ds near i code.length xa tq=B at *
  refine bJ hkt hx h2 hn hq ?_
  refine QT ?_;refine QD (r:=by conv=>lhs;simp[QV,h2,hn,hq]) (k:=?_);refine QL (c1) ?_;refine QZ ?_;refine QL (c2) ?_
  by_cases h3:B=true
  ·rw [h3,aE,hd] at hst;refine bB h3 ?_;refine bR ?_
   refine QA [0] (h:=⟨?_,k+1,hkt,rfl,hst.symm,by simp [hw],by simp⟩);omega
  ·have h3':B=false:=by simpa using h3
   rw [h3',aX,hd] at hst;refine bB h3' ?_;refine bR ?_
   rw [hst];exact bN
theorem RSuccO_v (S:Store) (f:Ss.Fn) (hf:f.Fits) (hs:f.small=true):bU 41 [jI f] S (fun r T=>r = .slice (lid S.nx 0) 0 f.blocks.length/\T=St S [] [some (1,(Ss.succs f.blocks).map (vl vint))]):=by
 have cs:=RSmall_v f hf;have hsb := @zt f;obtain ⟨⟨fi,fo⟩,ts,bs⟩:=f;rw [hs] at cs;obtain ⟨sm,hsm⟩ : ∃ sm,sm=true:=⟨_,rfl⟩
 rw [<-hsm] at cs;have cs':bS 33 [.agg [vl vint fi,vl vint fo,vl vint ts,vl je bs]] (.bool sm):=cs;obtain ⟨_,hbl,hbf,_⟩:=hsb hs;simp only at hbl hbf ⊢;refine QB (c:=jc Tryz.f41) Tryz.func41 Tryz.ntmps41 fun hwf=>?_
 refine bw ?_
 refine QP ?_;refine QL (cs') ?_;refine bB hsm ?_;refine bR ?_
 refine zx 3 1 rfl (by conv=>lhs; simp [Fr.set]) ?_;refine QT ?_;refine jd [1,3,4] rfl (fun c σ S' => ∃ (k:Nat) (out:List (List Int)),k<=bs.length/\c=bs.length-k/\out.length=k/\out=(bs.take k).map Ss.rowOf/\σ=[(1, .ptr (lid S.nx 0) 0),(3, .slice (lid S.nx 1) 0 k),(4,vnat k)]/\S'=St S [] [some (4,[vl vint fi,vl vint fo,vl vint ts,vl je bs]),some (1,out.map (vl vint))]) bs.length ?_ ?_
 ·exact ⟨0,[],by omega,rfl,rfl,by simp,by simp [Fr.only],by simp⟩
 ·rintro c σ T ⟨k,out,hk,rfl,hol,ho,rfl,rfl⟩
  by_cases hkt:k<bs.length
  ·have hw:=jg hkt (by omega);obtain ⟨_,htl,_,_⟩:=hbf _ (ah hkt);obtain ⟨⟨ps,code,⟨tk,ta,to,az⟩⟩,hx⟩ : ∃ b,bs[k]=b:=⟨_,rfl⟩
   rw [hx] at htl;simp only at htl;have htk:bs.take (k+1)=bs.take k++[⟨ps,code,⟨tk,ta,to,az⟩⟩]:=by rw [List.take_add_one,ac hkt,hx]; rfl
   refine bt hkt hx ?_
   refine zx 5 1 rfl (by conv=>lhs; simp [Fr.set]) ?_;refine QT ?_;refine jd [1,3,4,5,6] rfl (fun c σ S' => ∃ (j:Nat) (r:List Int),j<=to.length/\c=to.length-j/\r.length=j/\r=(to.take j).map Ss.Edge.to/\σ=[(1, .ptr (lid S.nx 0) 0),(3, .slice (lid S.nx 1) 0 k),(4,vnat k),(5, .slice (lid S.nx 2) 0 j),(6,vnat j)]/\S'=St S [] [some (4,[vl vint fi,vl vint fo,vl vint ts,vl je bs]),some (1,out.map (vl vint)),some (1,r.map vint)]) to.length ?_ ?_
   ·exact ⟨0,[],by omega,rfl,rfl,by simp,by simp [Fr.only],by simp⟩
   ·rintro c σ T ⟨j,r,hj,rfl,hrl,hr,rfl,rfl⟩
    by_cases hjt:j<to.length
    ·have hwj:=jg hjt (by omega);have hb:(j+1)*8<=140737488355328:=by omega
     have hb':j+1<=140737488355328:=by omega
     obtain ⟨⟨xt,xa⟩,hx2⟩ : ∃ b,to[j]=b:=⟨_,rfl⟩
     have htj:to.take (j+1)=to.take j++[⟨xt,xa⟩]:=by rw [List.take_add_one,ac hjt,hx2]; rfl
     repeat first|refine QG ?_|refine QY ?_ (r:=by conv=>lhs;simp[QV,hkt,hx,hjt,hx2,hb,hb',hrl])
     refine QA [0,1,4] (h:=⟨?_,j+1,r++[xt],hjt,rfl,by simp [hrl],by rw [htj,List.map_append,hr]; rfl,by simp [hwj],by simp⟩);omega
    ·have hje:j=to.length:=by omega
     subst hje;rw [List.take_length] at hr;have hb:(k+1)*24<=140737488355328:=by omega
     have hb':k+1<=140737488355328:=by omega
     refine QY ?_ (r:=by conv=>lhs;simp[QV,hkt,hx,hjt]);refine QT ?_;refine jG rfl rfl rfl ?_;refine QT ?_;refine qb 2 rfl rfl ?_;refine jt 5 rfl ((frz1 (k:=2) (len:=to.length) (by simp) (by rfl) (jq vint (fun _=>rfl) _) (by simpa using hrl))) (by conv=>lhs; simp [Fr.set]) ?_;simp only [aq,au]
     refine bv hb hb' hol ?_
     refine QA [0,4] (h:=⟨?_,k+1,out++[r],hkt,rfl,by simp [hol],by rw [htk,List.map_append, <-ho,hr]; rfl,by simp [hw],by simp [vl]⟩);omega
  ·have hke:k=bs.length:=by omega
   subst hke;rw [List.take_length] at ho;refine bM hkt ?_;refine QT ?_;refine jG rfl rfl rfl ?_;refine QT ?_;refine qb 0 rfl rfl ?_;refine QO [3] ?_;refine QK [1] ?_
   refine bw ?_
   rw [Ss.succs, <-ho];exact zi ⟨by simp,rfl⟩
theorem RSucc_v (f:Ss.Fn) (hf:f.Fits) (hs:f.small=true):bS 41 [jI f] (vl (vl vint) (Ss.succs f.blocks)):=by
 intro S;refine JH fun hwf=>qZ ((RSuccO_v S f hf hs).mono ?_)
 rintro r T ⟨rfl,rfl⟩;exact jf hwf ((frz1 (k:=0) (cells:=(Ss.succs f.blocks).map (vl vint)) (by simp) (by rfl) (jq (vl vint) (fun _=>rfl) _) (by simp [Ss.succs])).toB _) rfl
theorem any_drop {α:Type} (p:α->Bool) {l:List α} {k:Nat} (h:k<l.length):(l.drop k).any p=(p l[k]||(l.drop (k+1)).any p):=by
 rw [am h,List.any_cons]
theorem any_drop_end {α:Type} (p:α->Bool) {l:List α} {k:Nat} (h : ¬ k<l.length):(l.drop k).any p=false:=by
 have:l.drop k=[]:=by rw [aH]; omega
 rw [this]; rfl
theorem ticks_v (b:Ss.Block) (hb:b.code.length<2^63):bS 80 [je b] (.bool (Ss.tickB b)):=by
 intro S;obtain ⟨ps,code,⟨tk,ta,to,az⟩⟩:=b;simp only at hb;have hX:Ss.tickB ⟨ps,code,⟨tk,ta,to,az⟩⟩=code.any fun x=>decide (x.op=258):=rfl
 rw [hX];generalize hP:(fun x:Ss.Ins=>decide (x.op=258))=P;refine QB (c:=jc Tryz.f80) Tryz.func80 Tryz.ntmps80 fun hwf=>?_
 refine bw ?_
 refine QT ?_;refine jd [1,3] rfl (fun c σ S' => ∃ (k:Nat),k<=code.length/\c=code.length-k/\(code.drop k).any P=code.any P/\σ=[(1, .ptr (lid S.nx 0) 0),(3,vnat k)]/\S'=St S [] [some (6,[vl vint ps,vl jp code,vint tk,vint ta,vl jk to,vl vint az])]) code.length ?_ ?_
 ·exact ⟨0,by omega,rfl,rfl,by simp [Fr.only],rfl⟩
 ·rintro c σ T ⟨k,hk,rfl,hd,rfl,rfl⟩
  by_cases hkt:k<code.length
  ·have hst:=any_drop P hkt;have hw:=jg hkt hb;obtain ⟨⟨o,n,a,u⟩,hx⟩ : ∃ x,code[k]=x:=⟨_,rfl⟩
   have hp:P ⟨o,n,a,u⟩=decide (o=258):=by rw [<-hP]
   rw [hx,hp] at hst
   by_cases h1:o=258
   ·rw [decide_eq_true h1,Bool.true_or,hd] at hst
    refine bv hkt hx h1 ?_
    rw [hst];exact bN
   ·rw [decide_eq_false h1,Bool.false_or,hd] at hst
    refine bD hkt hx h1 hw ?_
    show js _ _ _ _ _ _ _;exact again ⟨by omega,k+1,by omega,rfl,hst.symm,by simp [Fr.only],rfl⟩
  ·refine bx hkt ?_
   rw [<-hd,any_drop_end _ hkt];exact bN
end Go.Vw
