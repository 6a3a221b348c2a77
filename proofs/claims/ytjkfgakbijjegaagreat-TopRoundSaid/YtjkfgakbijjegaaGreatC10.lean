import Derived.Test.YtjkfgakbijjegaaGreatC9
/- Part of the proof. -/
set_option linter.unusedVariables false
set_option linter.unusedSimpArgs false
set_option maxRecDepth 10000
set_option maxHeartbeats 4000000

namespace Wm
def sigR:Rd Sig:=do
 let _ <-one [96]
 let a <-many 8 kind
 let r <-many 8 kind
 return ⟨a.map fun n:Nat=>(n:Int),r.map fun n:Nat=>(n:Int)⟩
end Wm
namespace Go.Vw
open Go.Proofs Go.RowKit Wm
attribute [-simp] List.map_set
theorem am1 (l:List Nat):vl bI l=vl bH (l.map fun n:Nat=>(n:Int)):=by
 simp [vl,Function.comp_def]
theorem gOne {B:Store} {u:Upds} {l:OL} {x:V} (k:Nat) (xs:List Int) (hk:k<l.length) (hg:(l[k]?).join=some (1,jF bH xs)):GhostArgs [x, .slice (lid B.nx k) 0 xs.length] (St B u l) [x,vl bH xs] (St B u (l.set k none)) :=
 GhostArgs.one [x] [] (jdF (enc:=bH) (fun _=>rfl) (fun _=>rfl) xs hk hg)
theorem apj (ro bx n0:Nat) (hne:bx≠ro) (hn:ro<n0):RdL Tryz.prog (RLb ro bx n0 hne hn) (.func 93 [.ptr bx 0]) [] je (qD (RLb ro bx n0 hne hn) sigR):=by
 refine Kp rfl fun b a ty im fu pg mo gl ex st da ops S E h1 h2 h3 h4 hs hb hE => ?_;refine qA (c:=jf Tryz.f93) Tryz.func93 rfl (by conv=>lhs; reduce) (by simp [Tryz.ntmps93]) ?_;rw [Tryz.ntmps93];intro hwf;have hl:=jx hwf hs;have hg:=old1 hl;have hu:=oldU hl;have hgb:=jbt hwf hne hb;rw [show St S [] []=St S [(ro,some (12,[vl vb b,bI a,ty,im,fu,pg,mo,gl,ex,st,da,bI ops]))] [] from old0 hl hs];refine bk ?_;refine XQ E ?_ (r:=by conv=>lhs;simp[QV,hgb]);refine Jr rfl (gOne 1 [96] (by simp) rfl) (jcn ro [96] (by simp)) hl ?_ ?_
 .intro e he;exact hE e (by simp [sigR,Rd.bind_apply,he])
 intro c a1 hc ha1;refine ja ?_;refine QT ?_;refine XD E (ZR S ro b ty im fu pg mo gl ex st da [some (2,[.junk, .junk]),none]) [] [0,1,2,4,5,6,3,7,8,9] [8,12] (ho:=Ka _ _ _ _ _ _ _ _ _ _ _ _ _) (hz:=zo (by simp [JR]) (by simp [jW,subO,jm]) (by simp)) (r:=by conv=>lhs;simp[QV,↓ju,ZR,Zs,zz,jl,ji,V.nj,V.nj1,V.bK,hgb]) (k:=?_);refine Yv (most:=8) (p:=kind) (enc:=bI) (bx:=bx) rfl rfl hwf ⟨_,hs⟩ hne (fun c=>hgb c _) (aK (jx hwf hb) (by simp [lid])) ⟨by first | assumption | omega,h2,h3,by first | assumption | omega⟩ (fun hn s T E hi hh hn0 he=>aa3 _ _ bI _ 8 (by omega) (fun _=>rfl) (fun _=>rfl) (RdM.meth (jaN ro) rfl) (jfJ (n:=(RLb ro bx _ hne hn).n0) (g:=96) hn) s T E hi hh hn0 he) (by simp [JR]) (by simp [jW,subO,jm]) (by simp) ?_ ?_
 .intro e he;exact hE e (by simp [sigR,Rd.bind_apply,hc,he])
 intro xs a2 hx ha2;refine Yv (most:=8) (p:=kind) (enc:=bI) (bx:=bx) rfl rfl hwf ⟨_,hs⟩ hne (fun c=>hgb c _) (aK (jx hwf hb) (by simp [lid])) ⟨by first | assumption | omega,h2,h3,by first | assumption | omega⟩ (fun hn s T E hi hh hn0 he=>aa3 _ _ bI _ 8 (by omega) (fun _=>rfl) (fun _=>rfl) (RdM.meth (jaN ro) rfl) (jfJ (n:=(RLb ro bx _ hne hn).n0) (g:=96) hn) s T E hi hh hn0 he) (by simp [JR]) (by simp [jW,subO,jm]) (by simp) ?_ ?_
 .intro e he;exact hE e (by simp [sigR,Rd.bind_apply,hc,hx,he])
 intro ys a3 hy ha3;have hp:sigR b a = .ok (⟨xs.map fun n:Nat=>(n:Int),ys.map fun n:Nat=>(n:Int)⟩,a3):=by simp [sigR,Rd.bind_apply,hc,hx,hy,Rd.pure_apply]
 rw [am1,am1];refine ZM (r:=by conv=>lhs;simp[QV,↓ju,ZR,Zs,zz,jl,ji,V.nj,V.nj1,V.bK]) (k:=?_);refine jo rfl (by conv=>lhs;simp[QV]) ?_ ?_
 .exact zo (by simp [JR]) (by simp [jW,subO,jm]) (by simp)
 refine jy ?_;refine bk ?_;refine ⟨_,(by conv=>lhs; simp [resL,qC]),qK hwf hs hp ha3 ?_ ?_⟩
 .simp [tupV]
 .simp
theorem aiv (n:Nat):IntKind.i64.wrap (n:Int)=i64 n:=by
 simp only [i64];simp [IntKind.wrap,IntKind.bits,IntKind.signed];split<;>omega
def jch (n:Nat):V := .agg [bI n, .nils, .nils]
def jp (x:Wm.Import):V := .agg [vstr x.mod,vstr x.name,bH x.type]
def jv (x:Wm.Global):V := .agg [bH x.type, .bool x.wr, .int .u64 x.n]
def jr (x:Wm.Export):V := .agg [vstr x.name,bH x.kind,bH x.n]
def jq (x:Wm.Data):V := .agg [bH x.at',vl vb x.bytes]
end Go.Vw
namespace Wm
def importR:Rd Import:=do
 let m <-name
 let n <-name
 let k <-one [0,1,2,3]
 zE (decide (k≠0)) 11 1
 let t <-index
 return ⟨m,n,t⟩
def globalR:Rd Global:=do
 let t <-kind
 let w <-one [0,1]
 let c <-one [65,66]
 zE (decide (c=65) != decide (t=127)) 10 1
 let n <-Ja t
 let _ <-one [11]
 return ⟨t,decide (w=1),n⟩
def exportR:Rd Export:=do
 let n <-name
 let k <-one [0,1,2,3]
 zE (decide (k=1)) 11 1
 let i <-index
 return ⟨n,k,i⟩
def dataR:Rd Data:=do
 let _ <-u 0 6
 let _ <-one [65]
 let n <-Ja 127
 let _ <-one [11]
 let l <-many 4096 byte1
 return ⟨i64 n,l⟩
end Wm
namespace Go.Vw
open Go.Proofs Go.RowKit Wm
attribute [-simp] List.map_set
theorem ant (ro bx n0:Nat) (hne:bx≠ro) (hn:ro<n0):RdL Tryz.prog (RLb ro bx n0 hne hn) (.func 101 [.ptr bx 0]) [] jch (qD (RLb ro bx n0 hne hn) index):=by
 refine Kp rfl fun b a ty im fu pg mo gl ex st da ops S E h1 h2 h3 h4 hs hb hE => ?_;refine qA (c:=jf Tryz.f101) Tryz.func101 rfl (by conv=>lhs; reduce) (by simp [Tryz.ntmps101]) ?_;rw [Tryz.ntmps101];intro hwf;have hl:=jx hwf hs;have hg:=old1 hl;have hu:=oldU hl;have hgb:=jbt hwf hne hb;rw [show St S [] []=St S [(ro,some (12,[vl vb b,bI a,ty,im,fu,pg,mo,gl,ex,st,da,bI ops]))] [] from old0 hl hs];refine bk ?_;refine XQ E ?_ (r:=by conv=>lhs;simp[QV,hgb]);refine jL rfl (zl ro) hl ?_ ?_
 .intro e he;exact hE e he
 intro n a1 hp ha1;refine XN ?_;refine ja ?_;refine bk ?_;refine ⟨_,(by conv=>lhs; simp [resL,qC,jch]),qK hwf hs hp ha1 ?_ ?_⟩
 .simp [tupV,jch]
 .simp [jch]
theorem aim (ro bx n0:Nat) (hne:bx≠ro) (hn:ro<n0):RdL Tryz.prog (RLb ro bx n0 hne hn) (.func 98 [.ptr bx 0]) [] jp (qD (RLb ro bx n0 hne hn) importR):=by
 refine Kp rfl fun b a ty im fu pg mo gl ex st da ops S E h1 h2 h3 h4 hs hb hE => ?_;refine qA (c:=jf Tryz.f98) Tryz.func98 rfl (by conv=>lhs; reduce) (by simp [Tryz.ntmps98]) ?_;rw [Tryz.ntmps98];intro hwf;have hl:=jx hwf hs;have hg:=old1 hl;have hu:=oldU hl;have hgb:=jbt hwf hne hb;rw [show St S [] []=St S [(ro,some (12,[vl vb b,bI a,ty,im,fu,pg,mo,gl,ex,st,da,bI ops]))] [] from old0 hl hs];refine bk ?_;refine QT ?_;refine XD E (ZR S ro b ty im fu pg mo gl ex st da [some (3,[.junk, .junk, .junk])]) [] [0,2,5,1,3,4,6] [4,6] (ho:=Ka _ _ _ _ _ _ _ _ _ _ _ _ _) (hz:=zo (by simp [JR]) (by simp [jW,subO,jm]) (by simp)) (r:=by conv=>lhs;simp[QV,↓ju,ZR,Zs,zz,jl,ji,V.nj,V.nj1,V.bK,hgb]) (k:=?_);refine jo rfl (by conv=>lhs;simp[QV]) ?_ ?_
 .exact zo (by simp [JR]) (by simp [jW,subO,jm]) (by simp)
 refine JO rfl rfl (acw ro) hl (by simp [JR]) (by simp [jW,subO,jm]) (by simp) ?_ ?_
 .intro e he;exact hE e (by simp [importR,Rd.bind_apply,he])
 intro m a1 hm ha1;refine JO rfl rfl (acw ro) hl (by simp [JR]) (by simp [jW,subO,jm]) (by simp) ?_ ?_
 .intro e he;exact hE e (by simp [importR,Rd.bind_apply,hm,he])
 intro n a2 hn ha2;refine ZM (r:=by conv=>lhs;simp[QV,↓ju,ZR,Zs,zz,jl,ji,V.nj,V.nj1,V.bK,vstr]) (k:=?_);refine jo rfl (by conv=>lhs;simp[QV]) ?_ ?_
 .exact zo (by simp [JR]) (by simp [jW,subO,jm]) (by simp)
 refine jy ?_;refine bk ?_;refine XQ E ?_ (r:=by conv=>lhs;simp[QV,hgb]);refine Jr rfl (gOne 2 [0,1,2,3] (by simp) rfl) (jcn ro [0,1,2,3] (by simp)) hl ?_ ?_
 .intro e he;exact hE e (by simp [importR,Rd.bind_apply,hm,hn,he])
 intro k a3 hk ha3;by_cases hk0:k=0
 .subst hk0;refine XN ?_;refine ja ?_;refine bk ?_;refine XQ E ?_ (r:=by conv=>lhs;simp[QV,hgb]);refine jL rfl (zl ro) hl ?_ ?_
  .intro e he;exact hE e (by simp [importR,Rd.bind_apply,hm,hn,hk,zE,he])
  intro t a4 ht ha4;have hp:importR b a = .ok (⟨m,n,t⟩,a4):=by simp [importR,Rd.bind_apply,hm,hn,hk,zE,ht,Rd.pure_apply]
  refine XN ?_;refine ja ?_;refine bk ?_;refine ⟨_,(by conv=>lhs; simp [resL,qC,jp,vstr]),qK hwf hs hp ha4 ?_ ?_⟩
  .simp [tupV,jp,vstr]
  .simp [jp,vstr]
 .have hp:importR b a = .error (11,(a3:Int)-1,0):=by simp [importR,Rd.bind_apply,hm,hn,hk,zE,failAt,hk0]
  have w1:IntKind.i64.wrap ((a3:Int)-1)=(a3:Int)-1:=wrap_i64 (by omega) (by omega);have d0 : ¬ (k:Int)=0:=by omega
  refine XN ?_ (r:=by conv=>lhs;simp[QV,d0,hk0]);refine ja ?_;refine bk ?_;refine XQ E ?_ (r:=by conv=>lhs;simp[QV,hgb,hg,w1]);refine jb rfl (qI _ _ _ E (fun T hk=>(hE _ hp) T (hk.up ?_ ?_))) ?_
  .simp
  .simp
  .rintro _ _ h; exact h.elim
theorem ahh (ro bx n0:Nat) (hne:bx≠ro) (hn:ro<n0):RdL Tryz.prog (RLb ro bx n0 hne hn) (.func 108 [.ptr bx 0]) [] jr (qD (RLb ro bx n0 hne hn) exportR):=by
 refine Kp rfl fun b a ty im fu pg mo gl ex st da ops S E h1 h2 h3 h4 hs hb hE => ?_;refine qA (c:=jf Tryz.f108) Tryz.func108 rfl (by conv=>lhs; reduce) (by simp [Tryz.ntmps108]) ?_;rw [Tryz.ntmps108];intro hwf;have hl:=jx hwf hs;have hg:=old1 hl;have hu:=oldU hl;have hgb:=jbt hwf hne hb;rw [show St S [] []=St S [(ro,some (12,[vl vb b,bI a,ty,im,fu,pg,mo,gl,ex,st,da,bI ops]))] [] from old0 hl hs];refine bk ?_;refine QT ?_;refine XD E (ZR S ro b ty im fu pg mo gl ex st da [some (3,[.junk, .junk, .junk])]) [6] [0,2,3,6,1,4,5,7] [4,7] (ho:=Ka _ _ _ _ _ _ _ _ _ _ _ _ _) (hz:=zo (by simp [JR]) (by simp [jW,subO,jm]) (by simp)) (r:=by conv=>lhs;simp[QV,↓ju,ZR,Zs,zz,jl,ji,V.nj,V.nj1,V.bK,hgb]) (k:=?_);refine jo rfl (by conv=>lhs;simp[QV]) ?_ ?_
 .exact zo (by simp [JR]) (by simp [jW,subO,jm]) (by simp)
 refine JO rfl rfl (acw ro) hl (by simp [JR]) (by simp [jW,subO,jm]) (by simp) ?_ ?_
 .intro e he;exact hE e (by simp [exportR,Rd.bind_apply,he])
 intro m a1 hm ha1;refine JO rfl rfl (jcn ro [0,1,2,3] (by simp)) hl (by simp [JR]) (by simp [jW,subO,jm]) (by simp) ?_ ?_
 .intro e he;exact hE e (by simp [exportR,Rd.bind_apply,hm,he])
 intro k a3 hk ha3;refine ZM (r:=by conv=>lhs;simp[QV,↓ju,ZR,Zs,zz,jl,ji,V.nj,V.nj1,V.bK,vstr]) (k:=?_);refine jo rfl (by conv=>lhs;simp[QV]) ?_ ?_
 .exact zo (by simp [JR]) (by simp [jW,subO,jm]) (by simp)
 refine jy ?_;by_cases hk0:k=1
 .subst hk0;have hp:exportR b a = .error (11,(a3:Int)-1,0):=by simp [exportR,Rd.bind_apply,hm,hk,zE,failAt]
  have w1:IntKind.i64.wrap ((a3:Int)-1)=(a3:Int)-1:=wrap_i64 (by omega) (by omega);refine bk ?_;refine XQ E ?_ (r:=by conv=>lhs;simp[QV,hgb,hg,w1]);refine jb rfl (qI _ _ _ E (fun T hk=>(hE _ hp) T (hk.up ?_ ?_))) ?_
  .simp
  .simp
  .rintro _ _ h; exact h.elim
 .have d0 : ¬ (k:Int)=1:=by omega
  refine bm d0 hk0 ?_;refine XQ E ?_ (r:=by conv=>lhs;simp[QV,hgb]);refine jL rfl (zl ro) hl ?_ ?_
  .intro e he;exact hE e (by simp [exportR,Rd.bind_apply,hm,hk,zE,he,hk0])
  intro t a4 ht ha4;have hp:exportR b a = .ok (⟨m,k,t⟩,a4):=by simp [exportR,Rd.bind_apply,hm,hk,zE,ht,hk0,Rd.pure_apply]
  refine XN ?_;refine ja ?_;refine bk ?_;refine ⟨_,(by conv=>lhs; simp [resL,qC,jr,vstr]),qK hwf hs hp ha4 ?_ ?_⟩
  .simp [tupV,jr,vstr]
  .simp [jr,vstr]
theorem aib (ro bx n0:Nat) (hne:bx≠ro) (hn:ro<n0):RdL Tryz.prog (RLb ro bx n0 hne hn) (.func 105 [.ptr bx 0]) [] jv (qD (RLb ro bx n0 hne hn) globalR):=by
 refine Kp rfl fun b a ty im fu pg mo gl ex st da ops S E h1 h2 h3 h4 hs hb hE => ?_;refine qA (c:=jf Tryz.f105) Tryz.func105 rfl (by conv=>lhs; reduce) (by simp [Tryz.ntmps105]) ?_;rw [Tryz.ntmps105];intro hwf;have hl:=jx hwf hs;have hg:=old1 hl;have hu:=oldU hl;have hgb:=jbt hwf hne hb;rw [show St S [] []=St S [(ro,some (12,[vl vb b,bI a,ty,im,fu,pg,mo,gl,ex,st,da,bI ops]))] [] from old0 hl hs];refine bk ?_;refine QT ?_;refine XD E (ZR S ro b ty im fu pg mo gl ex st da [some (3,[.junk, .junk, .junk])]) [7] [0,2,3,7,1,4,5,6,8] [5,8] (ho:=Ka _ _ _ _ _ _ _ _ _ _ _ _ _) (hz:=zo (by simp [JR]) (by simp [jW,subO,jm]) (by simp)) (r:=by conv=>lhs;simp[QV,↓ju,ZR,Zs,zz,jl,ji,V.nj,V.nj1,V.bK,hgb]) (k:=?_);refine jo rfl (by conv=>lhs;simp[QV]) ?_ ?_
 .exact zo (by simp [JR]) (by simp [jW,subO,jm]) (by simp)
 refine JO rfl rfl (jaN ro) hl (by simp [JR]) (by simp [jW,subO,jm]) (by simp) ?_ ?_
 .intro e he;exact hE e (by simp [globalR,Rd.bind_apply,he])
 intro t a1 hm ha1;refine JO rfl rfl (jcn ro [0,1] (by simp)) hl (by simp [JR]) (by simp [jW,subO,jm]) (by simp) ?_ ?_
 .intro e he;exact hE e (by simp [globalR,Rd.bind_apply,hm,he])
 intro w a2 hw ha2;refine ZM (r:=by conv=>lhs;simp[QV,↓ju,ZR,Zs,zz,jl,ji,V.nj,V.nj1,V.bK]) (k:=?_);refine jo rfl (by conv=>lhs;simp[QV]) ?_ ?_
 .exact zo (by simp [JR]) (by simp [jW,subO,jm]) (by simp)
 refine jy ?_;refine bk ?_;refine XQ E ?_ (r:=by conv=>lhs;simp[QV,hgb]);refine Jr rfl (gOne 2 [65,66] (by simp) rfl) (jcn ro [65,66] (by simp)) hl ?_ ?_
 .intro e he;exact hE e (by simp [globalR,Rd.bind_apply,hm,hw,he])
 intro c a3 hc ha3;have ht:t=127\/t=126:=by
  simp only [kind,Rd.bind_apply] at hm;split at hm
  .cases hm
  .split at hm
   .rename_i h;simp only [Rd.pure_apply,Except.ok.injEq,Prod.mk.injEq] at hm;obtain ⟨rfl,_⟩:=hm;exact h
   .split at hm<;>simp [failAt] at hm
 have hc':c=65\/c=66:=by
  simp only [one,Rd.bind_apply,zE] at hc;split at hc
  .cases hc
  .split at hc
   .cases hc
   .rename_i h;split at h
    .simp [failAt] at h
    .rename_i h1;simp only [Rd.pure_apply,Except.ok.injEq,Prod.mk.injEq] at hc;obtain ⟨rfl,_⟩:=hc;simp at h1;omega
 refine XN ?_;refine ja ?_;have hwi:((w:Int)=1)=(w=1):=propext (by omega);by_cases hk0:(decide (c=65) != decide (t=127))=true
 .have hp:globalR b a = .error (10,(a3:Int)-1,0):=by simp [globalR,Rd.bind_apply,hm,hw,hc,zE,failAt,hk0]
  have w1:IntKind.i64.wrap ((a3:Int)-1)=(a3:Int)-1:=wrap_i64 (by omega) (by omega);rcases ht with rfl | rfl<;>rcases hc' with rfl | rfl<;>first | (simp at hk0; done) | skip
  .refine bk ?_;refine XQ E ?_ (r:=by conv=>lhs;simp[QV,hgb,hg,w1]);refine jb rfl (qI _ _ _ E (fun T hk=>(hE _ hp) T (hk.up ?_ ?_))) ?_
   .simp
   .simp
   .rintro _ _ h; exact h.elim
  .refine bk ?_;refine XQ E ?_ (r:=by conv=>lhs;simp[QV,hgb,hg,w1]);refine jb rfl (qI _ _ _ E (fun T hk=>(hE _ hp) T (hk.up ?_ ?_))) ?_
   .simp
   .simp
   .rintro _ _ h; exact h.elim
 .have hk1:zE (decide (c=65) != decide (t=127)) 10 1=Rd.pure ():=by
   funext b a
   simp only [zE];rw [if_neg hk0]
   rfl
  have fin : ∀ n a4 d a5,Ja t b a3 = .ok (n,a4)->one [11] b a4 = .ok (d,a5)->globalR b a = .ok (⟨t,decide (w=1),n⟩,a5):=by
   intro n a4 d a5 h1 h2;simp [globalR,Rd.bind_apply,hm,hw,hc,hk1,Rd.pure,h1,h2,Rd.pure_apply]
  have er1 : ∀ e,Ja t b a3 = .error e->globalR b a = .error e:=by
   intro e h1;simp [globalR,Rd.bind_apply,hm,hw,hc,hk1,Rd.pure,h1]
  have er2 : ∀ n a4 e,Ja t b a3 = .ok (n,a4)->one [11] b a4 = .error e->globalR b a = .error e:=by
   intro n a4 e h1 h2;simp [globalR,Rd.bind_apply,hm,hw,hc,hk1,Rd.pure,h1,h2]
  rcases ht with rfl | rfl<;>rcases hc' with rfl | rfl<;>first | (simp at hk0; done) | skip
  .refine bk ?_;refine XQ E ?_ (r:=by conv=>lhs;simp[QV,hgb]);refine jL rfl (jbv ro) hl ?_ ?_
   .intro e he;exact hE e (er1 e he)
   intro n a4 hn ha4;refine XN ?_;refine ja ?_;refine bk ?_;refine XQ E ?_ (r:=by conv=>lhs;simp[QV,hgb]);refine Jr rfl (gOne 3 [11] (by simp) rfl) (jcn ro [11] (by simp)) hl ?_ ?_
   .intro e he;exact hE e (er2 n a4 e hn he)
   intro d a5 hd ha5;have hp:=fin _ _ _ _ hn hd;refine XN ?_;refine ja ?_;refine bk ?_;refine ⟨_,(by conv=>lhs; simp [resL,qC,jv,hwi]),qK hwf hs hp ha5 ?_ ?_⟩
   .simp [tupV,jv,hwi]
   .simp [jv,hwi]
  .refine bk ?_;refine XQ E ?_ (r:=by conv=>lhs;simp[QV,hgb]);refine jL rfl (jeG ro) hl ?_ ?_
   .intro e he;exact hE e (er1 e he)
   intro n a4 hn ha4;refine XN ?_;refine ja ?_;refine bk ?_;refine XQ E ?_ (r:=by conv=>lhs;simp[QV,hgb]);refine Jr rfl (gOne 3 [11] (by simp) rfl) (jcn ro [11] (by simp)) hl ?_ ?_
   .intro e he;exact hE e (er2 n a4 e hn he)
   intro d a5 hd ha5;have hp:=fin _ _ _ _ hn hd;refine XN ?_;refine ja ?_;refine bk ?_;refine ⟨_,(by conv=>lhs; simp [resL,qC,jv,hwi]),qK hwf hs hp ha5 ?_ ?_⟩
   .simp [tupV,jv,hwi]
   .simp [jv,hwi]
theorem alg (ro bx n0:Nat) (hne:bx≠ro) (hn:ro<n0):RdL Tryz.prog (RLb ro bx n0 hne hn) (.func 116 [.ptr bx 0]) [] vb (qD (RLb ro bx n0 hne hn) byte1):=by
 refine Kp rfl fun b a ty im fu pg mo gl ex st da ops S E h1 h2 h3 h4 hs hb hE => ?_;refine jc (c:=jf Tryz.f116) Tryz.func116 rfl rfl (by simp [Tryz.ntmps116]) ?_;rw [Tryz.ntmps116];intro hwf;have hl:=jx hwf hs;have hg:=old1 hl;have hu:=oldU hl;have hgb:=jbt hwf hne hb;rw [show St S [] []=St S [(ro,some (12,[vl vb b,bI a,ty,im,fu,pg,mo,gl,ex,st,da,bI ops]))] [] from old0 hl hs];refine bk ?_;refine XQ E ?_ (r:=by conv=>lhs;simp[QV,hgb]);refine jL rfl (jao ro) hl ?_ ?_
 .intro e he;exact hE e he
 intro c a1 hp ha1;have hc2:c<256:=by
  simp only [byte1] at hp;split at hp
  .cases hp
  .cases hp
   rename_i h;rw [af,aa (by omega)];exact h3 _ (ah _)
 have w2:IntKind.u8.wrap (c:Int)=(c:Int):=by rw [Kg]; omega
 refine XN ?_ (r:=by conv=>lhs;simp[QV,w2]);refine ja ?_;refine bk ?_;refine qK hwf hs hp ha1 ?_ ?_
 .simp
 .simp
theorem aqr (ro bx n0:Nat) (hne:bx≠ro) (hn:ro<n0):RdL Tryz.prog (RLb ro bx n0 hne hn) (.func 114 [.ptr bx 0]) [] jq (qD (RLb ro bx n0 hne hn) dataR):=by
 refine Kp rfl fun b a ty im fu pg mo gl ex st da ops S E h1 h2 h3 h4 hs hb hE => ?_;refine qA (c:=jf Tryz.f114) Tryz.func114 rfl (by conv=>lhs; reduce) (by simp [Tryz.ntmps114]) ?_;rw [Tryz.ntmps114];intro hwf;have hl:=jx hwf hs;have hg:=old1 hl;have hu:=oldU hl;have hgb:=jbt hwf hne hb;rw [show St S [] []=St S [(ro,some (12,[vl vb b,bI a,ty,im,fu,pg,mo,gl,ex,st,da,bI ops]))] [] from old0 hl hs];refine bk ?_;refine XQ E ?_ (r:=by conv=>lhs;simp[QV,hgb]);refine jL rfl (u_v ro 0 6 (by omega)) hl ?_ ?_
 .intro e he;exact hE e (by simp [dataR,Rd.bind_apply,he])
 intro z a1 hz ha1;refine ja ?_;refine bk ?_;refine XQ E ?_ (r:=by conv=>lhs;simp[QV,hgb]);refine Jr rfl (gOne 1 [65] (by simp) rfl) (jcn ro [65] (by simp)) hl ?_ ?_
 .intro e he;exact hE e (by simp [dataR,Rd.bind_apply,hz,he])
 intro c a2 hc ha2;refine ja ?_;refine bk ?_;refine XQ E ?_ (r:=by conv=>lhs;simp[QV,hgb]);refine jL rfl (jbv ro) hl ?_ ?_
 .intro e he;exact hE e (by simp [dataR,Rd.bind_apply,hz,hc,he])
 intro n a3 hn ha3;refine XN ?_;refine ja ?_;refine bk ?_;refine XQ E ?_ (r:=by conv=>lhs;simp[QV,hgb]);refine Jr rfl (gOne 3 [11] (by simp) rfl) (jcn ro [11] (by simp)) hl ?_ ?_
 .intro e he;exact hE e (by simp [dataR,Rd.bind_apply,hz,hc,hn,he])
 intro d a4 hd ha4;refine ja ?_;refine bk ?_;refine XQ E ?_ (r:=by conv=>lhs;simp[QV,hgb]);refine jb rfl (afa (most:=4096) (p:=byte1) (enc:=vb) (bx:=bx) hwf ⟨_,hs⟩ hne (fun c=>hgb c _) (aK (jx hwf hb) (by simp [lid])) ⟨by first | assumption | omega,h2,h3,by first | assumption | omega⟩ (fun hn s T E hi hh hn0 he=>ag0 _ _ vb _ 4096 (by omega) (fun _=>rfl) (fun _=>rfl) (alg ro bx _ hne hn) (Yy (n:=(RLb ro bx _ hne hn).n0) (aK (jx hwf hb) (by simp [RLb,RLc,lid]))) s T E hi hh hn0 he) ?_) ?_
 .intro e he;exact hE e (by simp [dataR,Rd.bind_apply,hz,hc,hn,hd,he])
 rintro r T ⟨xs,a5,hx,ha5,rfl,rfl⟩;have hp:dataR b a = .ok (⟨i64 n,xs⟩,a5):=by simp [dataR,Rd.bind_apply,hz,hc,hn,hd,hx,Rd.pure_apply]
 refine XN ?_;refine ja ?_;refine bk ?_;refine ⟨_,(by conv=>lhs; simp [resL,qC,jq,aiv]),qK hwf hs hp ha5 ?_ ?_⟩
 .simp [tupV,jq,aiv]
 .simp [jq,aiv]
end Go.Vw
namespace Wm
def setR {α:Type} (q:Rd α) (f:RS->α->RS) (s:RS):Except Flt (Unit × RS):=match q s.b s.a with
 | .error e => .error e
 | .ok (x,a) => .ok ((),f (s.to a) x)
end Wm
namespace Go.Vw
open Go.Proofs Go.RowKit Wm
attribute [-simp] List.map_set
def encU (_:Unit):V := .tuple []
theorem jbN {ro:Nat} {S:Store} {s s':RS} {l:OL} {p:RS->Except Flt (Unit × RS)} {c:List V} (hw:S.Wf) (h:ro<S.nx) (hc:c=rc s') (hold:OldRS S.nx s') (hp:p s = .ok ((),s')) (hok:s'.ok) :
  zq S.nx (fun r T => ∃ x s',p s = .ok (x,s')/\s'.ok/\r=encU x/\T=S.upd ro (12,rc s')) (.tuple []) (St S [(ro,some (12,c))] l):=by
 subst hc;obtain ⟨h1,h2,h3,h4,h5,h6,h7,h8,h9⟩:=hold;exact jgc (X := .tuple []) hw h rfl rfl (by simp only [rc,JU,KO,jaQ,YC,h1.ids [],h2.ids [],h3.ids [],h4.ids [],h5.ids [],h6.ids [],h7.ids [],h8.ids [],h9.ids [],Bool.and_self]) (by simp only [rc,Za,jaD,jeB,Zu,h1.ren,h2.ren,h3.ren,h4.ren,h5.ren,h6.ren,h7.ren,h8.ren,h9.ren]) ⟨(),s',hp,hok,rfl,rfl⟩
theorem ass (ro:Nat):RdM Tryz.prog 36 [.ptr ro 0] ro encU (setR (many 32 sigR) fun s x=>{ s with ty:=vl je x }):=by
 intro s S E ⟨h1,h2,h3,h4⟩ hs hE;obtain ⟨b,a,ty,im,fu,pg,mo,gl,ex,st,da,ops⟩:=s;have hE' : ∀ e,many 32 sigR b a = .error e -> ∀ T,Kept S [ro] T->E (jY 46 e) T:=fun e he T hk=>hE e T (by simp only [setR]; rw [he]) hk;refine jc (c:=jf Tryz.f36) Tryz.func36 rfl rfl (by simp [Tryz.ntmps36]) ?_;rw [Tryz.ntmps36];intro hwf;have hl:=jx hwf hs;have hg:=old1 hl;have hu:=oldU hl;rw [show St S [] []=St S [(ro,some (12,[vl vb b,bI a,ty,im,fu,pg,mo,gl,ex,st,da,bI ops]))] [] from old0 hl hs];refine bk ?_;refine QT ?_;refine XD E (ZR S ro b .junk im fu pg mo gl ex st da [some (1,[.ptr ro 0])]) [] [0,1,2,3,4,5,6,7] [5] (ho:=Ka _ _ _ _ _ _ _ _ _ _ _ _ _) (hz:=zo (by simp [JR]) (by simp [jW,subO,jm]) (by simp)) (r:=by conv=>lhs;simp[QV,↓ju,ZR,Zs,zz,jl,ji,V.nj,V.nj1,V.bK]) (k:=?_);refine Yv (most:=32) (p:=sigR) (enc:=je) (bx:=lid S.nx 0) rfl rfl hwf ⟨_,hs⟩ (by simp [lid]; omega) (fun c=>by simp) (by simp [lid]) ⟨by first | assumption | omega,h2,h3,by first | assumption | omega⟩ (fun hn s T E hi hh hn0 he=>arv _ _ je _ 32 (by omega) (fun _=>rfl) (fun _=>rfl) (apj ro (lid S.nx 0) _ _ hn) (Yy (n:=(RLb ro (lid S.nx 0) _ _ hn).n0) (by simp [RLb,RLc,lid])) s T E hi hh hn0 he) (by simp [JR]) (by simp [jW,subO,jm]) (by simp) ?_ ?_
 .intro e he;exact hE' e he
 intro xs a1 hx ha1;obtain ⟨o1,o2,o3,o4,o5,o6,o7,o8,o9⟩:=Ya hwf hs;refine ZM (r:=by conv=>lhs;simp[QV,↓ju,ZR,Zs,zz,jl,ji,V.nj,V.nj1,V.bK,hg]) (k:=?_);refine jo rfl (by conv=>lhs;simp[QV,hg,hu]) ?_ ?_
 .exact zo (by simp [JR]) (by simp [jW,subO,jm]) (by simp)
 refine jy ?_;exact jbN (s':=⟨b,a1,vl je xs,im,fu,pg,mo,gl,ex,st,da,ops⟩) hwf hl rfl ⟨by simp [OldV],o2,o3,o4,o5,o6,o7,o8,o9⟩ (by simp only [setR,hx,RS.to]) ⟨ha1,h2,h3,h4⟩
theorem als (ro:Nat):RdM Tryz.prog 37 [.ptr ro 0] ro encU (setR (many 32 importR) fun s x=>{ s with im:=vl jp x }):=by
 intro s S E ⟨h1,h2,h3,h4⟩ hs hE;obtain ⟨b,a,ty,im,fu,pg,mo,gl,ex,st,da,ops⟩:=s;have hE' : ∀ e,many 32 importR b a = .error e -> ∀ T,Kept S [ro] T->E (jY 46 e) T:=fun e he T hk=>hE e T (by simp only [setR]; rw [he]) hk;refine jc (c:=jf Tryz.f37) Tryz.func37 rfl rfl (by simp [Tryz.ntmps37]) ?_;rw [Tryz.ntmps37];intro hwf;have hl:=jx hwf hs;have hg:=old1 hl;have hu:=oldU hl;rw [show St S [] []=St S [(ro,some (12,[vl vb b,bI a,ty,im,fu,pg,mo,gl,ex,st,da,bI ops]))] [] from old0 hl hs];refine bk ?_;refine QT ?_;refine XD E (ZR S ro b ty .junk fu pg mo gl ex st da [some (1,[.ptr ro 0])]) [] [0,1,2,3,4,5,6,7] [5] (ho:=Ka _ _ _ _ _ _ _ _ _ _ _ _ _) (hz:=zo (by simp [JR]) (by simp [jW,subO,jm]) (by simp)) (r:=by conv=>lhs;simp[QV,↓ju,ZR,Zs,zz,jl,ji,V.nj,V.nj1,V.bK]) (k:=?_);refine Yv (most:=32) (p:=importR) (enc:=jp) (bx:=lid S.nx 0) rfl rfl hwf ⟨_,hs⟩ (by simp [lid]; omega) (fun c=>by simp) (by simp [lid]) ⟨by first | assumption | omega,h2,h3,by first | assumption | omega⟩ (fun hn s T E hi hh hn0 he=>atl _ _ jp _ 32 (by omega) (fun _=>rfl) (fun _=>rfl) (aim ro (lid S.nx 0) _ _ hn) (Yy (n:=(RLb ro (lid S.nx 0) _ _ hn).n0) (by simp [RLb,RLc,lid])) s T E hi hh hn0 he) (by simp [JR]) (by simp [jW,subO,jm]) (by simp) ?_ ?_
 .intro e he;exact hE' e he
 intro xs a1 hx ha1;obtain ⟨o1,o2,o3,o4,o5,o6,o7,o8,o9⟩:=Ya hwf hs;refine ZM (r:=by conv=>lhs;simp[QV,↓ju,ZR,Zs,zz,jl,ji,V.nj,V.nj1,V.bK,hg]) (k:=?_);refine jo rfl (by conv=>lhs;simp[QV,hg,hu]) ?_ ?_
 .exact zo (by simp [JR]) (by simp [jW,subO,jm]) (by simp)
 refine jy ?_;exact jbN (s':=⟨b,a1,ty,vl jp xs,fu,pg,mo,gl,ex,st,da,ops⟩) hwf hl rfl ⟨o1,by simp [OldV],o3,o4,o5,o6,o7,o8,o9⟩ (by simp only [setR,hx,RS.to]) ⟨ha1,h2,h3,h4⟩
theorem amh (ro:Nat):RdM Tryz.prog 40 [.ptr ro 0] ro encU (setR (many 32 globalR) fun s x=>{ s with gl:=vl jv x }):=by
 intro s S E ⟨h1,h2,h3,h4⟩ hs hE;obtain ⟨b,a,ty,im,fu,pg,mo,gl,ex,st,da,ops⟩:=s;have hE' : ∀ e,many 32 globalR b a = .error e -> ∀ T,Kept S [ro] T->E (jY 46 e) T:=fun e he T hk=>hE e T (by simp only [setR]; rw [he]) hk;refine jc (c:=jf Tryz.f40) Tryz.func40 rfl rfl (by simp [Tryz.ntmps40]) ?_;rw [Tryz.ntmps40];intro hwf;have hl:=jx hwf hs;have hg:=old1 hl;have hu:=oldU hl;rw [show St S [] []=St S [(ro,some (12,[vl vb b,bI a,ty,im,fu,pg,mo,gl,ex,st,da,bI ops]))] [] from old0 hl hs];refine bk ?_;refine QT ?_;refine XD E (ZR S ro b ty im fu pg mo .junk ex st da [some (1,[.ptr ro 0])]) [] [0,1,2,3,4,5,6,7] [5] (ho:=Ka _ _ _ _ _ _ _ _ _ _ _ _ _) (hz:=zo (by simp [JR]) (by simp [jW,subO,jm]) (by simp)) (r:=by conv=>lhs;simp[QV,↓ju,ZR,Zs,zz,jl,ji,V.nj,V.nj1,V.bK]) (k:=?_);refine Yv (most:=32) (p:=globalR) (enc:=jv) (bx:=lid S.nx 0) rfl rfl hwf ⟨_,hs⟩ (by simp [lid]; omega) (fun c=>by simp) (by simp [lid]) ⟨by first | assumption | omega,h2,h3,by first | assumption | omega⟩ (fun hn s T E hi hh hn0 he=>aun _ _ jv _ 32 (by omega) (fun _=>rfl) (fun _=>rfl) (aib ro (lid S.nx 0) _ _ hn) (Yy (n:=(RLb ro (lid S.nx 0) _ _ hn).n0) (by simp [RLb,RLc,lid])) s T E hi hh hn0 he) (by simp [JR]) (by simp [jW,subO,jm]) (by simp) ?_ ?_
 .intro e he;exact hE' e he
 intro xs a1 hx ha1;obtain ⟨o1,o2,o3,o4,o5,o6,o7,o8,o9⟩:=Ya hwf hs;refine ZM (r:=by conv=>lhs;simp[QV,↓ju,ZR,Zs,zz,jl,ji,V.nj,V.nj1,V.bK,hg]) (k:=?_);refine jo rfl (by conv=>lhs;simp[QV,hg,hu]) ?_ ?_
 .exact zo (by simp [JR]) (by simp [jW,subO,jm]) (by simp)
 refine jy ?_;exact jbN (s':=⟨b,a1,ty,im,fu,pg,mo,vl jv xs,ex,st,da,ops⟩) hwf hl rfl ⟨o1,o2,o3,o4,o5,by simp [OldV],o7,o8,o9⟩ (by simp only [setR,hx,RS.to]) ⟨ha1,h2,h3,h4⟩
theorem alo (ro:Nat):RdM Tryz.prog 41 [.ptr ro 0] ro encU (setR (many 32 exportR) fun s x=>{ s with ex:=vl jr x }):=by
 intro s S E ⟨h1,h2,h3,h4⟩ hs hE;obtain ⟨b,a,ty,im,fu,pg,mo,gl,ex,st,da,ops⟩:=s;have hE' : ∀ e,many 32 exportR b a = .error e -> ∀ T,Kept S [ro] T->E (jY 46 e) T:=fun e he T hk=>hE e T (by simp only [setR]; rw [he]) hk;refine jc (c:=jf Tryz.f41) Tryz.func41 rfl rfl (by simp [Tryz.ntmps41]) ?_;rw [Tryz.ntmps41];intro hwf;have hl:=jx hwf hs;have hg:=old1 hl;have hu:=oldU hl;rw [show St S [] []=St S [(ro,some (12,[vl vb b,bI a,ty,im,fu,pg,mo,gl,ex,st,da,bI ops]))] [] from old0 hl hs];refine bk ?_;refine QT ?_;refine XD E (ZR S ro b ty im fu pg mo gl .junk st da [some (1,[.ptr ro 0])]) [] [0,1,2,3,4,5,6,7] [5] (ho:=Ka _ _ _ _ _ _ _ _ _ _ _ _ _) (hz:=zo (by simp [JR]) (by simp [jW,subO,jm]) (by simp)) (r:=by conv=>lhs;simp[QV,↓ju,ZR,Zs,zz,jl,ji,V.nj,V.nj1,V.bK]) (k:=?_);refine Yv (most:=32) (p:=exportR) (enc:=jr) (bx:=lid S.nx 0) rfl rfl hwf ⟨_,hs⟩ (by simp [lid]; omega) (fun c=>by simp) (by simp [lid]) ⟨by first | assumption | omega,h2,h3,by first | assumption | omega⟩ (fun hn s T E hi hh hn0 he=>auh _ _ jr _ 32 (by omega) (fun _=>rfl) (fun _=>rfl) (ahh ro (lid S.nx 0) _ _ hn) (Yy (n:=(RLb ro (lid S.nx 0) _ _ hn).n0) (by simp [RLb,RLc,lid])) s T E hi hh hn0 he) (by simp [JR]) (by simp [jW,subO,jm]) (by simp) ?_ ?_
 .intro e he;exact hE' e he
 intro xs a1 hx ha1;obtain ⟨o1,o2,o3,o4,o5,o6,o7,o8,o9⟩:=Ya hwf hs;refine ZM (r:=by conv=>lhs;simp[QV,↓ju,ZR,Zs,zz,jl,ji,V.nj,V.nj1,V.bK,hg]) (k:=?_);refine jo rfl (by conv=>lhs;simp[QV,hg,hu]) ?_ ?_
 .exact zo (by simp [JR]) (by simp [jW,subO,jm]) (by simp)
 refine jy ?_;exact jbN (s':=⟨b,a1,ty,im,fu,pg,mo,gl,vl jr xs,st,da,ops⟩) hwf hl rfl ⟨o1,o2,o3,o4,o5,o6,by simp [OldV],o8,o9⟩ (by simp only [setR,hx,RS.to]) ⟨ha1,h2,h3,h4⟩
theorem atr (ro:Nat):RdM Tryz.prog 45 [.ptr ro 0] ro encU (setR (many 32 dataR) fun s x=>{ s with da:=vl jq x }):=by
 intro s S E ⟨h1,h2,h3,h4⟩ hs hE;obtain ⟨b,a,ty,im,fu,pg,mo,gl,ex,st,da,ops⟩:=s;have hE' : ∀ e,many 32 dataR b a = .error e -> ∀ T,Kept S [ro] T->E (jY 46 e) T:=fun e he T hk=>hE e T (by simp only [setR]; rw [he]) hk;refine jc (c:=jf Tryz.f45) Tryz.func45 rfl rfl (by simp [Tryz.ntmps45]) ?_;rw [Tryz.ntmps45];intro hwf;have hl:=jx hwf hs;have hg:=old1 hl;have hu:=oldU hl;rw [show St S [] []=St S [(ro,some (12,[vl vb b,bI a,ty,im,fu,pg,mo,gl,ex,st,da,bI ops]))] [] from old0 hl hs];refine bk ?_;refine QT ?_;refine XD E (ZR S ro b ty im fu pg mo gl ex st .junk [some (1,[.ptr ro 0])]) [] [0,1,2,3,4,5,6,7] [5] (ho:=Ka _ _ _ _ _ _ _ _ _ _ _ _ _) (hz:=zo (by simp [JR]) (by simp [jW,subO,jm]) (by simp)) (r:=by conv=>lhs;simp[QV,↓ju,ZR,Zs,zz,jl,ji,V.nj,V.nj1,V.bK]) (k:=?_);refine Yv (most:=32) (p:=dataR) (enc:=jq) (bx:=lid S.nx 0) rfl rfl hwf ⟨_,hs⟩ (by simp [lid]; omega) (fun c=>by simp) (by simp [lid]) ⟨by first | assumption | omega,h2,h3,by first | assumption | omega⟩ (fun hn s T E hi hh hn0 he=>arw _ _ jq _ 32 (by omega) (fun _=>rfl) (fun _=>rfl) (aqr ro (lid S.nx 0) _ _ hn) (Yy (n:=(RLb ro (lid S.nx 0) _ _ hn).n0) (by simp [RLb,RLc,lid])) s T E hi hh hn0 he) (by simp [JR]) (by simp [jW,subO,jm]) (by simp) ?_ ?_
 .intro e he;exact hE' e he
 intro xs a1 hx ha1;obtain ⟨o1,o2,o3,o4,o5,o6,o7,o8,o9⟩:=Ya hwf hs;refine ZM (r:=by conv=>lhs;simp[QV,↓ju,ZR,Zs,zz,jl,ji,V.nj,V.nj1,V.bK,hg]) (k:=?_);refine jo rfl (by conv=>lhs;simp[QV,hg,hu]) ?_ ?_
 .exact zo (by simp [JR]) (by simp [jW,subO,jm]) (by simp)
 refine jy ?_;exact jbN (s':=⟨b,a1,ty,im,fu,pg,mo,gl,ex,st,vl jq xs,ops⟩) hwf hl rfl ⟨o1,o2,o3,o4,o5,o6,o7,o8,by simp [OldV]⟩ (by simp only [setR,hx,RS.to]) ⟨ha1,h2,h3,h4⟩
end Go.Vw
namespace Wm
def memP (s:RS):Except Flt (Nat × RS):=match one [0,1] s.b s.a with
 | .error e => .error e
 | .ok (c,a1)=>match u 16 7 s.b a1 with
  | .error e => .error e
  | .ok (n,a2) =>
   if c=1 then match u 16 7 s.b a2 with
    | .error e => .error e
    | .ok (m,a3)=>if m<n then .error (6,(a2:Int),0) else .ok (0,{ s with a:=a3,pg := .int .i64 n,mo := .int .i64 m })
   else .ok (0,{ s with a:=a2,pg := .int .i64 n,mo := .int .i64 16 })
end Wm
namespace Go.Vw
open Go.Proofs Go.RowKit Wm
attribute [-simp] List.map_set
def manyRS {α:Type} (most:Nat) (p:RS->Except Flt (α × RS)) (s:RS):Except Flt (List α × RS):=match lift (u most 7) s with
 | .error e => .error e
 | .ok (n,s1)=>zO p n s1
def jds (s:RS):Except Flt (Unit × RS):=match manyRS 1 memP s with
 | .error e => .error e
 | .ok (_,s1) => .ok ((),s1)
theorem jeI {α:Type} (ro bx n0:Nat) (hne:bx≠ro) (hn:ro<n0) (most:Nat) (p:RS->Except Flt (α × RS)) (s:RS):jI (RLb ro bx n0 hne hn) most p s=manyRS most p s:=by
 simp only [jI,manyRS];have:qD (RLb ro bx n0 hne hn) (u most 7) s=lift (u most 7) s:=by
  simp only [qD,lift];cases h:u most 7 s.b s.a with
  | error e=>rw [show u most 7 ((RLb ro bx n0 hne hn).rs s).b ((RLb ro bx n0 hne hn).rs s).a = .error e from h]
  | ok r=>rw [show u most 7 ((RLb ro bx n0 hne hn).rs s).b ((RLb ro bx n0 hne hn).rs s).a = .ok r from h]; rfl
 rw [this];cases lift (u most 7) s with
 | error e=>rfl
 | ok r=>rfl
theorem apm {n:Nat} {s s':RS} {x:Nat} (h:memP s = .ok (x,s')) (ho:OldRS n s):OldRS n s':=by
 obtain ⟨o1,o2,o3,o4,o5,o6,o7,o8,o9⟩:=ho;simp only [memP] at h;split at h
 .cases h
 .split at h
  .cases h
  .split at h
   .split at h
    .cases h
    .split at h
     .cases h
     .cases h; exact ⟨o1,o2,o3,by simp [OldV],by simp [OldV],o6,o7,o8,o9⟩
   .cases h; exact ⟨o1,o2,o3,by simp [OldV],by simp [OldV],o6,o7,o8,o9⟩
theorem ad8 {n:Nat} : ∀ {k:Nat} {s s':RS} {xs:List Nat},zO memP k s = .ok (xs,s')->OldRS n s->OldRS n s'
 | 0,s,s',xs,h,ho=>by cases h; exact ho
 | k+1,s,s',xs,h,ho=>by
  rw [zO] at h;split at h
  .cases h
  .rename_i h1;split at h
   .cases h
   .rename_i h2;cases h;exact ad8 h2 (apm h1 ho)
theorem aii {n:Nat} {s s':RS} {x:Unit} (h:jds s = .ok (x,s')) (ho:OldRS n s):OldRS n s':=by
 simp only [jds,manyRS,lift] at h;split at h
 .cases h
 .rename_i h1;cases h;split at h1
  .cases h1
  .rename_i h2;refine ad8 h1 ?_;split at h2
   .cases h2
   .cases h2; exact ho
theorem aj6 (ro bx n0:Nat) (hne:bx≠ro) (hn:ro<n0):RdL Tryz.prog (RLb ro bx n0 hne hn) (.func 102 [.ptr bx 0]) [] bI memP:=by
 intro s S E ⟨⟨h1,h2,h3,h4⟩,hold0⟩ hh hn0 hE;refine ⟨rfl, ?_⟩;obtain ⟨b,a,ty,im,fu,pg,mo,gl,ex,st,da,ops⟩:=s;have hs:S.get ro=some (12,rc ⟨b,a,ty,im,fu,pg,mo,gl,ex,st,da,ops⟩):=hh (ro,_) List.mem_cons_self;have hb:S.get bx=some (1,[.ptr ro 0]):=hh (bx,(1,[.ptr ro 0])) (List.mem_cons_of_mem _ List.mem_cons_self);have hE' : ∀ e,memP ⟨b,a,ty,im,fu,pg,mo,gl,ex,st,da,ops⟩ = .error e -> ∀ T,Kept S [ro] T->E (jY 46 e) T:=fun e he T hk=>hE e T he hk;refine jc (c:=jf Tryz.f102) Tryz.func102 rfl rfl (by simp [Tryz.ntmps102]) ?_;rw [Tryz.ntmps102];intro hwf;have hl:=jx hwf hs;have hg:=old1 hl;have hu:=oldU hl;have hgb:=jbt hwf hne hb;rw [show St S [] []=St S [(ro,some (12,[vl vb b,bI a,ty,im,fu,pg,mo,gl,ex,st,da,bI ops]))] [] from old0 hl hs];have fin : ∀ s' X,memP ⟨b,a,ty,im,fu,pg,mo,gl,ex,st,da,ops⟩ = .ok (0,s')->s'.ok->OldRS S.nx s'->OldRS n0 s'->X=rc s' -> ∀ l,zq S.nx (fun r T => ∃ x s',memP ⟨b,a,ty,im,fu,pg,mo,gl,ex,st,da,ops⟩ = .ok (x,s')/\(RLb ro bx n0 hne hn).inv s'/\r=bI x/\T=putU S ((RLb ro bx n0 hne hn).us s')) (.int .i64 0) (St S [(ro,some (12,X))] l):=by
  intro s' X hp hok hold hold2 hX l;subst hX;obtain ⟨g1,g2,g3,g4,g5,g6,g7,g8,g9⟩:=hold;refine jgc (X := .int .i64 0) hwf hl rfl rfl (by simp only [rc,JU,KO,jaQ,YC,g1.ids [],g2.ids [],g3.ids [],g4.ids [],g5.ids [],g6.ids [],g7.ids [],g8.ids [],g9.ids [],Bool.and_self]) (by simp only [rc,Za,jaD,jeB,Zu,g1.ren,g2.ren,g3.ren,g4.ren,g5.ren,g6.ren,g7.ren,g8.ren,g9.ren]) ⟨0,s',hp,⟨hok,hold2⟩,rfl, ?_⟩;show _=(S.upd ro _).upd bx _;refine Store.eq_of (fun o => ?_) rfl;rw [jQ,jQ,jQ];by_cases e:o=bx
  .rw [if_pos e,if_neg (by rw [e]; exact hne),e,hb]
  .rw [if_neg e]
 obtain ⟨o1,o2,o3,o4,o5,o6,o7,o8,o9⟩:=Ya hwf hs;obtain ⟨i1,i2,i3,i4,i5,i6,i7,i8,i9⟩:=hold0;refine bk ?_;refine XQ E ?_ (r:=by conv=>lhs;simp[QV,hgb]);refine Jr rfl (gOne 0 [0,1] (by simp) rfl) (jcn ro [0,1] (by simp)) hl ?_ ?_
 .intro e he;exact hE' e (by simp [memP,he])
 intro c a1 hc ha1;have hc':c=0\/c=1:=by
  simp only [one,Rd.bind_apply,zE] at hc;split at hc
  .cases hc
  .split at hc
   .cases hc
   .rename_i h;split at h
    .simp [failAt] at h
    .rename_i h1;simp only [Rd.pure_apply,Except.ok.injEq,Prod.mk.injEq] at hc;obtain ⟨rfl,_⟩:=hc;simp at h1;omega
 rcases hc' with rfl | rfl
 .refine XN ?_;refine ja ?_;refine bk ?_;refine QT ?_;refine XD E (ZR S ro b ty im fu .junk .junk gl ex st da []) [] [0,1,2,3,4,5,6,7,8,9,10,11] [11] (ho:=Ka _ _ _ _ _ _ _ _ _ _ _ _ _) (hz:=zo (by simp [JR]) (by simp [jW,subO,jm]) (by simp)) (r:=by conv=>lhs;simp[QV,↓ju,ZR,Zs,zz,jl,ji,V.nj,V.nj1,V.bK,hgb]) (k:=?_);refine JO rfl rfl (u_v ro 16 7 (by omega)) hl (by simp [JR]) (by simp [jW,subO,jm]) (by simp) ?_ ?_
  .intro e he;exact hE' e (by simp [memP,hc,he])
  intro n a2 hn ha2;refine ZM (r:=by conv=>lhs;simp[QV,↓ju,ZR,Zs,zz,jl,ji,V.nj,V.nj1,V.bK,hg]) (k:=?_);refine jo rfl (by conv=>lhs;simp[QV,hg,hu]) ?_ ?_
  .exact zo (by simp [JR]) (by simp [jW,subO,jm]) (by simp)
  refine ZM (r:=by conv=>lhs;simp[QV,↓ju,ZR,Zs,zz,jl,ji,V.nj,V.nj1,V.bK,hg]) (k:=?_);refine jo rfl (by conv=>lhs;simp[QV,hg,hu]) ?_ ?_
  .exact zo (by simp [JR]) (by simp [jW,subO,jm]) (by simp)
  refine jy ?_;refine bk ?_;exact fin ⟨b,a2,ty,im,fu, .int .i64 n, .int .i64 16,gl,ex,st,da,ops⟩ _ (by simp [memP,hc,hn]) ⟨ha2,h2,h3,h4⟩ ⟨o1,o2,o3,by simp [OldV],by simp [OldV],o6,o7,o8,o9⟩ ⟨i1,i2,i3,by simp [OldV],by simp [OldV],i6,i7,i8,i9⟩ rfl _
 .refine XN ?_;refine ja ?_;refine bk ?_;refine QT ?_;refine XD E (ZR S ro b ty im fu .junk .junk gl ex st da []) [] [0,1,2,3,4,5,6,7,8,9,10,11] [11] (ho:=Ka _ _ _ _ _ _ _ _ _ _ _ _ _) (hz:=zo (by simp [JR]) (by simp [jW,subO,jm]) (by simp)) (r:=by conv=>lhs;simp[QV,↓ju,ZR,Zs,zz,jl,ji,V.nj,V.nj1,V.bK,hgb]) (k:=?_);refine JO rfl rfl (u_v ro 16 7 (by omega)) hl (by simp [JR]) (by simp [jW,subO,jm]) (by simp) ?_ ?_
  .intro e he;exact hE' e (by simp [memP,hc,he])
  intro n a2 hn ha2;refine ZM (r:=by conv=>lhs;simp[QV,↓ju,ZR,Zs,zz,jl,ji,V.nj,V.nj1,V.bK,hg]) (k:=?_);refine jo rfl (by conv=>lhs;simp[QV,hg,hu]) ?_ ?_
  .exact zo (by simp [JR]) (by simp [jW,subO,jm]) (by simp)
  refine ZM (r:=by conv=>lhs;simp[QV,↓ju,ZR,Zs,zz,jl,ji,V.nj,V.nj1,V.bK,hg]) (k:=?_);refine jo rfl (by conv=>lhs;simp[QV,hg,hu]) ?_ ?_
  .exact zo (by simp [JR]) (by simp [jW,subO,jm]) (by simp)
  refine jy ?_;refine bm hgb hg ?_;refine QT ?_;refine XD E (ZR S ro b ty im fu (.int .i64 n) .junk gl ex st da []) [] [0,1,2,3,4,5,6] [25] (ho:=Ka _ _ _ _ _ _ _ _ _ _ _ _ _) (hz:=zo (by simp [JR]) (by simp [jW,subO,jm]) (by simp)) (r:=by conv=>lhs;simp[QV,↓ju,ZR,Zs,zz,jl,ji,V.nj,V.nj1,V.bK,hgb]) (k:=?_);refine JO rfl rfl (u_v ro 16 7 (by omega)) hl (by simp [JR]) (by simp [jW,subO,jm]) (by simp) ?_ ?_
  .intro e he;exact hE' e (by simp [memP,hc,hn,he])
  intro m a3 hm ha3;refine ZM (r:=by conv=>lhs;simp[QV,↓ju,ZR,Zs,zz,jl,ji,V.nj,V.nj1,V.bK,hg]) (k:=?_);refine jo rfl (by conv=>lhs;simp[QV,hg,hu]) ?_ ?_
  .exact zo (by simp [JR]) (by simp [jW,subO,jm]) (by simp)
  refine jy ?_;by_cases hmn:m<n
  .have d:(m:Int)<(n:Int):=by omega
   have hp:memP ⟨b,a,ty,im,fu,pg,mo,gl,ex,st,da,ops⟩ = .error (6,(a2:Int),0):=by simp [memP,hc,hn,hm,hmn]
   refine bq hgb hg d hmn ?_;refine XQ E ?_;refine jb rfl (qI _ _ _ E (fun T hk=>(hE' _ hp) T (hk.up ?_ ?_))) ?_
   .simp
   .simp
   .rintro _ _ h; exact h.elim
  .have d : ¬ (m:Int)<(n:Int):=by omega
   refine bq hgb hg d hmn ?_;exact fin ⟨b,a3,ty,im,fu, .int .i64 n, .int .i64 m,gl,ex,st,da,ops⟩ _ (by simp [memP,hc,hn,hm,hmn]) ⟨ha3,h2,h3,h4⟩ ⟨o1,o2,o3,by simp [OldV],by simp [OldV],o6,o7,o8,o9⟩ ⟨i1,i2,i3,by simp [OldV],by simp [OldV],i6,i7,i8,i9⟩ rfl _
theorem an8 (ro:Nat):RdM Tryz.prog 39 [.ptr ro 0] ro encU jds:=by
 intro s S E ⟨h1,h2,h3,h4⟩ hs hE;refine jc (c:=jf Tryz.f39) Tryz.func39 rfl rfl (by simp [Tryz.ntmps39]) ?_;rw [Tryz.ntmps39];intro hwf;obtain ⟨b,a,ty,im,fu,pg,mo,gl,ex,st,da,ops⟩:=s;have hl:=jx hwf hs;have hg:=old1 hl;have hu:=oldU hl;rw [show St S [] []=St S [(ro,some (12,[vl vb b,bI a,ty,im,fu,pg,mo,gl,ex,st,da,bI ops]))] [] from old0 hl hs];refine bk ?_;refine XQ E ?_;have hL:=Ya hwf hs;have hne:lid S.nx 0≠ro:=by simp [lid]; omega
 have hn1:ro<lid S.nx 1:=by simp [lid]; omega
 have hL1:OldRS (lid S.nx 1) ⟨b,a,ty,im,fu,pg,mo,gl,ex,st,da,ops⟩:=OldRS.mono (n:=S.nx) hL (by simp [lid]);have key:=aa3 (RLb ro (lid S.nx 0) (lid S.nx 1) hne hn1) _ bI memP 1 (by omega) (fun _=>rfl) (fun _=>rfl) (aj6 ro (lid S.nx 0) (lid S.nx 1) hne hn1) (Yy (n:=lid S.nx 1) (by simp [lid])) ⟨b,a,ty,im,fu,pg,mo,gl,ex,st,da,ops⟩ (St S [(ro,some (12,[vl vb b,bI a,ty,im,fu,pg,mo,gl,ex,st,da,bI ops]))] [some (1,[V.ptr ro 0])]) E ⟨⟨h1,h2,h3,h4⟩,hL1⟩ ?_ ?_ ?_
 .refine jb rfl key ?_;rintro r T ⟨xs,s',hx,⟨hok,_⟩,rfl,rfl⟩;have hp:jds ⟨b,a,ty,im,fu,pg,mo,gl,ex,st,da,ops⟩ = .ok ((),s'):=by
   simp only [jds];rw [<-jeI ro (lid S.nx 0) (lid S.nx 1) hne hn1,hx]
  have ho:=aii hp hL;have hput:putU (St S [(ro,some (12,[vl vb b,bI a,ty,im,fu,pg,mo,gl,ex,st,da,bI ops]))] [some (1,[V.ptr ro 0])]) ((RLb ro (lid S.nx 0) (lid S.nx 1) hne hn1).us s')=St S [(ro,some (12,rc s'))] [some (1,[V.ptr ro 0])]:=by
   show ((St S _ _).upd ro _).upd (lid S.nx 0) _=_;rw [hu];refine Store.eq_of (fun o => ?_) rfl;rw [jQ];split
   .rename_i e; rw [e]; simp
   .rfl
  rw [hput];refine ja ?_;exact jbN hwf hl rfl ho hp hok
 .intro q hq;rcases aE.1 hq with rfl | hq
  .exact hg _ _
  .rcases aE.1 hq with rfl | hq
   .simp
   .cases hq
 .rw [jH]; exact aT _
 .intro e T he hk;refine hE e T ?_ (hk.up (by simp) (by intro k hk; exact .inl hk));simp only [jds];rw [<-jeI ro (lid S.nx 0) (lid S.nx 1) hne hn1,he]
end Go.Vw
namespace Ss
structure Grp where
 first:Int
 many:Int
 kind:Int
 ty:Int
deriving DecidableEq,Inhabited
def groups:List Grp:=[⟨69,1,0,127⟩,⟨70,10,1,127⟩,⟨80,1,0,126⟩,⟨81,10,1,126⟩,⟨103,3,2,127⟩,⟨106,15,3,127⟩,⟨121,3,2,126⟩,⟨124,15,3,126⟩,⟨167,1,4,126⟩,⟨172,2,5,127⟩,⟨192,2,6,127⟩,⟨194,3,6,126⟩]
def Grp.has (op:Int) (g:Grp):Bool:=decide (g.first<=op)&&decide (op-g.first<g.many)
def findIn (op:Int):List Grp->Option Grp
 | []=>none
 | g::gs=>if g.has op then some g else findIn op gs
def find (op:Int):Option Grp:=findIn op groups
def division (k:Int):Bool:=decide (3<=k)&&decide (k<=6)
def total (op:Int):Bool:=match find op with
 | some g => !(decide (g.kind=3)&&division (op-g.first))
 | none=>false
def pure (op:Int):Bool:=decide (op=256)||decide (op=27)||total op
def Grp.ins (g:Grp):List Int:=if g.kind=1\/g.kind=3 then [g.ty,g.ty] else [g.ty]
def Grp.out (g:Grp):Int:=if g.kind=0\/g.kind=1\/g.kind=4 then 127 else if g.kind=5 then 126 else g.ty
def bJ (op:Int):List Int × Int × Bool:=match find op with
 | some g=>(g.ins,g.out,true)
 | none=>([],0,false)
end Ss
namespace Go.Vw
open Go.Proofs Go.RowKit
attribute [-simp] List.map_set
def jcg (g:Ss.Grp):V := .agg [bH g.first,bH g.many,bH g.kind,bH g.ty]
theorem akb (g:Ss.Grp):jcg g = .agg [bH g.first,bH g.many,bH g.kind,bH g.ty]:=nr rfl
theorem ako (g:Ss.Grp):(jcg g).ncells=4:=nr rfl
theorem jfY (g:Ss.Grp):(jcg g).closed=true:=rfl
attribute [simp] akb ako
theorem ap4:bF 170 [] (vl jcg Ss.groups):=by
 intro S;refine bE Tryz.func170 Tryz.ntmps170 fun hwf=>?_;have hr:rep0 [V.int .i64 0, .int .i64 0, .int .i64 0, .int .i64 0] 12=[.int .i64 0, .int .i64 0, .int .i64 0, .int .i64 0, .int .i64 0, .int .i64 0, .int .i64 0, .int .i64 0, .int .i64 0, .int .i64 0, .int .i64 0, .int .i64 0, .int .i64 0, .int .i64 0, .int .i64 0, .int .i64 0, .int .i64 0, .int .i64 0, .int .i64 0, .int .i64 0, .int .i64 0, .int .i64 0, .int .i64 0, .int .i64 0, .int .i64 0, .int .i64 0, .int .i64 0, .int .i64 0, .int .i64 0, .int .i64 0, .int .i64 0, .int .i64 0, .int .i64 0, .int .i64 0, .int .i64 0, .int .i64 0, .int .i64 0, .int .i64 0, .int .i64 0, .int .i64 0, .int .i64 0, .int .i64 0, .int .i64 0, .int .i64 0, .int .i64 0, .int .i64 0, .int .i64 0, .int .i64 0]:=rfl;refine bi hr ?_;exact qc (l:=[none]) hwf (Ghost.toB (jdF (k:=0) (enc:=jcg) (s:=4) (fun _=>rfl) jfY Ss.groups (by simp) (by rfl)) _) rfl
def findV (op:Int):Option Ss.Grp->V
 | some g => .tuple [jcg g,bH (op-g.first), .bool true]
 | none => .tuple [jcg ⟨0,0,0,0⟩,bH 0, .bool false]
theorem au2 (op:Int) (ho:Ss.I64 op):bF 167 [bH op] (findV op (Ss.find op)):=by
 intro S;have hgs : ∀ g∈Ss.groups,0<=g.first/\g.first<=1000/\0<=g.many/\g.many<=1000:=by decide
 have hlen:Ss.groups.length=12:=rfl;have cg:=ap4;unfold Ss.find;generalize Ss.groups=gs at *
 obtain ⟨ho1,ho2⟩:=ho;refine qm (c:=jf Tryz.f167) Tryz.func167 rfl (by conv=>lhs; reduce) (by simp [Tryz.ntmps167]) ?_;rw [Tryz.ntmps167];intro hwf;refine bk ?_;refine QP ?_;refine QL (cg) ?_;refine bz ?_;refine bB [0,2,7,8,9] (fun c σ S' => ∃ (k:Nat),k<=gs.length/\c=gs.length-k/\Ss.findIn op (gs.drop k)=Ss.findIn op gs/\σ=[(0,bH op),(2, .ptr (lid S.nx 0) 0),(7,vl jcg gs),(8,bI gs.length),(9,bI k)]/\S'=St S [] [some (4,[.int .i64 0, .int .i64 0, .int .i64 0, .int .i64 0])]) gs.length ?_ ?_
 .exact ⟨0,by omega,rfl,rfl,by simp [Fr.oy],rfl⟩
 .rintro c σ T ⟨k,hk,rfl,hd,rfl,rfl⟩;by_cases hkt:k<gs.length
  .have hw:=jP hkt (by omega);have hst:Ss.findIn op (gs.drop k)=if gs[k].has op then some gs[k] else Ss.findIn op (gs.drop (k+1)):=by rw [aj hkt,Ss.findIn]
   have hgk:=hgs _ (ah hkt);obtain ⟨⟨g1,g2,g3,g4⟩,hx⟩ : ∃ g,gs[k]=g:=⟨_,rfl⟩
   rw [hx] at hst hgk;simp only at hgk;by_cases h1:g1<=op
   .have hws:IntKind.i64.wrap (op-g1)=op-g1:=wrap_i64 (by omega) (by omega);by_cases h2:op-g1<g2
    .have hst':Ss.findIn op gs=some ⟨g1,g2,g3,g4⟩:=by rw [<-hd,hst]; simp [Ss.Grp.has,h1,h2]
     rw [hst'];refine bp hkt hx h1 h2 hws ?_;refine bD (St S [] [none,some (4,[.int .i64 g1, .int .i64 g2, .int .i64 g3, .int .i64 g4])]) (St S [] [none,some (4,[.int .i64 g1, .int .i64 g2, .int .i64 g3, .int .i64 g4])]) [] ?_ (r:=by conv=>lhs; simp [QV,hws]);refine QI ?_;refine bv hws ?_;refine bA ?_;exact JZ (by simp; rfl) (jd hwf (by simp [findV]) rfl)
    .rw [show Ss.Grp.has op ⟨g1,g2,g3,g4⟩=false by simp [Ss.Grp.has,h1,h2]] at hst;refine bp hkt hx h1 h2 hws ?_;refine QA [0] (h:=⟨?_,k+1,hkt,rfl,by rw [<-hd,hst]; rfl,by simp [hw],rfl⟩);omega
   .rw [show Ss.Grp.has op ⟨g1,g2,g3,g4⟩=false by simp [Ss.Grp.has,h1]] at hst;refine bj hkt hx h1 ?_;refine QA [0] (h:=⟨?_,k+1,hkt,rfl,by rw [<-hd,hst]; rfl,by simp [hw],rfl⟩);omega
  .have e:gs.drop k=[]:=by rw [aA]; omega
   rw [e] at hd;have hd':Ss.findIn op gs=none:=by rw [<-hd]; rfl
   rw [hd'];refine bi hkt ?_;exact JZ (by simp; rfl) (jd hwf (by simp [findV]) rfl)
theorem ad5 (op:Int) (ho:Ss.I64 op):bF 152 [bH op] (.tuple [vl bH (Ss.bJ op).1,bH (Ss.bJ op).2.1, .bool (Ss.bJ op).2.2]):=by
 intro S;have cf:=au2 op ho;unfold Ss.bJ;cases hf:Ss.find op with
 | none =>
  rw [hf] at cf;have cf':bF 167 [bH op] (.tuple [.agg [.int .i64 0, .int .i64 0, .int .i64 0, .int .i64 0], .int .i64 0, .bool false]):=cf;refine bE Tryz.func152 Tryz.ntmps152 fun hwf=>?_;refine bk ?_;refine QP ?_;refine QL (cf') ?_;refine bz ?_;exact qc (l:=[_]) hwf (Ghost.toB (Ghost.tp [] [_,_] (Ghost.nl _)) _) rfl
 | some g =>
  rw [hf] at cf;obtain ⟨g1,g2,g3,g4⟩:=g;have cf':bF 167 [bH op] (.tuple [.agg [.int .i64 g1, .int .i64 g2, .int .i64 g3, .int .i64 g4], .int .i64 (op-g1), .bool true]):=cf;simp only;by_cases h1:g3=1
  .subst h1;have hX:Ss.Grp.ins ⟨g1,g2,1,g4⟩=[g4,g4]/\Ss.Grp.out ⟨g1,g2,1,g4⟩=127:=by simp [Ss.Grp.ins,Ss.Grp.out]
   rw [hX.1,hX.2];refine bE Tryz.func152 Tryz.ntmps152 fun hwf=>?_;refine bk ?_;refine QP ?_;refine QL (cf') ?_;refine bz ?_;refine bD (St S [] [some (4,[.int .i64 g1, .int .i64 g2, .int .i64 1, .int .i64 g4])]) (St S [] [some (4,[.int .i64 g1, .int .i64 g2, .int .i64 1, .int .i64 g4])]) [] ?_ (r:=by conv=>lhs; simp [QV]);refine QI ?_;refine bz ?_;exact qc hwf ((Ghost.tp [] [_,_] (frz1 (k:=3) (by simp) (by rfl) (by rfl) (by rfl))).toB _) rfl
  by_cases h3:g3=3
  .subst h3;have hX:Ss.Grp.ins ⟨g1,g2,3,g4⟩=[g4,g4]/\Ss.Grp.out ⟨g1,g2,3,g4⟩=g4:=by simp [Ss.Grp.ins,Ss.Grp.out]
   rw [hX.1,hX.2];refine bE Tryz.func152 Tryz.ntmps152 fun hwf=>?_;refine bk ?_;refine QP ?_;refine QL (cf') ?_;refine bz ?_;refine bD (St S [] [some (4,[.int .i64 g1, .int .i64 g2, .int .i64 3, .int .i64 g4])]) (St S [] [some (4,[.int .i64 g1, .int .i64 g2, .int .i64 3, .int .i64 g4])]) [] ?_ (r:=by conv=>lhs; simp [QV]);refine QI ?_;refine bz ?_;exact qc hwf ((Ghost.tp [] [_,_] (frz1 (k:=3) (by simp) (by rfl) (by rfl) (by rfl))).toB _) rfl
  by_cases h0:g3=0
  .subst h0;have hX:Ss.Grp.ins ⟨g1,g2,0,g4⟩=[g4]/\Ss.Grp.out ⟨g1,g2,0,g4⟩=127:=by simp [Ss.Grp.ins,Ss.Grp.out]
   rw [hX.1,hX.2];refine bE Tryz.func152 Tryz.ntmps152 fun hwf=>?_;refine bk ?_;refine QP ?_;refine QL (cf') ?_;refine bz ?_;refine bD (St S [] [some (4,[.int .i64 g1, .int .i64 g2, .int .i64 0, .int .i64 g4])]) (St S [] [some (4,[.int .i64 g1, .int .i64 g2, .int .i64 0, .int .i64 g4])]) [] ?_ (r:=by conv=>lhs; simp [QV]);refine QI ?_;refine bz ?_;exact qc hwf ((Ghost.tp [] [_,_] (frz1 (k:=1) (by simp) (by rfl) (by rfl) (by rfl))).toB _) rfl
  by_cases h4:g3=4
  .subst h4;have hX:Ss.Grp.ins ⟨g1,g2,4,g4⟩=[g4]/\Ss.Grp.out ⟨g1,g2,4,g4⟩=127:=by simp [Ss.Grp.ins,Ss.Grp.out]
   rw [hX.1,hX.2];refine bE Tryz.func152 Tryz.ntmps152 fun hwf=>?_;refine bk ?_;refine QP ?_;refine QL (cf') ?_;refine bz ?_;refine bD (St S [] [some (4,[.int .i64 g1, .int .i64 g2, .int .i64 4, .int .i64 g4])]) (St S [] [some (4,[.int .i64 g1, .int .i64 g2, .int .i64 4, .int .i64 g4])]) [] ?_ (r:=by conv=>lhs; simp [QV]);refine QI ?_;refine bz ?_;exact qc hwf ((Ghost.tp [] [_,_] (frz1 (k:=1) (by simp) (by rfl) (by rfl) (by rfl))).toB _) rfl
  by_cases h5:g3=5
  .subst h5;have hX:Ss.Grp.ins ⟨g1,g2,5,g4⟩=[g4]/\Ss.Grp.out ⟨g1,g2,5,g4⟩=126:=by simp [Ss.Grp.ins,Ss.Grp.out]
   rw [hX.1,hX.2];refine bE Tryz.func152 Tryz.ntmps152 fun hwf=>?_;refine bk ?_;refine QP ?_;refine QL (cf') ?_;refine bz ?_;refine bD (St S [] [some (4,[.int .i64 g1, .int .i64 g2, .int .i64 5, .int .i64 g4])]) (St S [] [some (4,[.int .i64 g1, .int .i64 g2, .int .i64 5, .int .i64 g4])]) [] ?_ (r:=by conv=>lhs; simp [QV]);refine QI ?_;refine bz ?_;exact qc hwf ((Ghost.tp [] [_,_] (frz1 (k:=1) (by simp) (by rfl) (by rfl) (by rfl))).toB _) rfl
  have hX:Ss.Grp.ins ⟨g1,g2,g3,g4⟩=[g4]/\Ss.Grp.out ⟨g1,g2,g3,g4⟩=g4:=by simp [Ss.Grp.ins,Ss.Grp.out,h1,h3,h0,h4,h5]
  rw [hX.1,hX.2];refine bE Tryz.func152 Tryz.ntmps152 fun hwf=>?_;refine bk ?_;refine QP ?_;refine QL (cf') ?_;refine QW ?_;refine bp h1 h3 h0 h4 h5 ?_;refine bD (St S [] [some (4,[.int .i64 g1, .int .i64 g2, .int .i64 g3, .int .i64 g4])]) (St S [] [some (4,[.int .i64 g1, .int .i64 g2, .int .i64 g3, .int .i64 g4])]) [] ?_ (r:=by conv=>lhs; simp [QV,h1,h3,h0,h4,h5]);refine QI ?_;refine QW ?_;refine bp h1 h3 h0 h4 h5 ?_;exact qc hwf ((Ghost.tp [] [_,_] (frz1 (k:=1) (by simp) (by rfl) (by rfl) (by rfl))).toB _) rfl
end Go.Vw
namespace Ss
structure Acc where
 kind:Int
 width:Int
 store:Bool
 signed:Bool
deriving DecidableEq,Inhabited
def accL:List (Int × Acc):=[(40,⟨127,4,false,false⟩),(41,⟨126,8,false,false⟩),(44,⟨127,1,false,true⟩),(45,⟨127,1,false,false⟩),(46,⟨127,2,false,true⟩),(47,⟨127,2,false,false⟩),(48,⟨126,1,false,true⟩),(49,⟨126,1,false,false⟩),(50,⟨126,2,false,true⟩),(51,⟨126,2,false,false⟩),(52,⟨126,4,false,true⟩),(53,⟨126,4,false,false⟩),(54,⟨127,4,true,false⟩),(55,⟨126,8,true,false⟩),(58,⟨127,1,true,false⟩),(59,⟨127,2,true,false⟩),(60,⟨126,1,true,false⟩),(61,⟨126,2,true,false⟩),(62,⟨126,4,true,false⟩)]
def findK {α:Type} (n:Int):List (Int × α)->Option α
 | []=>none
 | (k,v)::r=>if n=k then some v else findK n r
def accOf (op:Int):Option Acc:=findK op accL
end Ss
namespace Go.Vw
open Go.Proofs Go.RowKit
attribute [-simp] List.map_set
def jeT (a:Ss.Acc):V := .agg [bH a.kind,bH a.width, .bool a.store, .bool a.signed]
theorem ak7 (a:Ss.Acc):jeT a = .agg [bH a.kind,bH a.width, .bool a.store, .bool a.signed]:=nr rfl
attribute [simp] ak7
def mapI {α:Type} (enc:α->V) (L:List (Int × α)):List V:=L.map fun p => .tuple [.int .i64 p.1,enc p.2]
theorem jeK {α:Type} (enc:α->V) (n:Int) : ∀ (L:List (Int × α)) (i:Nat),(Ss.findK n L=none/\zi (.int .i64 n) (mapI enc L) i=some none) \/ ∃ j v,Ss.findK n L=some v/\zi (.int .i64 n) (mapI enc L) i=some (some (i+j,enc v))
 | [],i => .inl ⟨rfl,rfl⟩
 | (k,v)::L,i=>by
  by_cases e:n=k
  .subst e;exact .inr ⟨0,v,by simp [Ss.findK],by simp [mapI,zi,zB]⟩
  .have e':(n==k)=false:=by simp [e]
   have h0:zi (.int .i64 n) (mapI enc ((k,v)::L)) i=zi (.int .i64 n) (mapI enc L) (i+1):=by
    show (match zB (.int .i64 n) (.int .i64 k) with | some true=>_ | some false=>_ | none=>_)=_;simp only [zB,if_true,e']
    rfl
   have h1:Ss.findK n ((k,v)::L)=Ss.findK n L:=by simp [Ss.findK,e]
   rcases jeK enc n L (i+1) with ⟨h2,h3⟩ | ⟨j,w,h2,h3⟩
   .exact .inl ⟨h1.trans h2,h0.trans h3⟩
   .exact .inr ⟨j+1,w,h1.trans h2,by rw [h0,h3]; simp; omega⟩
theorem jfF {α:Type} {enc:α->V} {z:V} {S:Store} {o:Nat} {n:Int} {L:List (Int × α)} (h:S.get o=some (0,mapI enc L)):qQ z true S (.map o) (.int .i64 n)=some (match Ss.findK n L with | some v => .tuple [enc v, .bool true] | none => .tuple [z, .bool false]):=by
 simp only [qQ,h];rcases jeK enc n L 0 with ⟨h2,h3⟩ | ⟨j,w,h2,h3⟩
 .simp [h2,h3]
 .simp [h2,h3]
def updC (S:Store) (o:Nat) (n:Int) (v:V) (cells:List V):Option (Option (Nat × V))->Option Store
 | some none=>some (S.upd o (0,cells++[.tuple [.int .i64 n,v]]))
 | some (some (j,_))=>some (S.upd o (0,cells.set j (.tuple [.int .i64 n,v])))
 | none=>none
theorem jbs {S:Store} {o:Nat} {n:Int} {v:V} {cells:List V} (h:S.get o=some (0,cells)):qt S (.map o) (.int .i64 n) v=updC S o n v cells (zi (.int .i64 n) cells 0):=by
 simp only [qt,h];cases zi (.int .i64 n) cells 0 with
 | none=>rfl
 | some r=>cases r with
  | none=>rfl
  | some p=>rfl
theorem aom (S:Store) (o:Nat) (n:Int) (v:V) (cells:List V):updC S o n v cells (some none)=some (S.upd o (0,cells++[.tuple [.int .i64 n,v]])):=nr rfl
theorem amv (k:V) (i:Nat):zi k [] i=some none:=nr rfl
theorem jcd (n m:Int) (v:V) (r:List V) (i:Nat):zi (.int .i64 n) (.tuple [.int .i64 m,v]::r) i=if n=m then some (some (i,v)) else zi (.int .i64 n) r (i+1):=by
 by_cases e:n=m
 .subst e; simp [zi,zB]
 .have e':(n==m)=false:=by simp [e]
  rw [if_neg e];show (match zB (.int .i64 n) (.int .i64 m) with | some true=>_ | some false=>_ | none=>_)=_;simp only [zB,if_true,e']
theorem ajn:mapI jeT Ss.accL=[.tuple [.int .i64 40, .agg [.int .i64 127, .int .i64 4, .bool false, .bool false]], .tuple [.int .i64 41, .agg [.int .i64 126, .int .i64 8, .bool false, .bool false]], .tuple [.int .i64 44, .agg [.int .i64 127, .int .i64 1, .bool false, .bool true]], .tuple [.int .i64 45, .agg [.int .i64 127, .int .i64 1, .bool false, .bool false]], .tuple [.int .i64 46, .agg [.int .i64 127, .int .i64 2, .bool false, .bool true]], .tuple [.int .i64 47, .agg [.int .i64 127, .int .i64 2, .bool false, .bool false]], .tuple [.int .i64 48, .agg [.int .i64 126, .int .i64 1, .bool false, .bool true]], .tuple [.int .i64 49, .agg [.int .i64 126, .int .i64 1, .bool false, .bool false]], .tuple [.int .i64 50, .agg [.int .i64 126, .int .i64 2, .bool false, .bool true]], .tuple [.int .i64 51, .agg [.int .i64 126, .int .i64 2, .bool false, .bool false]], .tuple [.int .i64 52, .agg [.int .i64 126, .int .i64 4, .bool false, .bool true]], .tuple [.int .i64 53, .agg [.int .i64 126, .int .i64 4, .bool false, .bool false]], .tuple [.int .i64 54, .agg [.int .i64 127, .int .i64 4, .bool true, .bool false]], .tuple [.int .i64 55, .agg [.int .i64 126, .int .i64 8, .bool true, .bool false]], .tuple [.int .i64 58, .agg [.int .i64 127, .int .i64 1, .bool true, .bool false]], .tuple [.int .i64 59, .agg [.int .i64 127, .int .i64 2, .bool true, .bool false]], .tuple [.int .i64 60, .agg [.int .i64 126, .int .i64 1, .bool true, .bool false]], .tuple [.int .i64 61, .agg [.int .i64 126, .int .i64 2, .bool true, .bool false]], .tuple [.int .i64 62, .agg [.int .i64 126, .int .i64 4, .bool true, .bool false]]]:=rfl
theorem ai2 (S:Store):bG 166 [] S fun r T=>r = .map (lid S.nx 0)/\T=St S [] [some (0,mapI jeT Ss.accL)]:=by
 rw [ajn];refine bE Tryz.func166 Tryz.ntmps166 fun hwf=>?_;have hmu:=fun (S:Store) (o:Nat) (n:Int) (v:V) (cells:List V) (h:S.get o=some (0,cells))=>jbs (n:=n) (v:=v) h
 repeat first|refine QG ?_|refine QY ?_ (r:=by conv=>lhs;simp[QV,hmu,aom,amv,jcd])
 exact jn ⟨by simp,rfl⟩
theorem jgm (op:Int):bF 151 [bH op] (.tuple [bH ((Ss.accOf op).getD ⟨0,0,false,false⟩).kind,bH ((Ss.accOf op).getD ⟨0,0,false,false⟩).width, .bool ((Ss.accOf op).getD ⟨0,0,false,false⟩).store, .bool (Ss.accOf op).isSome]):=by
 intro S;have ca:=ai2;have hlk : ∀ (S:Store) (o:Nat),S.get o=some (0,mapI jeT Ss.accL)->qQ (.agg [.int .i64 0, .int .i64 0, .bool false, .bool false]) true S (.map o) (.int .i64 op)=some (match Ss.accOf op with | some v => .tuple [jeT v, .bool true] | none => .tuple [.agg [.int .i64 0, .int .i64 0, .bool false, .bool false], .bool false]):=fun S o h=>by
  have h1:=jfF (z := .agg [.int .i64 0, .int .i64 0, .bool false, .bool false]) (n:=op) h;unfold Ss.accOf;cases hh:Ss.findK op Ss.accL<;>rw [hh] at h1<;>exact h1
 generalize mapI jeT Ss.accL=cells at *
 cases hf:Ss.accOf op with
 | none =>
  rw [hf] at hlk;simp only at hlk;refine bE Tryz.func151 Tryz.ntmps151 fun hwf=>?_;refine bk ?_;refine QP ?_;refine Kn (xs:=[]) rfl (ca _) ?_;rintro X S' ⟨rfl,rfl⟩;rw [jh hwf];refine bv hlk ?_;refine bA ?_;exact jd hwf (by simp) rfl
 | some a =>
  obtain ⟨a1,a2,a3,a4⟩:=a;rw [hf] at hlk;have hlk' : ∀ (S:Store) (o:Nat),S.get o=some (0,cells)->qQ (.agg [.int .i64 0, .int .i64 0, .bool false, .bool false]) true S (.map o) (.int .i64 op)=some (.tuple [.agg [.int .i64 a1, .int .i64 a2, .bool a3, .bool a4], .bool true]):=hlk;refine bE Tryz.func151 Tryz.ntmps151 fun hwf=>?_;refine bk ?_;refine QP ?_;refine Kn (xs:=[]) rfl (ca _) ?_;rintro X S' ⟨rfl,rfl⟩;rw [jh hwf];refine bv hlk' ?_;refine bA ?_;exact jd hwf (by simp) rfl
end Go.Vw
namespace Wm
def gaps:List (Int × Int):=[(17,17),(42,43),(56,57),(67,68),(91,102),(139,166),(168,171),(174,191)]
def absent (c:Int):Bool:=gaps.any fun g=>decide (g.1<=c)&&decide (c<=g.2)
end Wm
namespace Go.Vw
open Go.Proofs Go.RowKit Wm
attribute [-simp] List.map_set
def encGap (g:Int × Int):V := .agg [bH g.1,bH g.2]
theorem akv (g:Int × Int):encGap g = .agg [bH g.1,bH g.2]:=nr rfl
theorem ang (g:Int × Int):(encGap g).ncells=2:=nr rfl
theorem jfZ (g:Int × Int):(encGap g).closed=true:=rfl
attribute [local simp] akv ang
theorem aqm (c:Int):bF 154 [bH c] (.bool (Wm.absent c)):=by
 intro S;have hlen:gaps.length=8:=rfl;have hr:rep0 [V.int .i64 0, .int .i64 0] 8=[.int .i64 0, .int .i64 0, .int .i64 0, .int .i64 0, .int .i64 0, .int .i64 0, .int .i64 0, .int .i64 0, .int .i64 0, .int .i64 0, .int .i64 0, .int .i64 0, .int .i64 0, .int .i64 0, .int .i64 0, .int .i64 0]:=rfl;refine bE Tryz.func154 Tryz.ntmps154 fun hwf=>?_;refine bi hr ?_;refine qi 13 rfl ((jdF (k:=0) (enc:=encGap) (s:=2) (fun _=>rfl) jfZ gaps (by simp) (by rfl))) (by conv=>lhs; simp [Fr.set]) ?_;refine QK [] ?_;unfold Wm.absent;generalize gaps=gs at *
 refine bB [0,13,14,15] (fun c0 σ S' => ∃ (k:Nat),k<=gs.length/\c0=gs.length-k/\((gs.drop k).any fun g=>decide (g.1<=c)&&decide (c<=g.2))=(gs.any fun g=>decide (g.1<=c)&&decide (c<=g.2))/\σ=[(0,bH c),(13,vl encGap gs),(14,bI gs.length),(15,bI k)]/\S'=St S [] []) gs.length ?_ ?_
 .exact ⟨0,by omega,rfl,rfl,by simp [Fr.oy,hlen],rfl⟩
 .rintro c0 σ T ⟨k,hk,rfl,hd,rfl,rfl⟩;by_cases hkt:k<gs.length
  .have hw:=jP hkt (by omega);have hst:((gs.drop k).any fun g=>decide (g.1<=c)&&decide (c<=g.2))=((decide (gs[k].1<=c)&&decide (c<=gs[k].2))||((gs.drop (k+1)).any fun g=>decide (g.1<=c)&&decide (c<=g.2))):=by rw [aj hkt,List.any_cons]
   obtain ⟨⟨g1,g2⟩,hx⟩ : ∃ g,gs[k]=g:=⟨_,rfl⟩
   rw [hx] at hst;simp only at hst;by_cases h1:g1<=c
   .by_cases h2:c<=g2
    .rw [<-hd,hst]
     repeat first|refine QG ?_|refine QY ?_ (r:=by conv=>lhs;simp[QV,hkt,hx,h1,h2,zN])
     exact jd hwf (by simp [h1,h2]) rfl
    .rw [hst] at hd
     repeat first|refine QG ?_|refine QY ?_ (r:=by conv=>lhs;simp[QV,hkt,hx,h1,h2,zN])
     refine QA [] (h:=⟨?_,k+1,hkt,rfl,by rw [<-hd]; simp [h2],by simp [hw],rfl⟩);omega
   .rw [hst] at hd
    repeat first|refine QG ?_|refine QY ?_ (r:=by conv=>lhs;simp[QV,hkt,hx,h1,zN])
    refine QA [] (h:=⟨?_,k+1,hkt,rfl,by rw [<-hd]; simp [h1],by simp [hw],rfl⟩);omega
  .have e:gs.drop k=[]:=by rw [aA]; omega
   rw [e] at hd;rw [<-hd];refine bi hkt ?_;exact jd hwf (by simp) rfl
end Go.Vw
namespace Wm
abbrev Rt (α:Type):=List Sig->List Nat->Nat->Nat->Except Flt (α × Nat × Nat)
def Rt.bind {α β:Type} (p:Rt α) (f:α->Rt β):Rt β:=fun ts b a o=>match p ts b a o with
 | .error e => .error e
 | .ok (x,a',o')=>f x ts b a' o'
def Rt.pure {α:Type} (x:α):Rt α:=fun _ _ a o => .ok (x,a,o)
instance:Monad Rt where
 pure:=Rt.pure
 bind:=Rt.bind
def TyOk (ts:List Sig):Prop:=ts.length<=1000 /\ ∀ s∈ts,s.inn.length<=8/\s.out.length<=8
def ofR {α:Type} (p:Rd α):Rt α:=fun _ b a o=>match p b a with
 | .error e => .error e
 | .ok (x,a') => .ok (x,a',o)
theorem aa9 {α:Type} (p:Rd α) (ts:List Sig) (b:List Nat) (a o:Nat):ofR p ts b a o=match p b a with
 | .error e => .error e
 | .ok (x,a') => .ok (x,a',o):=rfl
end Wm
namespace Go.Vw
open Wm
abbrev RdTE (ro:Nat) (E:EP) (S:Store) (e:Flt):Prop := ∀ T,Kept S [ro] T->E (jY 46 e) T
def rct (b:List Nat) (a:Nat) (ts:List Wm.Sig) (im fu pg mo gl ex st da:V) (o:Nat):List V:=[vl vb b,bI a,vl je ts,im,fu,pg,mo,gl,ex,st,da,bI o]
def RdT {α:Type} (P:Program) (f:FuncId) (args:List V) (ro:Nat) (enc:α->V) (p:Rt α):Prop :=
 ∀ (b:List Nat) (a:Nat) (ts:List Wm.Sig) (im fu pg mo gl ex st da:V) (o:Nat) (S:Store) (E:EP),a<=b.length->b.length<=16384->(∀ x∈b,x<256)->o<=512->TyOk ts ->
  S.get ro=some (12,rct b a ts im fu pg mo gl ex st da o)->(∀ e,p ts b a o = .error e->RdTE ro E S e) ->
  VCallsX P f args S (fun r T => ∃ x a' o',p ts b a o = .ok (x,a',o')/\a'<=b.length/\o'<=512/\r=enc x/\T=S.upd ro (12,rct b a' ts im fu pg mo gl ex st da o')) E
section
variable {α:Type} {P:Program} {f:FuncId} {args:List V} {ro:Nat} {enc:α->V} {p:Rt α} {E:EP} {S:Store} {l:OL} {b:List Nat} {a o:Nat} {ts:List Wm.Sig} {im fu pg mo gl ex st da:V}
theorem akq (hm:RdT P f args ro enc p) (hl:ro<S.nx) (h1:a<=b.length) (h2:b.length<=16384) (h3 : ∀ x∈b,x<256) (h4:o<=512) (h5:TyOk ts) (herr : ∀ e,p ts b a o = .error e->RdTE ro E S e) :
  VCallsX P f args (St S [(ro,some (12,[vl vb b,bI a,vl je ts,im,fu,pg,mo,gl,ex,st,da,bI o]))] l) (fun r T => ∃ x a' o',p ts b a o = .ok (x,a',o')/\a'<=b.length/\o'<=512/\r=enc x/\T=St S [(ro,some (12,[vl vb b,bI a',vl je ts,im,fu,pg,mo,gl,ex,st,da,bI o']))] l) E:=by
 refine (hm b a ts im fu pg mo gl ex st da o _ E h1 h2 h3 h4 h5 (old1 hl _ _) fun e he T hk => ?_).mono ?_ fun _ _ h=>h
 .exact herr e he T (hk.up (by simp) (by simp))
 .rintro X S' ⟨x,a',o',hp,ha',ho',rfl,rfl⟩;exact ⟨x,a',o',hp,ha',ho',rfl,by rw [oldU hl]; rfl⟩
theorem ac4 {K:Fr->Store->Prop} {σ:Fr} {d:Option Nat} {aZZ:List Arg} {r:List CO}
  (ha:aZZ.map (ev σ)=args) (hm:RdT P f args ro enc p) (hl:ro<S.nx) (h1:a<=b.length) (h2:b.length<=16384) (h3 : ∀ x∈b,x<256) (h4:o<=512) (h5:TyOk ts) (herr : ∀ e,p ts b a o = .error e->RdTE ro E S e)
  (H : ∀ x a' o',p ts b a o = .ok (x,a',o')->a'<=b.length->o'<=512->qF P E r K (σ.put d (enc x)) (St S [(ro,some (12,[vl vb b,bI a',vl je ts,im,fu,pg,mo,gl,ex,st,da,bI o']))] l)) :
  qF P E (⟨d,none, .call f aZZ⟩::r) K σ (St S [(ro,some (12,[vl vb b,bI a,vl je ts,im,fu,pg,mo,gl,ex,st,da,bI o]))] l):=by
 refine jb ha (akq hm hl h1 h2 h3 h4 h5 herr) ?_;rintro X S' ⟨x,a',o',hp,ha',ho',rfl,rfl⟩;exact H x a' o' hp ha' ho'
theorem jgb {a' o':Nat} {r:V} {x:α} (hw:S.Wf) (hs:S.get ro=some (12,rct b a ts im fu pg mo gl ex st da o)) (hp:p ts b a o = .ok (x,a',o')) (ha:a'<=b.length) (ho:o'<=512) (hr:r=enc x) (hx:(enc x).ids (fun o=>decide (o<S.nx))=true) :
  zq S.nx (fun r T => ∃ x a' o',p ts b a o = .ok (x,a',o')/\a'<=b.length/\o'<=512/\r=enc x/\T=S.upd ro (12,rct b a' ts im fu pg mo gl ex st da o')) r (St S [(ro,some (12,[vl vb b,bI a',vl je ts,im,fu,pg,mo,gl,ex,st,da,bI o']))] l):=by
 obtain ⟨⟨r1,r2,r3,r4,r5,r6,r7,r8,r9⟩,⟨i1,i2,i3,i4,i5,i6,i7,i8,i9⟩,_⟩:=agv (s:=⟨b,a,vl je ts,im,fu,pg,mo,gl,ex,st,da,o⟩) hw hs [];simp only at r1 r2 r3 r4 r5 r6 r7 r8 r9 i1 i2 i3 i4 i5 i6 i7 i8 i9;exact jgc hw (jx hw hs) hr hx (by simp only [JU,KO,jaQ,YC,i1,i2,i3,i4,i5,i6,i7,i8,i9,Bool.and_self]) (by simp only [Za,jaD,jeB,Zu,r1,r2,r3,r4,r5,r6,r7,r8,r9]) ⟨x,a',o',hp,ha,ho,rfl,rfl⟩
theorem jt {a' o':Nat} {r:V} {x:α} {T:Store} (hw:S.Wf) (hg:Ghost r T (enc x) (St S [(ro,some (12,[vl vb b,bI a',vl je ts,im,fu,pg,mo,gl,ex,st,da,bI o']))] l)) (hs:S.get ro=some (12,rct b a ts im fu pg mo gl ex st da o)) (hp:p ts b a o = .ok (x,a',o')) (ha:a'<=b.length) (ho:o'<=512) (hx:(enc x).ids (fun o=>decide (o<S.nx))=true) :
  zq S.nx (fun r T => ∃ x a' o',p ts b a o = .ok (x,a',o')/\a'<=b.length/\o'<=512/\r=enc x/\T=S.upd ro (12,rct b a' ts im fu pg mo gl ex st da o')) r T:=by
 obtain ⟨x',S',h1,h2⟩:=jgb (l:=l) (enc:=enc) hw hs hp ha ho rfl hx;exact ⟨x',S',(hg.toB _).trans h1,h2⟩
end
end Go.Vw
namespace Go.Vw
open Go.Proofs Go.RowKit
attribute [-simp] List.map_set
theorem Ji (l:List Int):jF bH l=l.map bH:=by
 induction l with
 | nil=>rfl
 | cons x l ih =>
  simp only [jF,List.flatMap_cons,List.map_cons] at ih ⊢;rw [ih]; rfl
theorem ae7 (S:Store) (l:List Int) (hl:l.length<=1048576):bG 89 [vl bH l] S (fun r T=>r = .slice (lid S.nx 0) 0 l.length/\T=St S [] [some (1,l.map bH)]):=by
 refine bE Tryz.func89 Tryz.ntmps89 fun hwf=>?_;refine QY ?_;refine QT ?_;refine acn (l:=l.map bH) rfl rfl (by rfl) rfl rfl rfl rfl (by rfl) rfl rfl Tryz.underlying61 rfl ?_;intro b hb;simp only [Fr.set];by_cases h:b=true
 .have hl0:l=[]:=by simpa using hb h
  subst hl0;subst h;refine bk ?_;exact ⟨_,_,(Ghost.nils (St S [] []) 1).toB _,by rw [jH]; rfl,by rw [qT]; rfl⟩
 .have h':b=false:=by simpa using h
  subst h';have hb1:l.length*8<=140737488355328:=by omega
  have hb2:l.length<=140737488355328:=by omega
  repeat first|refine QG ?_|refine QY ?_ (r:=by conv=>lhs;simp[QV,hb1,hb2,Kc,ag2,Ji,rep0])
  exact jgd [1] hwf (by decide) (by simp) (by simp; rfl) (by simp; rfl) ⟨by simp,by simp⟩
theorem jgl (l:List Int) (hl:l.length<=1048576):bF 89 [vl bH l] (vl bH l):=by
 intro S;refine jcR fun hwf=>Km ((ae7 S l hl).mono ?_);rintro r T ⟨rfl,rfl⟩;exact qc hwf ((frz1 (k:=0) (by simp) (by rfl) (YH bH (fun _=>rfl) _) (by simp)).toB _) rfl
end Go.Vw
namespace Wm
def blockTypeR:Rt Sig:=fun ts b a o =>
 if a<b.length/\b.getD a 0=64 then .ok (⟨[],[]⟩,a+1,o)
 else if a<b.length/\(b.getD a 0=124\/b.getD a 0=125\/b.getD a 0=126\/b.getD a 0=127) then match kind b a with
  | .error e => .error e
  | .ok (k,a') => .ok (⟨[],[(k:Int)]⟩,a',o)
 else match sInt 64 b a with
  | .error e => .error e
  | .ok (n,a')=>if n<0\/(ts.length:Int)<=n then .error (9,(a:Int),0) else .ok (ts.getD n.toNat default,a',o)
end Wm
namespace Go.Vw
open Go.Proofs Go.RowKit Wm
attribute [-simp] List.map_set
theorem aex {ts:List Wm.Sig} {k:Nat} (h:k<ts.length):ts.getD k default=ts[k]:=by
 rw [af,aa h]; rfl
theorem ach (S:Store):Ghost (.agg [.nils, .nils]) S (je ⟨[],[]⟩) S :=
 Zj ((GhostArgs.one [] [.nils] (Ghost.nl S)).trans (GhostArgs.one [.list []] [] (Ghost.nl S)))
theorem acg {B:Store} {u:Upds} {l:OL} (k:Nat) (x:Int) (hk:k<l.length) (hg:(l[k]?).join=some (1,jF bH [x])):Ghost (.agg [.nils, .slice (lid B.nx k) 0 1]) (St B u l) (je ⟨[],[x]⟩) (St B u (l.set k none)) :=
 Zj ((GhostArgs.one [] [.slice (lid B.nx k) 0 1] (Ghost.nl _)).trans (GhostArgs.one [.list []] [] (jdF (enc:=bH) (fun _=>rfl) (fun _=>rfl) [x] hk hg)))
theorem afm (ro:Nat):RdT Tryz.prog 168 [.ptr ro 0] ro je blockTypeR:=by
 intro b a ts im fu pg mo gl ex st da o S E h1 h2 h3 h4 h5 hs hE;refine qA (c:=jf Tryz.f168) Tryz.func168 rfl (by conv=>lhs; reduce) (by simp [Tryz.ntmps168]) ?_;rw [Tryz.ntmps168];intro hwf;have h4':o<=1000:=by omega
 have hl:=jx hwf hs;have hg:=old1 hl;have hu:=oldU hl;rw [show St S [] []=St S [(ro,some (12,[vl vb b,bI a,vl je ts,im,fu,pg,mo,gl,ex,st,da,bI o]))] [] from old0 hl hs];by_cases ha:a<b.length
 .have hb:b.getD a 0=b[a]:=by rw [af,aa ha]; rfl
  obtain ⟨c,hx⟩ : ∃ c,b[a]=c:=⟨_,rfl⟩
  rw [hx] at hb;have w1:IntKind.i64.wrap ((a:Int)+1)=(a:Int)+1:=wrap_i64 (by omega) (by omega);by_cases c1:c=64
  .subst c1;have hp:blockTypeR ts b a o = .ok (⟨[],[]⟩,a+1,o):=by simp only [blockTypeR]; rw [if_pos ⟨ha,hb⟩]
   refine bp ha hg hu hx w1 ?_;refine ⟨_,(by conv=>lhs; simp [resL,qC]), ?_⟩;exact jt hwf (ach _) hs hp ha h4 (by simp)
  .have d1 : ¬ (c:Int)=64:=by omega
   by_cases c2:c=124\/c=125\/c=126\/c=127
   .have hbt:blockTypeR ts b a o=match kind b a with
      | .error e => .error e
      | .ok (k,a') => .ok (⟨[],[(k:Int)]⟩,a',o):=by
     simp only [blockTypeR,hb];rw [if_neg (by omega),if_pos ⟨ha,c2⟩]
    rcases c2 with rfl | rfl | rfl | rfl
    .refine bq ha hg hu hx ?_;refine XQ E ?_;refine jL rfl (jaN ro) hl ?_ ?_
     .intro e he;exact hE e (by rw [hbt,he])
     intro k a1 hk ha1;have hp:blockTypeR ts b a o = .ok (⟨[],[(k:Int)]⟩,a1,o):=by rw [hbt,hk]
     refine XN ?_;refine ja ?_;refine bk ?_;refine ⟨_,(by conv=>lhs; simp [resL,qC]), ?_⟩;exact jt hwf (acg 1 _ (by simp) rfl) hs hp ha1 h4 (by simp)
    .refine bq ha hg hu hx ?_;refine XQ E ?_;refine jL rfl (jaN ro) hl ?_ ?_
     .intro e he;exact hE e (by rw [hbt,he])
     intro k a1 hk ha1;have hp:blockTypeR ts b a o = .ok (⟨[],[(k:Int)]⟩,a1,o):=by rw [hbt,hk]
     refine XN ?_;refine ja ?_;refine bk ?_;refine ⟨_,(by conv=>lhs; simp [resL,qC]), ?_⟩;exact jt hwf (acg 1 _ (by simp) rfl) hs hp ha1 h4 (by simp)
    .refine bq ha hg hu hx ?_;refine XQ E ?_;refine jL rfl (jaN ro) hl ?_ ?_
     .intro e he;exact hE e (by rw [hbt,he])
     intro k a1 hk ha1;have hp:blockTypeR ts b a o = .ok (⟨[],[(k:Int)]⟩,a1,o):=by rw [hbt,hk]
     refine XN ?_;refine ja ?_;refine bk ?_;refine ⟨_,(by conv=>lhs; simp [resL,qC]), ?_⟩;exact jt hwf (acg 1 _ (by simp) rfl) hs hp ha1 h4 (by simp)
    .refine bq ha hg hu hx ?_;refine XQ E ?_;refine jL rfl (jaN ro) hl ?_ ?_
     .intro e he;exact hE e (by rw [hbt,he])
     intro k a1 hk ha1;have hp:blockTypeR ts b a o = .ok (⟨[],[(k:Int)]⟩,a1,o):=by rw [hbt,hk]
     refine XN ?_;refine ja ?_;refine bk ?_;refine ⟨_,(by conv=>lhs; simp [resL,qC]), ?_⟩;exact jt hwf (acg 1 _ (by simp) rfl) hs hp ha1 h4 (by simp)
   .have hbt:blockTypeR ts b a o=match sInt 64 b a with
      | .error e => .error e
      | .ok (n,a')=>if n<0\/(ts.length:Int)<=n then .error (9,(a:Int),0) else .ok (ts.getD n.toNat default,a',o):=by
     simp only [blockTypeR,hb];rw [if_neg (by omega),if_neg (by omega)]
    have d2 : ¬ (c:Int)=124:=by omega
    have d3 : ¬ (c:Int)=125:=by omega
    have d4 : ¬ (c:Int)=126:=by omega
    have d5 : ¬ (c:Int)=127:=by omega
    repeat first|refine QG ?_|refine QY ?_ (r:=by conv=>lhs;simp[QV,ha,hg,hu,hx,d1,d2,d3,d4,d5])
    refine XQ E ?_;refine jL rfl (ah1 ro) hl ?_ ?_
    .intro e he;exact hE e (by rw [hbt,he])
    intro n a1 hn ha1;rw [hn] at hbt;simp only at hbt;by_cases n1:n<0
    .have hp:blockTypeR ts b a o = .error (9,(a:Int),0):=by rw [hbt,if_pos (.inl n1)]
     refine XN ?_;refine ja ?_;refine bi n1 ?_;refine XQ E ?_;refine jb rfl (qI _ _ _ E (fun T hk=>(hE _ hp) T (hk.up ?_ ?_))) ?_
     .simp
     .simp
     .rintro _ _ h; exact h.elim
    .obtain ⟨k,rfl⟩ : ∃ k:Nat,n=k:=⟨n.toNat,by omega⟩
     by_cases n2:k<ts.length
     .have n2' : ¬ ts.length<=k:=by omega
      have hp:blockTypeR ts b a o = .ok (ts[k],a1,o):=by rw [hbt,if_neg (by omega), <-aex n2]; rfl
      refine XN ?_;refine ja ?_;obtain ⟨⟨xi,xo⟩,hxx⟩ : ∃ g,ts[k]=g:=⟨_,rfl⟩
      have hle:=h5.2 _ (ah n2);rw [hxx] at hle hp;simp only at hle;refine bp n1 n2 n2' hg hxx ?_;refine QT ?_;refine XD E (ZR S ro b (vl je ts) im fu pg mo gl ex st da [some (2,[.junk, .junk]),some (2,[vl bH xi,vl bH xo])]) [] [0,1,2,3,4,5,6,7] [] (ho:=Ka _ _ _ _ _ _ _ _ _ _ _ _ _) (hz:=zo (by simp [JR]) (by simp [jW,subO,jm]) (by simp)) (r:=by conv=>lhs;simp[QV,↓ju,ZR,Zs,zz,jl,ji,V.nj,V.nj1,V.bK,hxx]) (k:=?_);refine JF rfl (jgl xi (by omega)) rfl ?_;refine ZM (r:=by conv=>lhs;simp[QV,↓ju,ZR,Zs,zz,jl,ji,V.nj,V.nj1,V.bK]) (k:=?_);refine JF rfl (jgl xo (by omega)) rfl ?_;refine ZM (r:=by conv=>lhs;simp[QV,↓ju,ZR,Zs,zz,jl,ji,V.nj,V.nj1,V.bK]) (k:=?_);refine jo rfl (by conv=>lhs;simp[QV]) ?_ ?_
      .exact zo (by simp [JR]) (by simp [jW,subO,jm]) (by simp)
      refine jy ?_;refine bk ?_;refine ⟨_,(by conv=>lhs; simp [resL,qC]), ?_⟩;exact jgb hwf hs hp ha1 h4 (by simp [tupV]) (by simp)
     .have n2':ts.length<=k:=by omega
      have hp:blockTypeR ts b (a) o = .error (9,(a:Int),0):=by rw [hbt,if_pos (by omega)]
      refine XN ?_;refine ja ?_;refine bq n1 n2 n2' hg ?_;refine XQ E ?_;refine jb rfl (qI _ _ _ E (fun T hk=>(hE _ hp) T (hk.up ?_ ?_))) ?_
      .simp
      .simp
      .rintro _ _ h; exact h.elim
 .have hbt:blockTypeR ts b a o=match sInt 64 b a with
    | .error e => .error e
    | .ok (n,a')=>if n<0\/(ts.length:Int)<=n then .error (9,(a:Int),0) else .ok (ts.getD n.toNat default,a',o):=by
   simp only [blockTypeR];rw [if_neg (by omega),if_neg (by omega)]
  refine bj ha hg hu ?_;refine XQ E ?_;refine jL rfl (ah1 ro) hl ?_ ?_
  .intro e he;exact hE e (by rw [hbt,he])
  intro n a1 hn ha1;rw [hn] at hbt;simp only at hbt;by_cases n1:n<0
  .have hp:blockTypeR ts b a o = .error (9,(a:Int),0):=by rw [hbt,if_pos (.inl n1)]
   refine XN ?_;refine ja ?_;refine bi n1 ?_;refine XQ E ?_;refine jb rfl (qI _ _ _ E (fun T hk=>(hE _ hp) T (hk.up ?_ ?_))) ?_
   .simp
   .simp
   .rintro _ _ h; exact h.elim
  .obtain ⟨k,rfl⟩ : ∃ k:Nat,n=k:=⟨n.toNat,by omega⟩
   by_cases n2:k<ts.length
   .have n2' : ¬ ts.length<=k:=by omega
    have hp:blockTypeR ts b a o = .ok (ts[k],a1,o):=by rw [hbt,if_neg (by omega), <-aex n2]; rfl
    refine XN ?_;refine ja ?_;obtain ⟨⟨xi,xo⟩,hxx⟩ : ∃ g,ts[k]=g:=⟨_,rfl⟩
    have hle:=h5.2 _ (ah n2);rw [hxx] at hle hp;simp only at hle;refine bp n1 n2 n2' hg hxx ?_;refine QT ?_;refine XD E (ZR S ro b (vl je ts) im fu pg mo gl ex st da [some (2,[.junk, .junk]),some (2,[vl bH xi,vl bH xo])]) [] [0,1,2,3,4,5,6,7] [] (ho:=Ka _ _ _ _ _ _ _ _ _ _ _ _ _) (hz:=zo (by simp [JR]) (by simp [jW,subO,jm]) (by simp)) (r:=by conv=>lhs;simp[QV,↓ju,ZR,Zs,zz,jl,ji,V.nj,V.nj1,V.bK,hxx]) (k:=?_);refine JF rfl (jgl xi (by omega)) rfl ?_;refine ZM (r:=by conv=>lhs;simp[QV,↓ju,ZR,Zs,zz,jl,ji,V.nj,V.nj1,V.bK]) (k:=?_);refine JF rfl (jgl xo (by omega)) rfl ?_;refine ZM (r:=by conv=>lhs;simp[QV,↓ju,ZR,Zs,zz,jl,ji,V.nj,V.nj1,V.bK]) (k:=?_);refine jo rfl (by conv=>lhs;simp[QV]) ?_ ?_
    .exact zo (by simp [JR]) (by simp [jW,subO,jm]) (by simp)
    refine jy ?_;refine bk ?_;refine ⟨_,(by conv=>lhs; simp [resL,qC]), ?_⟩;exact jgb hwf hs hp ha1 h4 (by simp [tupV]) (by simp)
   .have n2':ts.length<=k:=by omega
    have hp:blockTypeR ts b (a) o = .error (9,(a:Int),0):=by rw [hbt,if_pos (by omega)]
    refine XN ?_;refine ja ?_;refine bq n1 n2 n2' hg ?_;refine XQ E ?_;refine jb rfl (qI _ _ _ E (fun T hk=>(hE _ hp) T (hk.up ?_ ?_))) ?_
    .simp
    .simp
    .rintro _ _ h; exact h.elim
end Go.Vw
