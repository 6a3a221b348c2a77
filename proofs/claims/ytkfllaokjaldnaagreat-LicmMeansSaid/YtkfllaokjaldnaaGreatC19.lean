import Derived.Test.YtkfllaokjaldnaaGreatC18
/- Part of the proof. -/
set_option linter.unusedVariables false
set_option linter.unusedSimpArgs false
set_option maxRecDepth 10000
set_option maxHeartbeats 16000000
namespace Go.Vw
open Go.Proofs Go.RowKit
attribute [-simp] List.map_set
def ZC:Store:=⟨fun _=>none,0⟩
theorem JB {z0 S:Store} {es:List Nat}:(ZZ.mk z0 ZC ZC es).ok S:=⟨fun o c h=>(by cases h),fun o c h=>(by cases h)⟩
def BlocksOk (P:Ev.Prog) (go:Ss.Fn->List Int->Nat->List Int->Ev.State->Option Ev.Res) (d:Int):Prop :=
 ∀ (f:Ss.Fn) (args:List Int) (s:Ev.State) (r:Ev.Res) (S:Store) (o g l:Nat),f∈P.fns->Ok s->(∀ x∈args,Ev.U64 x)->args.length<=4096->RunAt S P s o g l d 0->go f (List.replicate f.types.length 0) 0 args s=some r ->
  b9 124 [.ptr o 0,jM f,vl vu args] S (RunPost P o g l d r S)
theorem ap2 {S:Store} {P:Ev.Prog} {s':Ev.State} {o g l:Nat} {d e:Int} {c:Option (Nat × List V)} :
  JW (St S [(o,c)] []) P s' o g l d e=St S [(o,some (14,runC P s' g (lid S.nx 0) d e)),(g,some (1,s'.globals.map vu)),(l,none)] [some (1,s'.log.map vu)]:=by
 have hn:(St S [(o,c)] []).nx=S.nx:=by simp [jR,lid]
 refine Store.ext' (funext fun i => ?_) (by simp only [JW,jR,hn]; simp [lid]);rw [JW,qJ,hn,qJ,qJ]
 by_cases h1:i<S.nx
 .simp only [if_pos h1,uGet]
  by_cases e1:i=o
  .simp only [if_pos e1]
  .simp only [if_neg e1]
 .simp only [if_neg h1]
theorem avt (P:Ev.Prog) (hP:Ev.RightP P) (go:Nat->Ss.Fn->List Int->Nat->List Int->Ev.State->Option Ev.Res) (d:Nat) (hd:d<=16) (hgo:d<16->BlocksOk P (go (d+1)) ((d:Int)+1)):CallOk P (Ev.callG P go d) d:=by
 intro n args s r S o g l hs ha hal hn0 hn1 hr hf;have hR:=hr;obtain ⟨h1,h2,h3,h4,h5,h6⟩:=hr;have hen:=hP.env;simp only [Ss.Env.right,af,aj] at hen;have hi0:=hen.1.1.1.1.1;have hi1:=hen.1.1.1.1.2;have hi2:=hen.1.1.1.2;have hsr := @Ev.abn P.env hP.env;have hfl:=hP.len;clear hen;obtain ⟨⟨sg,im,gl,mu,me⟩,fns⟩:=P;obtain ⟨mem,most,glb,fuel,inp,log⟩:=s;simp only [runC] at h1 h2 h3;simp only at hi0 hi1 hi2 hsr hfl;have hw0:IntKind.i64.wrap n=n:=wrap_i64 (by omega) (by omega);refine b7 Tryz.func93 Tryz.ntmps93 fun hwf=>?_
 have on:=ju hwf h1;have gn:=ju hwf h2;have ln:=ju hwf h3;have oo:=fun u l => @jk S u l o on
 have updo:=fun u l c => @qS S u l c o on
 refine QY ?_
 by_cases hn:n<im
 .obtain ⟨m,rfl⟩ : ∃ m:Nat,n=(m:Int):=⟨n.toNat,by omega⟩
  have hm:m<sg.length:=by omega
  obtain ⟨t,ht⟩ : ∃ t,sg[m]=t:=⟨_,rfl⟩
  have htl:=(hsr (i:=m) (t:=t) (by rw [<-ht]; exact ac hm)).2;have hf:Ev.hostF ⟨mem,most,glb,fuel,inp,log⟩ m t.out args=some r:=by
   simpa [Ev.callG,hn,ac hm,ht] using hf
  obtain ⟨out,⟨mem',most',glb',fuel',inp',log'⟩,e⟩:=r;have hc:=ZR hR (akr out e) (avl _ _ o g l _ m t args _ S hR ⟨hn0,by omega⟩ (by omega) hf)
  refine bG oo h1 hn ?_
  refine bZ (ZC) (ZC) [20,21,24,25,26,27,28,30,31,20033] ?_ (hz:=JB) (r:=by conv=>lhs; simp [QV,oo,h1,hm,ht]);refine jcs rfl (qv hwf▸hc) (by rfl) (by rfl) ?_ ?_;exact JB;rw [qv hwf];simp only [JW,runC];refine QW ?_
  refine bH oo updo h5 h6 ?_
  exact acv (P:=⟨⟨sg,im,gl,mu,me⟩,fns⟩) (d:=d) (e:=e) (out:=out) (w:=[some (1,log'.map vu)]) (k:=0) (s:=⟨mem',most',glb',fuel',inp',log'⟩) hwf on gn ln h4 h5 h6 rfl
 .by_cases hd6:16<=d
  .have hf:([],(⟨mem,most,glb,fuel,inp,log⟩:Ev.State),37)=r:=by
    simpa [Ev.callG,hn,hd6] using hf
   subst hf;have hd6':(16:Int)<=d:=by omega
   refine bO oo updo h1 hd6' hn ?_
   exact aj2 hwf hR rfl rfl rfl
  .have hd6' : ¬ (16:Int)<=d:=by omega
   obtain ⟨k,hkn⟩ : ∃ k:Nat,n-im=(k:Int):=⟨(n-im).toNat,by omega⟩
   simp only [Ev.callG,if_neg hn,if_neg hd6,hkn,bq] at hf
   cases hfk0:fns[k]? with
   | none=>rw [hfk0] at hf; cases hf
   | some f =>
   rw [hfk0] at hf;simp only at hf;obtain ⟨hk,hfk⟩:=ae.1 hfk0;have hw1:IntKind.i64.wrap ((d:Int)+1)=(d:Int)+1:=wrap_i64 (by omega) (by omega);have hw2:IntKind.i64.wrap (d:Int)=d:=wrap_i64 (by omega) (by omega);have hw3:IntKind.i64.wrap (n-im)=(k:Int):=by rw [hkn]; exact wrap_i64 (by omega) (by omega)
   obtain ⟨out,⟨mem',most',glb',fuel',inp',log'⟩,e⟩:=r
   refine bB oo updo h1 hd6' hw1 hn ?_
   have hS2:RunAt (St S [(o,some (14,runC ⟨⟨sg,im,gl,mu,me⟩,fns⟩ ⟨mem,most,glb,fuel,inp,log⟩ g l ((d:Int)+1) 0))] []) ⟨⟨sg,im,gl,mu,me⟩,fns⟩ ⟨mem,most,glb,fuel,inp,log⟩ o g l ((d:Int)+1) 0:=by
    refine ⟨?_, ?_, ?_,h4,h5,h6⟩
    .rw [jk on]; simp [uGet]
    .rw [jk gn]; simp [uGet,Ne.symm h4,h2]
    .rw [jk ln]; simp [uGet,Ne.symm h5,h3]
   have hc:=ZR hS2 (ahk out) (hgo (by omega) f args _ _ _ o g l (by rw [<-hfk]; exact ah hk) hs ha hal hS2 hf);refine bZ (ZC) (ZC) [58,59,60,61,63,64,65,66,67,68,70,71,20073] ?_ (hz:=JB) (r:=by conv=>lhs; simp [QV,oo,h1,hk,hfk,hw3]);refine jcs rfl (hc) (by rfl) (by rfl) ?_ ?_;exact JB;rw [ap2];simp only [runC];refine QW ?_
   refine bO oo updo h5 h6 hw2 ?_
   exact acv (P:=⟨⟨sg,im,gl,mu,me⟩,fns⟩) (d:=d) (e:=e) (out:=out) (w:=[some (1,log'.map vu)]) (k:=0) (s:=⟨mem',most',glb',fuel',inp',log'⟩) hwf on gn ln h4 h5 h6 rfl
end Go.Vw
namespace Ev
open Go.Vw
def Yo (call:Int->List Int->State->Option Res):Prop := ∀ n args s r,U64 n->(∀ y∈args,U64 y)->Ok s->call n args s=some r->Ok r.2.1 /\ ∀ y∈r.1,U64 y
theorem aob {s:State} (h:Ok s) {m:List Int} (hm:byteL m):Ok { s with mem:=m }:=⟨⟨hm,h.fit.most,h.fit.globals,h.fit.fuel,h.fit.input,h.fit.log⟩,h.fuel⟩
theorem ag5 {O:Ops} (hO:OpsOk O) {call:Int->List Int->State->Option Res} (hc:Yo call) {x:Ss.Ins} {a:List Int} {s:State} {r:Res} (hx:U64 x.n) (ha : ∀ y∈a,U64 y) (hal:a.length<2^62) (hs:Ok s) (h:oneF O call x a s=some r):Ok r.2.1 /\ ∀ y∈r.1,U64 y:=by
 unfold oneF at h;split at h
 .cases h; exact ⟨hs,zm hx⟩
 split at h
 .split at h
  .cases h; exact ⟨hs,by simp⟩
  .rename_i hz
   cases h
   have h1:=hs.fuel;have h2:=hs.fit.fuel;exact ⟨⟨⟨hs.fit.mem,hs.fit.most,hs.fit.globals,⟨by simp only; omega,by simp only; omega⟩,hs.fit.input,hs.fit.log⟩,by simp only; omega⟩,zm aaq⟩
 split at h
 .split at h
  .cases h
   refine ⟨hs,zm ?_⟩;split<;>exact ha _ (by simp)
  .cases h
 split at h
 .split at h
  .rename_i g hg
   cases h
   exact ⟨hs,zm (hs.fit.globals.2 _ (aA hg))⟩
  .cases h
 split at h
 .split at h
  .split at h
   .cases h
    refine ⟨⟨⟨hs.fit.mem,hs.fit.most,⟨by simpa using hs.fit.globals.1,fun y hy => ?_⟩,hs.fit.fuel,hs.fit.input,hs.fit.log⟩,hs.fuel⟩,zm aaq⟩;rcases List.mem_or_eq_of_mem_set hy with h1 | rfl
    .exact hs.fit.globals.2 _ h1
    .exact ha _ (by simp)
   .cases h
  .cases h
 split at h
 .exact hc _ _ _ _ hx ha hs h
 split at h
 .split at h
  .cases h; exact ⟨hs,zm aaq⟩
  .cases h
 split at h
 .split at h
  .split at h
   .rename_i p q
    cases h
    refine ⟨?_,zm aaq⟩;simp only;split
    .exact aob hs (hO.store _ _ _ _ _ hs.fit.mem (ha p (by simp)) hx (ha q (by simp))).1
    .exact hs
   .cases h
  .split at h
   .rename_i p
    cases h
    exact ⟨hs,zm (hO.load _ _ _ _ hs.fit.mem (ha p (by simp)) hx).1⟩
   .cases h
 .split at h
  .cases h
   refine ⟨hs,zm ⟨?_, ?_⟩⟩
   .exact Int.tdiv_nonneg (by omega) (by omega)
   .have:=hs.fit.mem.1;rw [Int.tdiv_eq_ediv_of_nonneg (by omega)];omega
  split at h
  .split at h
   .rename_i p
    cases h
    obtain ⟨g1,g2,g3,g4⟩:=hO.grow s.mem s.most p hs.fit.mem hs.fit.most.1 hs.fit.most.2 (ha p (by simp));exact ⟨aob hs g1,zm ⟨g3,by omega⟩⟩
   .cases h
  .cases h
   exact ⟨hs,zm (hO.eval _ _ ha hal)⟩
theorem adt {O:Ops} (hO:OpsOk O) {call:Int->List Int->State->Option Res} (hc:Yo call) : ∀ (l:List Ss.Ins) (v:List Int) (s:State) (r:List Int × State × Int),(∀ x∈l,x.Fits)->(∀ y∈v,U64 y)->Ok s->codeF O call l v s=some r->Ok r.2.1/\(∀ y∈r.1,U64 y)/\(r.2.2=0->r.1.length=v.length)
 | [],v,s,r,_,hv,hs,h=>by cases h; exact ⟨hs,hv,fun _=>rfl⟩
 | x::l,v,s,r,hx,hv,hs,h=>by
  rw [codeF] at h;split at h
  .cases h1:oneF O call x (valsI v x.args) s with
   | none=>rw [h1] at h; cases h
   | some q =>
    rw [h1] at h;obtain ⟨out,s',er⟩:=q;simp only at h;have hxf:=hx x (by simp);have hal:=hxf.2.2.1.1;obtain ⟨k1,k2⟩:=ag5 hO hc hxf.2.1 (aaf hv _) (by rw [aam]; omega) hs h1;split at h
    .rename_i h0
     cases h
     exact ⟨k1,by simp,fun hz=>absurd hz h0⟩
    .split at h
     .obtain ⟨g1,g2,g3⟩:=adt hO hc l _ s' r (fun y hy=>hx y (by simp [hy])) (aav _ _ _ hv k2) k1 h;exact ⟨g1,g2,fun hz=>by rw [g3 hz,KN]⟩
     .cases h
  .cases h
theorem ap4 {s:State} {n:Int} {outs args:List Int} {r:Res} (hn:U64 n) (ha : ∀ y∈args,U64 y) (hs:Ok s) (h:hostF s n outs args=some r):Ok r.2.1 /\ ∀ y∈r.1,U64 y:=by
 simp only [hostF] at h;split at h
 .cases h
  obtain ⟨h1,h2,h3,h4⟩:=ZW outs s.input hs.fit.input.2;have hin:=hs.fit.input.1;refine ⟨⟨⟨hs.fit.mem,hs.fit.most,hs.fit.globals,hs.fit.fuel,⟨by simp only; omega,h4⟩,⟨?_,fun x hx => ?_⟩⟩,hs.fuel⟩,h2⟩
  .simp; omega
  .rcases aG.1 hx with hx | hx
   .exact hs.fit.log.2 x hx
   .rcases aL.1 hx with rfl | hx
    .exact hn
    .exact ha x hx
 .cases h
theorem adk {P:Prog} {go:Nat->Ss.Fn->List Int->Nat->List Int->State->Option Res} {d:Nat} (h : ∀ f∈P.fns, ∀ v args s r,(∀ y∈v,U64 y)->(∀ y∈args,U64 y)->Ok s->go (d+1) f v 0 args s=some r->Ok r.2.1 /\ ∀ y∈r.1,U64 y):Yo (callG P go d):=by
 intro n args s r hn ha hs hr;unfold callG at hr;split at hr
 .split at hr
  .exact ap4 hn ha hs hr
  .cases hr
 .split at hr
  .cases hr; exact ⟨hs,by simp⟩
  .split at hr
   .rename_i f hf;exact h f (aA hf) _ args s r (fun y hy=>by rw [List.eq_of_mem_replicate hy]; exact aaq) ha hs hr
   .cases hr
theorem aa9 {O:Ops} (hO:OpsOk O) {P:Prog} (hP : ∀ f∈P.fns,f.Fits) : ∀ (N d:Nat) (f:Ss.Fn) (v:List Int) (at_:Nat) (args:List Int) (s:State) (r:Res),f∈P.fns->(∀ y∈v,U64 y)->(∀ y∈args,U64 y)->Ok s->cF O P N d f v at_ args s=some r->Ok r.2.1 /\ ∀ y∈r.1,U64 y
 | 0,d,f,v,at_,args,s,r,_,_,_,_,h=>by cases h
 | N+1,d,f,v,at_,args,s,r,hf,hv,ha,hs,h=>by
  have hcall:Yo (callG P (cF O P N) d):=adk fun g hg v args s r hv ha hs hr=>aa9 hO hP N (d+1) g v 0 args s r hg hv ha hs hr
  rw [cF] at h;split at h
  .cases h
  .rename_i b hb;split at h
   .split at h
    .cases h
    .rename_i v2 s2 er hcd;obtain ⟨k1,k2,k3⟩:=adt hO hcall b.code _ s _ ((hP f hf).2.2.2 b (aA hb)).2.1.2 (aav _ _ _ hv ha) hs hcd;simp only at k1 k2;split at h
     .cases h; exact ⟨k1,by simp⟩
     split at h
     .split at h
      .cases h; exact ⟨k1,aaf k2 _⟩
      .cases h
     split at h
     .cases h; exact ⟨k1,by simp⟩
     split at h
     .cases h
     .split at h
      .cases h
      .split at h
       .exact aa9 hO hP N d f v2 _ _ s2 r hf k2 (aaf k2 _) k1 h
       .cases h
   .cases h
theorem al7 {O:Ops} (hO:OpsOk O) {P:Prog} (hP : ∀ f∈P.fns,f.Fits) (N d:Nat):Yo (callG P (cF O P N) d) :=
 adk fun g hg v args s r hv ha hs hr=>aa9 hO hP N (d+1) g v 0 args s r hg hv ha hs hr
end Ev
namespace Go.Vw
open Go.Proofs Go.RowKit
attribute [-simp] List.map_set
theorem zQ (Z:Store) (ov:Nat) (v l:List Int) (hz:Z.get ov=some (1,v.map vu)) (hl:l.length<=1048576) (hi : ∀ i∈l,Ss.InR v.length i):ZA Tryz.prog Z 143 [.slice ov 0 v.length,vl cj l] (vl vu (Ev.valsI v l)):=by
 intro S hZS;have hz:=hZS _ _ hz;refine b7 Tryz.func143 Tryz.ntmps143 fun hwf=>?_
 have on:=ju hwf hz;have oo:=fun u l => @jk S u l ov on
 have gto:=fun ks=>qu (n:=S.nx) (o:=ov) ks on
 have gpo:=fun ks=>qW (n:=S.nx) (o:=ov) ks on
 refine QY ?_;refine QY ?_;refine qZ 5 1 rfl (by conv=>lhs; simp [Fr.set]) ?_
 refine bz ?_
 refine bX [0,1,5,6] (fun c σ S' => ∃ (k:Nat) (out:List Int),k<=l.length/\out=Ev.valsI v (l.take k)/\out.length=k/\c=l.length-k/\σ=[(0, .slice ov 0 v.length),(1,vl cj l),(5, .slice (lid S.nx 0) 0 k),(6,cu k)]/\S'=St S [] [some (1,out.map vu)]) l.length ?_ ?_
 .exact ⟨0,[],by omega,rfl,rfl,rfl,by simp [Fr.oy,Fr.lk],by simp⟩
 .rintro c σ T ⟨k,out,hk,hout,hol,rfl,rfl,rfl⟩
  by_cases hkt:k<l.length
  .have hw:=jg hkt (by omega);obtain ⟨h0,h1⟩:=hi _ (ah hkt);obtain ⟨m,hm⟩ : ∃ m:Nat,l[k]=(m:Int):=⟨l[k].toNat,by omega⟩
   rw [hm] at h0 h1;have hmv:m<v.length:=by omega
   have hd1:out++[v[m]]=Ev.valsI v (l.take (k+1)):=by
    rw [List.take_add_one,ac hkt,Ev.valsI,List.map_append,hout,Ev.valsI,hm];simp [ac hmv]
   obtain ⟨x,hx⟩ : ∃ x,v[m]=x:=⟨_,rfl⟩
   rw [hx] at hd1;subst hol;have hb8:(out.length+1)*8<=140737488355328:=by omega
   have hb1:out.length+1<=140737488355328:=by omega
   repeat first|refine QG ?_|refine QY ?_ (r:=by conv=>lhs;simp[QV,hkt,hm,hmv,hx,hw,hb8,hb1,oo,hz])
   refine qh [2] (by conv=>lhs; simp [Fr.oy]) hwf (by decide) (by simp [jm,jp,gto,gpo]) (by conv=>lhs; simp [jm,jp,gto,gpo]) (by conv=>lhs; simp [jm,jp,gto,gpo]) (by conv=>lhs; simp [jm,jp,gto,gpo]) ⟨?_,out.length+1,out++[x],hkt,hd1,by simp,rfl,by simp [Fr.oy,Fr.lk],by simp⟩;omega
  .have hke:k=l.length:=by omega
   subst hke;rw [List.take_length] at hout;rw [<-hout]
   refine bD hkt ?_
   exact jf hwf ((frz1 (by simp) (by rfl) (jo vu (fun _=>rfl) _) (by simpa using hol)).toB _) rfl
end Go.Vw
namespace Ev
theorem abq : ∀ (v is xs:List Int) (j:Nat) (h1:j<is.length) (h2:j<xs.length),cE v (is.take (j+1)) (xs.take (j+1))=(cE v (is.take j) (xs.take j)).set (is[j]).toNat xs[j]
 | v,[],_,j,h1,_=>absurd h1 (Nat.not_lt_zero _)
 | v,_::_,[],j,_,h2=>absurd h2 (Nat.not_lt_zero _)
 | v,i::is,x::xs,0,_,_=>by simp [cE]
 | v,i::is,x::xs,j+1,h1,h2=>by
  simp only [List.take_succ_cons,List.getElem_cons_succ];exact abq (v.set i.toNat x) is xs j (by simpa using h1) (by simpa using h2)
theorem abr : ∀ (v is xs:List Int),is.length<=xs.length->cE v is (xs.take is.length)=cE v is xs
 | v,[],xs,_=>by cases xs<;>rfl
 | v,i::is,[],h=>absurd h (by simp)
 | v,i::is,x::xs,h=>by
  simp only [aC,List.take_succ_cons,cE];exact abr _ is xs (by simpa using h)
theorem acm {n:Nat} {l:List Int} (h:inR n l=true) {j:Nat} (hj:j<l.length) : ∃ m:Nat,l[j]=(m:Int)/\m<n:=by
 simp only [inR,aD,af,aj] at h;obtain ⟨h1,h2⟩:=h _ (ah hj);exact ⟨l[j].toNat,by omega,by omega⟩
theorem abf {n:Nat} {l:List Int} (h:inR n l=true) : ∀ i∈l,Ss.InR n i:=by
 simp only [inR,aD,af,aj] at h;exact h
end Ev
namespace Go.Vw
open Go.Proofs Go.RowKit
theorem anj (v:List Int) (m:Nat) (y:Int):(v.map vu).set m (.int .u64 y)=(v.set m y).map vu:=by rw [List.map_set]; rfl
theorem aev {f:Nat->Nat} {p:Nat->Bool} (h : ∀ o,p o=true->f o=o) : ∀ (σ:Fr),idsF p σ=true -> ∀ t,σ.lk t=(σ.lk t).ren f
 | [],_,t=>by simp [Fr.lk,V.ren]
 | (k,x)::r,hx,t=>by
  simp only [idsF,af] at hx;simp only [Fr.lk];split
  .exact (WI h x hx.1).symm
  .exact aev h r hx.2 t
theorem anp {N:Nat} {σ:Fr} {S:Store} {P:Ev.Prog} {s:Ev.State} {o g l:Nat} {d e:Int} {w:List (Option (Nat × List V))} (hwf:S.Wf) (hr:RunAt S P s o g l d e) (hw : ∀ c∈w, ∀ x,c=some x->V.idsL (fun i=>decide (i<S.nx+w.length)) x.2=true) (hσ:idsF (fun i=>decide (i<S.nx+w.length)) σ=true) :
  Reach N S.nx σ (St S [] w) σ (ownS S P s o g l d e (w++[some (1,s.log.map vu)]) w.length) :=
 Reach.ren (avz hwf hr hw) (aev (fun o ho=>act (aP ho)) σ hσ)
theorem amh {P:Program} {Z:ZZ} {σ:Fr} {S:Store} {K:Fr->Store->Prop} {d:Option Nat} {f:FuncId} {args:List Arg} {xs:List V} {r:List CO} {X:V} (h:ZA P Z.z0 f xs X) (ha:args.map (ev σ)=xs) (H:jI P (some Z) r K (σ.put d X) S) (he:Z.early d=true:=by rfl) (hw:wrcL Z.es d=false:=by rfl):jI P (some Z) (⟨d,none, .call f args⟩::r) K σ S:=by
 rw [Wj,ha];show zU P (some Z) d f xs S _;simp only [zU];rw [if_neg (by rw [hw]; decide)];refine ⟨X, ?_,H⟩;rw [he];exact h
end Go.Vw
namespace Ev
structure FnB (f:Ss.Fn):Prop where
 types:f.types.length<=2048
 pars : ∀ b∈f.blocks,b.params.length<=256
 code : ∀ b∈f.blocks,b.code.length<=4096
 ins : ∀ b∈f.blocks, ∀ x∈b.code,x.Fits/\x.args.length<=4096/\x.outs.length<=4096/\(x.op=16->x.n<64)
 args : ∀ b∈f.blocks,b.term.args.length<=4096
 to : ∀ b∈f.blocks,b.term.to.length<=4096 /\ ∀ x∈b.term.to,x.args.length<=4096
 len:f.blocks.length<=256
theorem fn_b {e:Ss.Env} {f:Ss.Fn} (hf:f.Fits) (he:e.right=true) (h:Ss.check e f=true):FnB f:=by
 obtain ⟨ds,hds,hok⟩:=acb hf h;obtain ⟨h1,_⟩:=Ss.aae h;simp only [Ss.checkHead,Ss.kinds,af,aj,aD] at h1;have hsm:=(Ss.aao f).1 h1.1.1.1.1.2;have hB : ∀ b∈f.blocks,b.term.to.length<=4096/\b.term.args.length<=4096/\(∀ x∈b.code,x.args.length<=4096/\x.outs.length<=4096) /\ ∀ x∈b.term.to,x.args.length<=4096:=fun b hb=>by
  have:=hsm.2.1 b hb;simp only [Ss.Block.small,Ss.Ins.small,Ss.Edge.small,af,aj,aD] at this;exact ⟨this.1.1.1.2,this.1.1.2,this.1.2,this.2⟩
 refine ⟨h1.1.1.2.1,fun b hb=>h1.2 b hb,fun b hb => ?_,fun b hb x hx=>⟨(hf.2.2.2 b hb).2.1.2 x hx,((hB b hb).2.2.1 x hx).1,((hB b hb).2.2.1 x hx).2,fun ho => ?_⟩,fun b hb=>(hB b hb).2.1,fun b hb=>⟨(hB b hb).1,(hB b hb).2.2.2⟩,h1.1.1.1.2⟩
 .obtain ⟨i,hi⟩:=aB.1 hb;exact (hok.blocks i b hi).len
 .obtain ⟨i,hi⟩:=aB.1 hb;obtain ⟨k,hk⟩:=aB.1 hx;have:=Ss.aaj (hok.blocks i b hi).code hk;simp only [Ss.insOk,af] at this;have hfo:=this.1.1.1;rw [ho] at hfo;simp only [Ss.form] at hfo;simp only [Ss.Env.right,af,aj] at he;have:=he.1.1.1.2;split at hfo
  .omega
  .split at hfo
   .omega
   .split at hfo
    .omega
    .simp only [if_true] at hfo;split at hfo
     .omega
     .cases hfo
end Ev
namespace Go.Vw
open Go.Proofs Go.RowKit
attribute [-simp] List.map_set
theorem ax0 (n:Nat):List.replicate n (V.int .u64 0)=(List.replicate n (0:Int)).map vu:=by simp [vu]
theorem ap1 (O:Ev.Ops) (hO:OpsV O) (hOk:Ev.OpsOk O) (P:Ev.Prog) (hP:Ev.RightP P) (N d:Nat) (hd:d<=16) (hcalls : ∀ M<N,CallOk P (Ev.callG P (Ev.cF O P M) d) d):BlocksOk P (Ev.cF O P N d) d:=by
 intro f args s r S o g l hfm hs ha hal hr hf;have hR:=hr;obtain ⟨i0,hi0⟩:=aB.1 hfm;obtain ⟨f1,f2,f3⟩:=hP.fns i0 f hi0;obtain ⟨bT,bP,bC,bI,bA,bE,bL⟩:=Ev.fn_b f1 hP.env f2;have hPf : ∀ f∈P.fns,f.Fits:=fun f hf=>by
  obtain ⟨i,hi⟩:=aB.1 hf;exact (hP.fns i f hi).1
 have hkeep:=fun M=>Ev.al7 hOk hPf M d
 have hkeepB:=fun M=>Ev.aa9 hOk hPf M d
 clear hi0 f2 f3 hPf;obtain ⟨⟨fi,fo⟩,ts,bs⟩:=f;simp only at bT bP bC bI bA bE bL;have e1:jM ⟨⟨fi,fo⟩,ts,bs⟩ = .agg [vl cj fi,vl cj fo,vl cj ts,vl je bs]:=rfl;rw [e1];have hb8:ts.length*8<=140737488355328:=by omega
 have hb1:ts.length<=140737488355328:=by omega
 refine b7 Tryz.func124 Tryz.ntmps124 fun hwf=>?_
 have on:=ju hwf hr.obj;have gn:=ju hwf hr.glob;have ln:=ju hwf hr.log;have h4:=hr.og;have h5:=hr.ol;have h6:=hr.gl;have oo:=fun u l => @jk S u l o on
 have updo:=fun u l c => @qS S u l c o on
 have gto:=fun ks=>qu (n:=S.nx) (o:=o) ks on
 have gtg:=fun ks=>qu (n:=S.nx) (o:=g) ks gn
 have gpo:=fun ks=>qW (n:=S.nx) (o:=o) ks on
 have gpg:=fun ks=>qW (n:=S.nx) (o:=g) ks gn
 refine QY ?_;refine QH 4 0 ?_;refine QY ?_ (r:=by conv=>lhs;simp[QV,hb8,hb1]);refine QO [0,2,4,7] ?_;rw [ax0];obtain ⟨v0,hv0⟩ : ∃ v0,v0=List.replicate ts.length (0:Int):=⟨_,rfl⟩
 rw [<-hv0];refine Yq [1] hwf (by decide) (by simp [jm,jp,gto,gtg,gpo,gpg]) (by conv=>lhs; simp [jm,jp,gto,gtg,gpo,gpg]) (by conv=>lhs; simp [jm,jp,gto,gtg,gpo,gpg]) (by conv=>lhs; simp [jm,jp,gto,gtg,gpo,gpg]) ?_;refine jv (anp (w:=[some (1,v0.map vu)]) hwf hR ?_ ?_) ?_
 .intro c hc x hx;rw [aU] at hc;subst hc
  cases hx
  exact jp _ _
 .simp [idsF,on,lid];omega
 simp only [bl,bm,aC,aM]
 refine bz ?_
 refine bX [0,2,4,7,8] (fun c σ S' => ∃ (v:List Int) (k:Nat) (ar:List Int) (s2:Ev.State),c<=N/\v.length=ts.length/\(∀ y∈v,Ev.U64 y)/\(∀ y∈ar,Ev.U64 y)/\ar.length<=4096/\Ok s2/\Ev.cF O P c d ⟨⟨fi,fo⟩,ts,bs⟩ v k ar s2=some r/\σ=[(0, .ptr o 0),(2,vl vu ar),(4,(V.agg [vl cj fi,vl cj fo,vl cj ts,vl je bs]).ref),(7, .slice (lid S.nx 0) 0 v.length),(8,cu k)]/\S'=ownS S P s2 o g l d 0 [some (1,v.map vu),some (1,s2.log.map vu)] 1) N ?_ ?_
 .exact ⟨v0,0,args,s,a9 _,by simp [hv0],(fun y hy=>by rw [hv0] at hy; rw [List.eq_of_mem_replicate hy]; exact Ev.aaq),ha,hal,hs,by rw [hv0]; exact hf,by simp [Fr.oy,Fr.lk,hv0],rfl⟩
 clear hs ha hal hr hf;rintro c σ T ⟨v,k,ar,s2,hcN,hvl,hvu,hau,hal,hs,hf,rfl,rfl⟩
 cases c with
 | zero=>cases hf
 | succ M =>
 rw [Ev.cF] at hf
 cases hb:bs[k]? with
 | none=>rw [hb] at hf; cases hf
 | some b =>
 rw [hb] at hf;simp only at hf;split at hf
 rotate_left
 .cases hf
 rename_i hpar;obtain ⟨hpi,hpl⟩:=hpar;obtain ⟨hkl,hbk⟩:=ae.1 hb;have hbm:=aA hb;have hbP:=bP b hbm;have hbC:=bC b hbm;have hbI:=bI b hbm;have hbA:=bA b hbm;have hbE:=bE b hbm;clear hb hbm bP bC bI bA bE hb8 hb1 e1 f1;obtain ⟨ps,code,⟨tk,ta,tt,tz⟩⟩:=b;simp only at hf hpi hpl hbP hbC hbI hbA hbE;simp only [ownS,runC]
 refine bF hkl hbk ?_
 refine QH 9 2 ?_;refine bX [0,2,4,7,9,10] (fun c σ S' => ∃ (j:Nat) (w:List Int),j<=ps.length/\c=ps.length-j/\w=Ev.cE v (ps.take j) (ar.take j)/\w.length=v.length/\σ=[(0, .ptr o 0),(2,vl vu ar),(4,(V.agg [vl cj fi,vl cj fo,vl cj ts,vl je bs]).ref),(7, .slice (lid S.nx 0) 0 w.length),(9,(V.agg [vl cj ps,vl js code,cj tk,cj ta,vl ji tt,vl cj tz]).ref),(10,cu j)]/\S'=St S [(o,some (14,[vl jn P.env.sigs,cj P.env.imports,vl cj P.env.globals,vl V.bool P.env.muts, .bool P.env.mem,vl jM P.fns,vl vby s2.mem,cj s2.most, .slice g 0 s2.globals.length,cj s2.fuel,vl vu s2.input, .slice (lid S.nx 1) 0 s2.log.length,cj d,cj 0])),(g,some (1,s2.globals.map vu)),(l,none)] [some (1,w.map vu),some (1,s2.log.map vu),none]) ps.length ?_ ?_
 .exact ⟨0,v,Nat.zero_le _,rfl,by simp [Ev.cE],rfl,by simp [Fr.oy,Fr.lk],by simp⟩
 .rintro c σ T ⟨j,w,hj,rfl,hw,hwl,rfl,rfl⟩
  by_cases hjp:j<ps.length
  .have hjw:=jg hjp (by omega);obtain ⟨m,hm,hml⟩:=Ev.acm hpi hjp;have hja:j<ar.length:=by omega
   obtain ⟨y,hy⟩ : ∃ y,ar[j]=y:=⟨_,rfl⟩
   have hstep:=Ev.abq v ps ar j hjp hja;rw [<-hw,hm,hy,bq] at hstep;have hmw:m<w.length:=by omega
   have hsv:=anj w m y
   refine bD hjp ?_
   refine bZ (ZC) (ZC) [34,35,37,38,41,42,43] ?_ (hz:=JB) (r:=by conv=>lhs; simp [QV,hjp,hm,hja,hy,hmw]);refine zd rfl (by conv=>lhs; simp [QV,hjp,hm,hja,hy,hmw,hsv]) (JB) ?_;refine QN ?_
   refine bD hjw ?_
   show jx _ _ _ _ _ _ _;exact again ⟨ao hjp (aW j),j+1,w.set m y,hjp,rfl,hstep.symm,by simp [hwl],by simp [Fr.oy,Fr.lk],rfl⟩
  .have hje:j=ps.length:=by omega
   subst hje;rw [List.take_length,Ev.abr _ _ _ hpl] at hw;rw [<-hw] at hf;have hwu : ∀ y∈w,Ev.U64 y:=by rw [hw]; exact Ev.aav _ _ _ hvu hau
   clear hw hpi hpl hvu hau hal hbP
   cases hQ:Ev.codeF O (Ev.callG P (Ev.cF O P M) d) code w s2 with
   | none=>rw [hQ] at hf; cases hf
   | some q =>
   obtain ⟨vE,sE,er⟩:=q;rw [hQ] at hf;simp only at hf
   refine bD hjp ?_
   refine QO [0,4,7,9,11] ?_;refine Yq [0,1] hwf (by decide) (by simp [jm,jp,gto,gtg,gpo,gpg]) (by conv=>lhs; simp [jm,jp,gto,gtg,gpo,gpg]) (by conv=>lhs; simp [jm,jp,gto,gtg,gpo,gpg]) (by conv=>lhs; simp [jm,jp,gto,gtg,gpo,gpg]) ?_;refine bX [0,4,7,9,11] (fun c σ S' => ∃ (j:Nat) (w:List Int) (s3:Ev.State),j<=code.length/\c=code.length-j/\(∀ y∈w,Ev.U64 y)/\w.length=v.length/\Ok s3/\Ev.codeF O (Ev.callG P (Ev.cF O P M) d) (code.drop j) w s3=some (vE,sE,er)/\σ=[(0, .ptr o 0),(4,(V.agg [vl cj fi,vl cj fo,vl cj ts,vl je bs]).ref),(7, .slice (lid S.nx 0) 0 w.length),(9,(V.agg [vl cj ps,vl js code,cj tk,cj ta,vl ji tt,vl cj tz]).ref),(11,cu j)]/\S'=St S [(o,some (14,[vl jn P.env.sigs,cj P.env.imports,vl cj P.env.globals,vl V.bool P.env.muts, .bool P.env.mem,vl jM P.fns,vl vby s3.mem,cj s3.most, .slice g 0 s3.globals.length,cj s3.fuel,vl vu s3.input, .slice (lid S.nx 1) 0 s3.log.length,cj d,cj 0])),(g,some (1,s3.globals.map vu)),(l,none)] [some (1,w.map vu),some (1,s3.log.map vu)]) code.length ?_ ?_
   .exact ⟨0,w,s2,Nat.zero_le _,rfl,hwu,hwl,hs,hQ,by simp [Fr.oy,Fr.lk],by simp⟩
   clear hs hwu hwl hQ;rintro c σ T ⟨j,w,s3,hj,rfl,hwu,hwl,hs,hQ,rfl,rfl⟩
   by_cases hjp:j<code.length
   .have hjw:=jg hjp (by omega);rw [am hjp,Ev.codeF] at hQ;obtain ⟨x,hx⟩ : ∃ x,code[j]=x:=⟨_,rfl⟩
    rw [hx] at hQ;obtain ⟨xF,xA,xO,xC⟩:=hbI x (by rw [<-hx]; exact ah hjp);split at hQ
    rotate_left
    .cases hQ
    rename_i hin
    cases h1:Ev.oneF O (Ev.callG P (Ev.cF O P M) d) x (Ev.valsI w x.args) s3 with
    | none=>rw [h1] at hQ; cases hQ
    | some q =>
    obtain ⟨out,s4,e1⟩:=q;rw [h1] at hQ;simp only at hQ;obtain ⟨hs4,hou⟩:=Ev.ag5 hOk (hkeep M) xF.2.1 (Ev.aaf hwu _) (by rw [Ev.aam]; omega) hs h1;simp only at hs4 hou;have hval:=zQ (ownS S P s3 o g l d 0 [some (1,w.map vu),some (1,s3.log.map vu),none] 1) (lid S.nx 0) w x.args (by simp [ownS,jB]) (by omega) (Ev.abf hin);have hat:RunAt (ownS S P s3 o g l d 0 [some (1,w.map vu),some (1,s3.log.map vu),none] 1) P s3 o g (lid S.nx 1) d 0:=agt on gn ln h4 h5 h6 rfl;have hone:=ax1 O hO P _ ⟨⟨fi,fo⟩,ts,bs⟩ x _ s3 o g (lid S.nx 1) d _ _ (hcalls M (by omega)) hs xF (Ev.aaf hwu _) (by rw [Ev.aam]; omega) xC hat h1;have hc:=ZR hat (ahk out) hone;rw [ar4 on gn ln h4 h5 h6] at hc;have hop : ∃ a b c d,x=⟨a,b,c,d⟩:=⟨_,_,_,_,rfl⟩
    refine bF hjp hx ?_
    refine QH 12 2 ?_;refine bZ (ZC) (ZC) [57,58,60,61,62,20063] ?_ (hz:=JB) (r:=by conv=>lhs; simp [QV,hjp]);refine amh hval rfl ?_;refine QZ ?_;refine jcs rfl (hc) (by rfl) (by rfl) ?_ ?_;exact JB;simp only [ownS,runC,aq,au,bl,bm,aC,aM,a8,Nat.reduceAdd];refine QW ?_
    by_cases he1:e1=0
    .subst he1;rw [if_neg (by decide)] at hQ;split at hQ
     rotate_left
     .cases hQ
     rename_i hoo;obtain ⟨hoi,hol⟩:=hoo
     refine bD oo ?_
     refine bX [0,4,7,9,11,12,13,14] (fun c σ S' => ∃ (i:Nat) (w2:List Int),i<=x.outs.length/\c=x.outs.length-i/\w2=Ev.cE w (x.outs.take i) (out.take i)/\w2.length=w.length/\σ=[(0, .ptr o 0),(4,(V.agg [vl cj fi,vl cj fo,vl cj ts,vl je bs]).ref),(7, .slice (lid S.nx 0) 0 w2.length),(9,(V.agg [vl cj ps,vl js code,cj tk,cj ta,vl ji tt,vl cj tz]).ref),(11,cu j),(12,(V.agg [cj x.op,vu x.n,vl cj x.args,vl cj x.outs]).ref),(13,vl vu out),(14,cu i)]/\S'=St S [(o,some (14,[vl jn P.env.sigs,cj P.env.imports,vl cj P.env.globals,vl V.bool P.env.muts, .bool P.env.mem,vl jM P.fns,vl vby s4.mem,cj s4.most, .slice g 0 s4.globals.length,cj s4.fuel,vl vu s4.input, .slice (lid S.nx 3) 0 s4.log.length,cj d,cj 0])),(g,some (1,s4.globals.map vu)),(l,none)] [some (1,w2.map vu),none,none,some (1,s4.log.map vu)]) x.outs.length ?_ ?_
     .exact ⟨0,w,Nat.zero_le _,rfl,by simp [Ev.cE],rfl,by simp [Fr.oy,Fr.lk],by simp⟩
     .rintro c σ T ⟨i,w2,hi,rfl,hw,hwl2,rfl,rfl⟩
      by_cases hip:i<x.outs.length
      .have hiw:=jg hip (by omega);obtain ⟨m,hm,hml⟩:=Ev.acm hoi hip;have hia:i<out.length:=by omega
       obtain ⟨y,hy⟩ : ∃ y,out[i]=y:=⟨_,rfl⟩
       have hstep:=Ev.abq w x.outs out i hip hia;rw [<-hw,hm,hy,bq] at hstep;have hmw:m<w2.length:=by omega
       have hsv:=anj w2 m y
       refine bD hip ?_
       refine bZ (ZC) (ZC) [77,78,80,81,84,85,86] ?_ (hz:=JB) (r:=by conv=>lhs; simp [QV,hip,hm,hia,hy,hmw]);refine zd rfl (by conv=>lhs; simp [QV,hip,hm,hia,hy,hmw,hsv]) (JB) ?_;refine QN ?_
       refine bD hiw ?_
       show jx _ _ _ _ _ _ _;exact again ⟨ao hip (aW i),i+1,w2.set m y,hip,rfl,hstep.symm,by simp [hwl2],by simp [Fr.oy,Fr.lk],rfl⟩
      .have hie:i=x.outs.length:=by omega
       subst hie;rw [List.take_length,Ev.abr _ _ _ hol] at hw;rw [<-hw] at hQ;have hwu2 : ∀ y∈w2,Ev.U64 y:=by rw [hw]; exact Ev.aav _ _ _ hwu hou
       refine bF hip hjw ?_
       refine qh [0,3] (by conv=>lhs; simp [Fr.oy]) hwf (by decide) (by simp [jm,jp,gto,gtg,gpo,gpg]) (by conv=>lhs; simp [jm,jp,gto,gtg,gpo,gpg]) (by conv=>lhs; simp [jm,jp,gto,gtg,gpo,gpg]) (by conv=>lhs; simp [jm,jp,gto,gtg,gpo,gpg]) ⟨?_,j+1,w2,s4,hjp,rfl,hwu2,by omega,hs4,hQ,by simp [Fr.oy,Fr.lk],by simp⟩;omega
    .rw [if_pos he1] at hQ
     cases hQ
     rw [if_pos he1] at hf
     cases hf
     refine bF oo he1 ?_
     exact ai8 (P:=P) (d:=d) (e:=er) (w:=[some (1,w.map vu),none,none,some (1,sE.log.map vu)]) (k:=3) (s:=sE) hwf on gn ln h4 h5 h6 rfl
   .have hje:j=code.length:=by omega
    subst hje;rw [List.drop_length,Ev.codeF] at hQ
    cases hQ
    rw [if_neg (by decide)] at hf;have htt:=hbE.1
    by_cases k4:tk=4
    .rw [if_pos k4] at hf;split at hf
     rotate_left
     .cases hf
     rename_i hti
     cases hf
     subst k4
     refine bD hjp ?_
     refine QP ?_;refine jK rfl (zQ _ (lid S.nx 0) vE tz (by simp [jB]) (by omega) (Ev.abf hti) _ (Store.sub_refl _)) ?_;rintro X T ⟨rfl,rfl⟩;refine bV ?_
     exact acv (P:=P) (d:=d) (e:=0) (out:=Ev.valsI vE tz) (w:=[some (1,vE.map vu),some (1,sE.log.map vu),some (4,[cj 4,cj ta,vl ji tt,vl cj tz])]) (k:=1) (s:=sE) hwf on gn ln h4 h5 h6 rfl
    rw [if_neg k4] at hf
    by_cases k5:tk=5
    .rw [if_pos k5] at hf
     cases hf
     subst k5
     refine bO hjp oo updo h5 h6 ?_
     exact ai8 (P:=P) (d:=d) (e:=32) (w:=[some (1,vE.map vu),some (1,sE.log.map vu),some (4,[cj 5,cj ta,vl ji tt,vl cj tz])]) (k:=1) (s:=sE) hwf on gn ln h4 h5 h6 rfl
    rw [if_neg k5] at hf
    cases hpk:Ev.pickF vE ⟨tk,ta,tt,tz⟩ with
    | none=>rw [hpk] at hf; cases hf
    | some kk =>
    rw [hpk] at hf;simp only at hf
    cases hed0:tt[kk]? with
    | none=>rw [hed0] at hf; cases hf
    | some ed =>
    rw [hed0] at hf;simp only at hf;split at hf
    rotate_left
    .cases hf
    rename_i hee;obtain ⟨hei,he0⟩:=hee;obtain ⟨hkk,hed⟩:=ae.1 hed0;have heA:=hbE.2 ed (by rw [<-hed]; exact ah hkk);have heA:ed.args.length<=1048576:=by omega
    obtain ⟨n2,heto⟩ : ∃ n2:Nat,ed.to=(n2:Int):=⟨ed.to.toNat,by omega⟩
    rw [heto,bq] at hf;clear hed0 hbE hbI hbC hbA;simp only [Ev.pickF] at hpk
    by_cases k2:tk=2
    .rw [if_pos k2] at hpk;split at hpk
     rotate_left
     .cases hpk
     rename_i hai;obtain ⟨m,hm,hmw⟩:=Ev.acm hai (j:=0) (by simp);simp only [List.getElem_cons_zero] at hm;subst hm;obtain ⟨y,hy⟩ : ∃ y,vE[m]=y:=⟨_,rfl⟩
     rw [bq,ag,ac hmw,aR,hy] at hpk;subst k2
     by_cases hy0:y=0
     .rw [if_pos hy0] at hpk
      cases hpk
      subst hy0;have hix1 : ∀ S',jF 2 S' (vl ji tt) (.int .i64 1)=some (.ref (ji ed)):=fun S'=>zl (enc:=ji) (l:=tt) (i:=1) rfl (by rw [ac hkk,hed])
      refine bH hjp hmw hy hix1 ?_
      refine QP ?_ (r:=by conv=>lhs;simp[QV,hkk,hed,hix1]);refine jK rfl (zQ _ (lid S.nx 0) vE ed.args (by simp [jB]) heA (Ev.abf hei) _ (Store.sub_refl _)) ?_;rintro X T ⟨rfl,rfl⟩;refine QW ?_
      refine bH hkk hed heto hix1 ?_
      refine qh [0,1] (by conv=>lhs; simp [Fr.oy]) hwf (by decide) (by simp [jm,jp,gto,gtg,gpo,gpg]) (by conv=>lhs; simp [jm,jp,gto,gtg,gpo,gpg]) (by conv=>lhs; simp [jm,jp,gto,gtg,gpo,gpg]) (by conv=>lhs; simp [jm,jp,gto,gtg,gpo,gpg]) ⟨?_,vE,n2,Ev.valsI vE ed.args,sE,by omega,by omega,hwu,Ev.aaf hwu _,by rw [Ev.aam]; omega,hs,hf,by simp [Fr.oy,Fr.lk],by simp [ownS,runC]⟩;omega
     .rw [if_neg hy0] at hpk
      cases hpk
      refine bH hjp hmw hy hy0 ?_
      refine bQ hkk hed ?_;refine jK rfl (zQ _ (lid S.nx 0) vE ed.args (by simp [jB]) heA (Ev.abf hei) _ (Store.sub_refl _)) ?_;rintro X T ⟨rfl,rfl⟩;refine QW ?_
      refine bG hkk hed heto ?_
      refine qh [0,1] (by conv=>lhs; simp [Fr.oy]) hwf (by decide) (by simp [jm,jp,gto,gtg,gpo,gpg]) (by conv=>lhs; simp [jm,jp,gto,gtg,gpo,gpg]) (by conv=>lhs; simp [jm,jp,gto,gtg,gpo,gpg]) (by conv=>lhs; simp [jm,jp,gto,gtg,gpo,gpg]) ⟨?_,vE,n2,Ev.valsI vE ed.args,sE,by omega,by omega,hwu,Ev.aaf hwu _,by rw [Ev.aam]; omega,hs,hf,by simp [Fr.oy,Fr.lk],by simp [ownS,runC]⟩;omega
    rw [if_neg k2] at hpk
    by_cases k3:tk=3
    .rw [if_pos k3] at hpk;split at hpk
     rotate_left
     .cases hpk
     rename_i hai;obtain ⟨hai,hl0⟩:=hai;obtain ⟨m,hm,hmw⟩:=Ev.acm hai (j:=0) (by simp);simp only [List.getElem_cons_zero] at hm;subst hm;obtain ⟨y,hy⟩ : ∃ y,vE[m]=y:=⟨_,rfl⟩
     have hyu:Ev.U64 y:=by rw [<-hy]; exact hwu _ (ah hmw)
     rw [bq,ag,ac hmw,aR,hy] at hpk;subst k3;obtain ⟨q,hq⟩ : ∃ q:Nat,tt.length=q+1:=⟨tt.length-1,by omega⟩
     have hw1:IntKind.i64.wrap ((tt.length:Int)-1)=(q:Int):=by rw [hq]; rw [show ((q+1:Nat):Int)-1=(q:Int) by omega]; exact wrap_i64 (by omega) (by omega)
     have hw2:IntKind.u64.wrap (q:Int)=(q:Int):=bU;have hq1:tt.length-1=q:=by omega
     rw [hq1] at hpk
     by_cases hyq:y<(q:Int)
     .rw [if_pos hyq] at hpk;obtain ⟨z,hz⟩ : ∃ z:Nat,y=(z:Int):=⟨y.toNat,by have:=hyu.1; omega⟩
      subst hz;rw [bq] at hpk
      cases hpk
      have hw3:IntKind.i64.wrap (kk:Int)=(kk:Int):=wrap_i64 (by omega) (by omega)
      repeat first|refine QG ?_|refine QY ?_ (r:=by conv=>lhs;simp[QV,hjp,hmw,hy,hw1,hw2,hyq,hw3])
      refine bQ hkk hed ?_;refine jK rfl (zQ _ (lid S.nx 0) vE ed.args (by simp [jB]) heA (Ev.abf hei) _ (Store.sub_refl _)) ?_;rintro X T ⟨rfl,rfl⟩;refine QW ?_
      refine bG hkk hed heto ?_
      refine qh [0,1] (by conv=>lhs; simp [Fr.oy]) hwf (by decide) (by simp [jm,jp,gto,gtg,gpo,gpg]) (by conv=>lhs; simp [jm,jp,gto,gtg,gpo,gpg]) (by conv=>lhs; simp [jm,jp,gto,gtg,gpo,gpg]) (by conv=>lhs; simp [jm,jp,gto,gtg,gpo,gpg]) ⟨?_,vE,n2,Ev.valsI vE ed.args,sE,by omega,by omega,hwu,Ev.aaf hwu _,by rw [Ev.aam]; omega,hs,hf,by simp [Fr.oy,Fr.lk],by simp [ownS,runC]⟩;omega
     .rw [if_neg hyq] at hpk
      cases hpk
      refine bB hjp hmw hy hw1 hw2 hyq ?_
      refine bQ hkk hed ?_;refine jK rfl (zQ _ (lid S.nx 0) vE ed.args (by simp [jB]) heA (Ev.abf hei) _ (Store.sub_refl _)) ?_;rintro X T ⟨rfl,rfl⟩;refine QW ?_
      refine bG hkk hed heto ?_
      refine qh [0,1] (by conv=>lhs; simp [Fr.oy]) hwf (by decide) (by simp [jm,jp,gto,gtg,gpo,gpg]) (by conv=>lhs; simp [jm,jp,gto,gtg,gpo,gpg]) (by conv=>lhs; simp [jm,jp,gto,gtg,gpo,gpg]) (by conv=>lhs; simp [jm,jp,gto,gtg,gpo,gpg]) ⟨?_,vE,n2,Ev.valsI vE ed.args,sE,by omega,by omega,hwu,Ev.aaf hwu _,by rw [Ev.aam]; omega,hs,hf,by simp [Fr.oy,Fr.lk],by simp [ownS,runC]⟩;omega
    .rw [if_neg k3] at hpk
     cases hpk
     refine bO hjp k4 k5 k2 k3 ?_
     refine bQ hkk hed ?_;refine jK rfl (zQ _ (lid S.nx 0) vE ed.args (by simp [jB]) heA (Ev.abf hei) _ (Store.sub_refl _)) ?_;rintro X T ⟨rfl,rfl⟩;refine QW ?_
     refine bG hkk hed heto ?_
     refine qh [0,1] (by conv=>lhs; simp [Fr.oy]) hwf (by decide) (by simp [jm,jp,gto,gtg,gpo,gpg]) (by conv=>lhs; simp [jm,jp,gto,gtg,gpo,gpg]) (by conv=>lhs; simp [jm,jp,gto,gtg,gpo,gpg]) (by conv=>lhs; simp [jm,jp,gto,gtg,gpo,gpg]) ⟨?_,vE,n2,Ev.valsI vE ed.args,sE,by omega,by omega,hwu,Ev.aaf hwu _,by rw [Ev.aam]; omega,hs,hf,by simp [Fr.oy,Fr.lk],by simp [ownS,runC]⟩;omega
theorem amb (l:List Int):(l.map vby).all V.cG=true:=by
 rw [aD];intro x hx;obtain ⟨y,_,rfl⟩:=bi.1 hx
 rfl
theorem zJ {b:Nat} {R:V->Store->Prop} {x x':V} {S S':Store} (h:Ghost x S x' S') (k:Jb b R x' S'):Jb b R x S:=by
 obtain ⟨y,T,hg,hR⟩:=k;exact ⟨y,T,(h.toB b).trans hg,hR⟩
theorem aqv (s:Ev.State) (h1:s.mem.length<=1048576) (h2:s.globals.length<=1048576) (h3:s.input.length<=1048576) (h4:s.log.length<=1048576) (S:Store) :
  b9 92 [qe s] S (fun x T=>x = .agg [vl vby s.mem,cj s.most, .slice (lid S.nx 0) 0 s.globals.length,cj s.fuel,vl vu s.input, .slice (lid S.nx 1) 0 s.log.length]/\T=St S [] [some (1,s.globals.map vu),some (1,s.log.map vu)]):=by
 obtain ⟨mem,most,glb,fuel,inp,log⟩:=s;simp only at h1 h2 h3 h4 ⊢;have e1:qe ⟨mem,most,glb,fuel,inp,log⟩ = .agg [vl vby mem,cj most,vl vu glb,cj fuel,vl vu inp,vl vu log]:=rfl;rw [e1];have a1:=avy mem h1;have a2:=ahp glb h2;have a3:=ahp inp h3;have a4:=ahp log h4;refine qB (c:=jc Tryz.f92) Tryz.func92 rfl (by conv=>lhs; reduce) (by simp [Tryz.ntmps92]) ?_;rw [Tryz.ntmps92];intro hwf;refine QY ?_;refine bR a1 ?_;refine bR a2 ?_;refine bR a3 ?_;refine bR a4 ?_;refine QY ?_
 refine bz ?_
 refine Ye (xs:=[.agg [.slice (lid S.nx 2) 0 mem.length,cj most, .slice (lid S.nx 3) 0 glb.length,cj fuel, .slice (lid S.nx 4) 0 inp.length, .slice (lid S.nx 5) 0 log.length]]) (by simp) ?_;rw [agd];refine zJ (Jt (GhostArgs.one [] _ (frz1 (k:=2) (by simp) (by rfl) (amb mem) (by simp)))) ?_;refine zJ (Jt (GhostArgs.one [_,_,_,_] _ (frz1 (k:=4) (by simp) (by rfl) (jo vu (fun _=>rfl) inp) (by simp)))) ?_;simp only [bm,bl,aq,au];refine ajs [3,5] hwf (by decide) (by simp [jm,jp]) (by first | (simp [jm,jp]; done) | (simp [jm,jp]; rfl)) (by first | (simp; done) | (simp; exact ⟨rfl,rfl⟩)) ⟨rfl,rfl⟩
theorem ar3 {O:Ev.Ops} (hO:OpsV O) (hOk:Ev.OpsOk O) {P:Ev.Prog} (hP:Ev.RightP P) (N:Nat) : ∀ d,d<=16->CallOk P (Ev.callG P (Ev.cF O P N) d) d:=by
 induction N using Nat.strongRecOn with
 | ind N ih =>
  intro d hd;refine avt P hP _ d hd fun h => ?_
  have:=ap1 O hO hOk P hP N (d+1) (by omega) fun M hM=>ih M hM (d+1) (by omega)
  exact this
def JF (P:Ev.Prog):V := .agg [vl jn P.env.sigs,cj P.env.imports,vl cj P.env.globals,vl V.bool P.env.muts, .bool P.env.mem,vl jM P.fns]
theorem anb {S:Store} {P:Ev.Prog} {s:Ev.State} {d e:Int} {c0 c1 c2 c3:Option (Nat × List V)} :
  JW (St S [] [c0,c1,c2,c3]) P s (lid S.nx 3) (lid S.nx 1) (lid S.nx 2) d e=St S [] [c0,some (1,s.globals.map vu),none,some (14,runC P s (lid S.nx 1) (lid S.nx 4) d e),some (1,s.log.map vu)]:=by
 have hn:(St S [] [c0,c1,c2,c3]).nx=S.nx+4:=by simp [jR,lid]
 refine Store.ext' (funext fun i => ?_) (by simp only [JW,jR,hn]; simp [lid]);rw [JW,qJ,hn,qJ,qJ];have hl:lid (S.nx+4) 0=lid S.nx 4:=by simp [lid]
 rw [hl]
 by_cases h1:i<S.nx
 .have g1:i≠lid S.nx 3:=by simp only [lid]; omega
  have g2:i≠lid S.nx 1:=by simp only [lid]; omega
  have g3:i≠lid S.nx 2:=by simp only [lid]; omega
  simp only [if_pos h1,if_pos (show i<S.nx+4 by omega),uGet,if_neg g1,if_neg g2,if_neg g3]
 .obtain ⟨j,rfl⟩ : ∃ j,i=S.nx+j:=⟨i-S.nx,by omega⟩
  have e1:S.nx+j-S.nx=j:=by omega
  have e2:S.nx+j-(S.nx+4)=j-4:=by omega
  simp only [if_neg h1,uGet,lid,e1,e2]
  match j with
  | 0=>simp
  | 1=>simp
  | 2=>simp
  | 3=>simp
  | 4=>simp
  | j+5=>simp
theorem aza (O:Ev.Ops) (hO:OpsV O) (hOk:Ev.OpsOk O) (P:Ev.Prog) (hP:Ev.RightP P) (N:Nat) (s:Ev.State) (n:Int) (args:List Int) (r:Ev.Res) (hs:Ok s) (h1:s.mem.length<=1048576) (h2:s.globals.length<=1048576) (h3:s.input.length<=1048576) (h4:s.log.length<=1048576)
  (ha : ∀ x∈args,Ev.U64 x) (hal:args.length<=4096) (hn0:0<=n) (hn1:n<64) (hf:Ev.callF O P N 0 n args s=some r):b8 55 [JF P,qe s,cj n,vl vu args] (.tuple [vl vu (if r.2.2=0 then r.1 else []),qe r.2.1,cj r.2.2]):=by
 intro S;have hcall:=ar3 hO hOk hP N 0 (by omega);have cft:=fun S'=>aqv s h1 h2 h3 h4 S'
 obtain ⟨mem,most,glb,fuel,inp,log⟩:=s;have e1:qe ⟨mem,most,glb,fuel,inp,log⟩ = .agg [vl vby mem,cj most,vl vu glb,cj fuel,vl vu inp,vl vu log]:=rfl;simp only [e1] at cft;rw [e1];obtain ⟨out,⟨mem',most',glb',fuel',inp',log'⟩,e⟩:=r;have e2:qe ⟨mem',most',glb',fuel',inp',log'⟩ = .agg [vl vby mem',cj most',vl vu glb',cj fuel',vl vu inp',vl vu log']:=rfl;simp only [e2];have e3:JF P = .agg [vl jn P.env.sigs,cj P.env.imports,vl cj P.env.globals,vl V.bool P.env.muts, .bool P.env.mem,vl jM P.fns]:=rfl;rw [e3];refine qB (c:=jc Tryz.f55) Tryz.func55 rfl (by conv=>lhs; reduce) (by simp [Tryz.ntmps55]) ?_;rw [Tryz.ntmps55];intro hwf;refine QY ?_;refine QH 4 0 ?_;refine QH 5 1 ?_;refine QK [2] ?_;have cft':=cft (St S [] [some (6,[.nils, .int .i64 0, .nils, .int .i64 0, .nils, .nils])]);have cft2:=cft (St S [] [some (6,[.nils, .int .i64 0, .nils, .int .i64 0, .nils, .nils]),some (14,[.nils, .int .i64 0, .nils, .nils, .bool false, .nils, .nils, .int .i64 0, .nils, .int .i64 0, .nils, .nils, .int .i64 0, .int .i64 0])])
 rw [jR,qH,qH, <-JI] at cft' cft2;simp only [bl,bm,aC,aM,a8,Nat.add_zero] at cft' cft2;refine QT ?_;refine JP (St S [] []) (St S [] []) [10015] 2 2 4 [2,3,4,5] [4,2,3,5] rfl (by kernel_rfl) (by conv=>lhs; reduce) (by kernel_rfl) (by decide) (by kernel_rfl) (by kernel_rfl) (by kernel_rfl) (by kernel_rfl) (by kernel_rfl) (by kernel_rfl) (by kernel_rfl) rfl rfl (by kernel_rfl) (Ky (by simp [subU,shpU,subL,shpL])) (by conv=>lhs; reduce) (by conv=>lhs; reduce) (by conv=>lhs; reduce) ?_;refine QW ?_;refine ⟨?sm, ?Sm, ?H3, ?H1, ?H2⟩
 case H1 =>
  refine Wk rfl (cft') (by rfl) (Wc (zu _ _ (by simp [subU])) (by simp [subL])) (Ky (by simp [subU,shpU,subL,shpL])) ?_;refine QZ ?_;refine QI ?_;refine QZ ?_;refine QI ?_;refine QW ?_;refine zI [2,3,8,9,10,11] (Eq.trans (b := ?_) ?_ rfl)
  rotate_left
  conv=>lhs; simp [Fr.oy,Fr.lk]
 case H2 =>
  refine QI ?_;refine QZ ?_;refine Wk rfl (cft2) (by rfl) (Wc (zu _ _ (by simp [subU])) (by simp [subL])) (Ky (by simp [subU,shpU,subL,shpL])) ?_;refine QZ ?_;refine QI ?_;refine QW ?_;exact Jj [2,3,8,9,10,11] [0,2,3,1] (by conv=>lhs; simp [Fr.oy,Fr.lk]) hwf (by decide) (by simp [jm,jp]) (by conv=>lhs; simp [jm,jp]) (by conv=>lhs; simp [jm,jp]) (by conv=>lhs; simp [jm,jp])
 have hat:RunAt (St S [] [some (6,[.nils, .int .i64 0, .nils, .int .i64 0, .nils, .nils]),some (1,glb.map vu),some (1,log.map vu),some (14,runC P ⟨mem,most,glb,fuel,inp,log⟩ (lid S.nx 1) (lid S.nx 2) 0 0)]) P ⟨mem,most,glb,fuel,inp,log⟩ (lid S.nx 3) (lid S.nx 1) (lid S.nx 2) 0 0 :=
  ⟨by simp [jB],by simp [jB],by simp [jB],by simp [lid],by simp [lid],by simp [lid]⟩
 have hc:=ZR hat (ahk out) (hcall n args _ _ _ _ _ _ hs ha hal hn0 hn1 hat hf);rw [anb] at hc;refine QP ?_;refine jK rfl hc ?_;rintro X T ⟨rfl,rfl⟩;simp only [runC];refine QW ?_
 by_cases he:e=0
 .subst he;simp only [if_true]
  refine bz ?_
  refine bZ (St S [] [none,none,none,some (14,[vl jn P.env.sigs,cj P.env.imports,vl cj P.env.globals,vl V.bool P.env.muts, .bool P.env.mem,vl jM P.fns,vl vby mem',cj most', .slice (lid S.nx 1) 0 glb'.length,cj fuel',vl vu inp', .slice (lid S.nx 4) 0 log'.length,cj 0,cj 0])]) (St S [] [some (6,[.nils, .int .i64 0, .nils, .int .i64 0, .nils, .nils]),none,none,some (14,[vl jn P.env.sigs,cj P.env.imports,vl cj P.env.globals,vl V.bool P.env.muts, .bool P.env.mem,vl jM P.fns,vl vby mem',cj most', .slice (lid S.nx 1) 0 glb'.length,cj fuel',vl vu inp', .slice (lid S.nx 4) 0 log'.length,cj 0,cj 0])]) [] ?_ (r:=by conv=>lhs; simp [QV]);refine QI ?_;refine bV ?_
  refine Ye (xs:=[vl vu out, .agg [vl vby mem',cj most', .slice (lid S.nx 1) 0 glb'.length,cj fuel',vl vu inp', .slice (lid S.nx 4) 0 log'.length],cj 0]) (by simp) ?_;show Jb _ _ (.tuple _) _;refine zJ (Ghost.tp [_] [_] (Jt (GhostArgs.one [_,_] _ (frz1 (k:=1) (by simp) (by rfl) (jo vu (fun _=>rfl) glb') (by simp))))) ?_;refine zJ (Ghost.tp [_] [_] (Jt (GhostArgs.one [_,_,_,_,_] _ (frz1 (k:=4) (by simp) (by rfl) (jo vu (fun _=>rfl) log') (by simp))))) ?_;exact jf hwf (GhostB.refl _ _ _) rfl
 .simp only [if_neg he]
  refine bD he ?_
  refine bZ (St S [] [none,none,none,some (14,[vl jn P.env.sigs,cj P.env.imports,vl cj P.env.globals,vl V.bool P.env.muts, .bool P.env.mem,vl jM P.fns,vl vby mem',cj most', .slice (lid S.nx 1) 0 glb'.length,cj fuel',vl vu inp', .slice (lid S.nx 4) 0 log'.length,cj 0,cj e])]) (St S [] [some (6,[.nils, .int .i64 0, .nils, .int .i64 0, .nils, .nils]),none,none,some (14,[vl jn P.env.sigs,cj P.env.imports,vl cj P.env.globals,vl V.bool P.env.muts, .bool P.env.mem,vl jM P.fns,vl vby mem',cj most', .slice (lid S.nx 1) 0 glb'.length,cj fuel',vl vu inp', .slice (lid S.nx 4) 0 log'.length,cj 0,cj e])]) [] ?_ (r:=by conv=>lhs; simp [QV]);refine QI ?_;refine bV ?_
  refine Ye (xs:=[.nils, .agg [vl vby mem',cj most', .slice (lid S.nx 1) 0 glb'.length,cj fuel',vl vu inp', .slice (lid S.nx 4) 0 log'.length],cj e]) (by simp) ?_;show Jb _ _ (.tuple _) _;refine zJ (Ghost.tp [_] [_] (Jt (GhostArgs.one [_,_] _ (frz1 (k:=1) (by simp) (by rfl) (jo vu (fun _=>rfl) glb') (by simp))))) ?_;refine zJ (Ghost.tp [_] [_] (Jt (GhostArgs.one [_,_,_,_,_] _ (frz1 (k:=4) (by simp) (by rfl) (jo vu (fun _=>rfl) log') (by simp))))) ?_;exact jf hwf ((Ghost.tp [] [_,_] (Ghost.nl _)).toB _) rfl
theorem jbt {e:Ss.Env} {f:Ss.Fn} {ds:List Ss.Def} {near:List Int} {i:Int} {k:Nat} {l:List Ss.Ins} (h:k<l.length):Ss.rcheckCode e f ds near i k (l.drop k)=(Ss.rinsOk e f ds near i k l[k]&&Ss.rcheckCode e f ds near i (k+1) (l.drop (k+1))):=by
 rw [am h,Ss.rcheckCode]
theorem ZF {e:Ss.Env} {f:Ss.Fn} {ds:List Ss.Def} {near:List Int} {i:Nat} {l:List Ss.Block} (h:i<l.length):Ss.rcheckBlocks e f ds near i (l.drop i)=(Ss.rcheckBlock e f ds near i l[i]&&Ss.rcheckBlocks e f ds near (i+1) (l.drop (i+1))):=by
 rw [am h,Ss.rcheckBlocks]
theorem aqp (e:Ss.Env) (f:Ss.Fn) (he:e.Fits) (hf:f.Fits):b8 13 [qQ e,jM f] (.bool (Ss.rcheck e f)):=by
 intro S;have cer:=WA e he;have csm:=agx f hf;have hsb := @qn f;have csu:=fun h=>avs f hf h
 have cdf:=axm f hf;have cci:=ama f hf;have ckt:b8 42 [vl cj f.types, .int .i64 2048] (.bool (Ss.kinds 2048 f.types)):=ZN 2048 f.types (by have:=hf.2.1.1; omega);have csr:=ao0 f.sig hf.1;have hH:Ss.checkHead e f=(e.right&&f.small&&decide (f.blocks.length<=256)&&Ss.kinds 2048 f.types&&f.sig.right&&f.blocks.all fun b=>decide (b.params.length<=256)):=rfl;have hX:Ss.rcheck e f=(Ss.checkHead e f&&decide (1<=f.blocks.length)&&match Ss.defsOf f with
  | none=>false
  | some ds=>G.right (Ss.succs f.blocks)&&((G.without (G.nats (Ss.succs f.blocks)) none).all id&&(Ss.rshape f&&Ss.rcheckBlocks e f ds (G.cD (Ss.succs f.blocks)) 0 f.blocks))):=rfl
 have hks:Ss.kinds 2048 f.types=true->f.types.length<=2048:=by
  intro h; simp only [Ss.kinds,af,aj] at h; exact h.1
 have her:e.right=true->e.muts.length=e.globals.length:=by
  intro h; simp only [Ss.Env.right,af,aj] at h; exact h.1.1.2
 rw [hX,hH];clear hX hH;generalize e.right=er at *
 generalize hsm:f.small=sm at *
 generalize Ss.kinds 2048 f.types=kt at *
 generalize f.sig.right=sr at *
 have hsl:=he.1.1;have hgl:=he.2.2.1.1;obtain ⟨sg,im,gl,mu,me⟩:=e;obtain ⟨⟨fi,fo⟩,ts,bs⟩:=f;simp only at *
 have cer':b8 41 [.agg [vl jn sg, .int .i64 im,vl cj gl,vl V.bool mu, .bool me]] (.bool er):=cer;have csm':b8 35 [.agg [vl cj fi,vl cj fo,vl cj ts,vl je bs]] (.bool sm):=csm;have csr':b8 43 [.agg [vl cj fi,vl cj fo]] (.bool sr):=csr;generalize hZ:(match Ss.defsOf ⟨⟨fi,fo⟩,ts,bs⟩ with
  | none=>false
  | some ds=>G.right (Ss.succs bs)&&((G.without (G.nats (Ss.succs bs)) none).all id&&(Ss.rshape ⟨⟨fi,fo⟩,ts,bs⟩&&Ss.rcheckBlocks ⟨sg,im,gl,mu,me⟩ ⟨⟨fi,fo⟩,ts,bs⟩ ds (G.cD (Ss.succs bs)) 0 bs)))=Z
 generalize hP:(fun b:Ss.Block=>decide (b.params.length<=256))=P;refine b7 Tryz.func13 Tryz.ntmps13 fun hwf=>?_
 refine bz ?_
 refine QP ?_;refine QL (cer') ?_
 by_cases h1:er=true
 case neg =>
  have h1':er=false:=by simpa using h1
  refine bJ h1' ?_;refine bW ?_
  exact ja hwf (by simp [h1']) rfl
 refine bJ h1 ?_;refine QL (csm') ?_
 by_cases h2:sm=true
 case neg =>
  have h2':sm=false:=by simpa using h2
  refine bJ h2' ?_;refine bW ?_
  exact ja hwf (by simp [h2']) rfl
 by_cases h3:(bs.length:Int)<1
 .refine bK h2 h3 ?_;refine bW ?_
  exact ja hwf (by rw [bw (show ¬ 1<=bs.length by omega)]; simp) rfl
 by_cases h3b:(256:Int)<(bs.length:Int)
 .refine bM h2 h3 h3b ?_;refine bW ?_
  exact ja hwf (by rw [show decide (bs.length<=256)=false by simp; omega]; simp) rfl
 have h3':bs.length<=256:=by omega
 have h3n:1<=bs.length:=by omega
 refine bM h2 h3 h3b ?_;refine QL (ckt) ?_
 by_cases h4:kt=true
 case neg =>
  have h4':kt=false:=by simpa using h4
  refine bJ h4' ?_;refine bW ?_
  exact ja hwf (by simp [h4']) rfl
 refine bJ h4 ?_;refine QL (csr') ?_
 by_cases h5:sr=true
 case neg =>
  have h5':sr=false:=by simpa using h5
  refine bJ h5' ?_;refine bW ?_
  exact ja hwf (by simp [h5']) rfl
 rw [h1,h2,h4,h5,bv h3',bv h3n];simp only [aE,Bool.and_true];have htl:=hks h4;obtain ⟨_,_,hsf,_⟩:=hsb h2;refine bJ h5 ?_;refine bW ?_
 refine bX [2,3,5] (fun c σ S' => ∃ (k:Nat),k<=bs.length/\c=bs.length-k/\(bs.drop k).all P=bs.all P/\σ=[(2, .ptr (lid S.nx 0) 0),(3, .ptr (lid S.nx 1) 0),(5,cu k)]/\S'=St S [] [some (5,[vl jn sg,cj im,vl cj gl,vl V.bool mu, .bool me]),some (4,[vl cj fi,vl cj fo,vl cj ts,vl je bs])]) bs.length ?_ ?_
 .exact ⟨0,by omega,rfl,rfl,by simp [Fr.oy],rfl⟩
 .rintro c σ T ⟨k,hk,rfl,hd,rfl,rfl⟩
  by_cases hkt:k<bs.length
  .have hw:=jg hkt (by omega);have hst:=Ss.aas P hkt;obtain ⟨⟨ps,code,⟨tk,ta,to,az⟩⟩,hx⟩ : ∃ b,bs[k]=b:=⟨_,rfl⟩
   have hPx:P ⟨ps,code,⟨tk,ta,to,az⟩⟩=decide (ps.length<=256):=by rw [<-hP]
   rw [hx,hPx] at hst
   by_cases h6:(256:Int)<(ps.length:Int)
   .rw [bw (by omega),aV,hd] at hst;rw [hst]
    refine bG hkt hx h6 ?_
    exact ja hwf (by simp) rfl
   .rw [bv (by omega),aE,hd] at hst
    refine bH hkt hx h6 hw ?_
    show jx _ _ _ _ _ _ _;exact again ⟨by omega,k+1,by omega,rfl,hst.symm,by simp [Fr.oy],rfl⟩
  rw [Ss.aai _ hkt] at hd;rw [<-hd,aE];have hke:k=bs.length:=by omega
  subst hke;have csu':b8 20 [.agg [vl cj fi,vl cj fo,vl cj ts,vl je bs]] (vl (vl cj) (Ss.succs bs)):=csu h2;have cdf':b8 44 [.agg [vl cj fi,vl cj fo,vl cj ts,vl je bs]] (rdefsV (Ss.defsOf ⟨⟨fi,fo⟩,ts,bs⟩)):=cdf (by omega)
  cases hdf:Ss.defsOf ⟨⟨fi,fo⟩,ts,bs⟩ with
  | none =>
   rw [hdf] at hZ cdf';simp only at hZ;subst hZ;obtain ⟨z,hz⟩ : ∃ z,z=false:=⟨_,rfl⟩
   have cdf2:b8 44 [.agg [vl cj fi,vl cj fo,vl cj ts,vl je bs]] (.tuple [.list [], .bool z]):=by rw [hz]; exact cdf'
   refine bD hkt ?_
   refine QP ?_;refine QL (csu') ?_;refine QW ?_;refine QP ?_;refine QL (cdf2) ?_;refine bJ hz ?_;refine QN ?_
   refine bD hz ?_
   exact bS
  | some ds =>
   rw [hdf] at hZ cdf';simp only at hZ;obtain ⟨hdl,hdin⟩:=Ss.defs_in hdf;have hnn:=Ss.avn hdf;simp only at hdl hdin;obtain ⟨z,hz⟩ : ∃ z,z=true:=⟨_,rfl⟩
   have cdf2:b8 44 [.agg [vl cj fi,vl cj fo,vl cj ts,vl je bs]] (.tuple [vl qb ds, .bool z]):=by rw [hz]; exact cdf'
   have hgl63:(Ss.succs bs).length<2^63:=by simp [Ss.succs]; omega
   have hgr63 : ∀ r∈Ss.succs bs,r.length<2^62:=by
    intro r hr;obtain ⟨b,hb,rfl⟩:=bi.1 hr;have:=(hsf b hb).2.1;simp [Ss.rowOf]; omega
   have crt:=agl (Ss.succs bs) hgl63 (fun r hr=>by have:=hgr63 r hr; omega);have cwo:=alx (Ss.succs bs);have cne:=arl (Ss.succs bs) hgl63 (fun r hr=>by have:=hgr63 r hr; omega)
   refine bD hkt ?_
   refine QP ?_;refine QL (csu') ?_;refine QW ?_;refine QP ?_;refine QL (cdf2) ?_;refine QW ?_;refine bN hz ?_;refine QL (crt) ?_
   by_cases h6:G.right (Ss.succs bs)=true
   case neg =>
    have h6':G.right (Ss.succs bs)=false:=by simpa using h6
    rw [h6',aV] at hZ;subst hZ;refine bJ h6' ?_;refine bW ?_
    exact bS
   have cwo':=cwo h6;have cne':=cne h6;rw [h6,aE] at hZ;generalize hrd:G.without (G.nats (Ss.succs bs)) none=reached at *
   refine bJ h6 ?_;refine bW ?_
   refine QP ?_;refine jb rfl cwo' ?_;refine bV ?_
   have hrl:reached.length<2^63:=by
    have:=G.aaz (G.aag h6) none;rw [hrd] at this;rw [this]; simpa [G.nats] using hgl63
   refine bX [2,3,6,7,9,10] (fun c σ S' => ∃ (k:Nat),k<=reached.length/\c=reached.length-k/\(reached.drop k).all id=reached.all id/\σ=[(2, .ptr (lid S.nx 0) 0),(3, .ptr (lid S.nx 1) 0),(6,vl (vl cj) (Ss.succs bs)),(7,vl qb ds),(9,vl V.bool reached),(10,cu k)]/\S'=St S [] [some (5,[vl jn sg,cj im,vl cj gl,vl V.bool mu, .bool me]),some (4,[vl cj fi,vl cj fo,vl cj ts,vl je bs])]) reached.length ?_ ?_
   .exact ⟨0,by omega,rfl,rfl,by simp [Fr.oy],rfl⟩
   .rintro c σ T ⟨k,hk,rfl,hd,rfl,rfl⟩
    by_cases hkt:k<reached.length
    .have hw:=jg hkt (by omega);have hst:=Ss.aas id hkt;obtain ⟨y,hy⟩ : ∃ y,reached[k]=y:=⟨_,rfl⟩
     rw [hy] at hst
     by_cases h7:y=true
     .rw [h7,id,aE,hd] at hst
      refine bH hkt hy h7 hw ?_
      show jx _ _ _ _ _ _ _;exact again ⟨by omega,k+1,by omega,rfl,hst.symm,by simp [Fr.oy],rfl⟩
     .have h7':y=false:=by simpa using h7
      rw [h7',id,aV,hd] at hst;rw [hst,aV] at hZ;subst hZ
      refine bG hkt hy h7' ?_
      exact bS
    rw [Ss.aai _ hkt] at hd;rw [<-hd,aE] at hZ;have hke:k=reached.length:=by omega
    subst hke;have hGok:=G.aag h6;have hGe:(Ss.succs bs).map (vl cj)=(G.nats (Ss.succs bs)).map (vl cu):=by
     have:=G.aan h6;simpa only [vl,V.list.injEq] using this
    have hcirc:=cci h2 _ hGe (fun r hr=>⟨by have:=hGok.row r hr; omega,hGok.elt r hr⟩);have cci':b8 49 [.agg [vl cj fi,vl cj fo,vl cj ts,vl je bs]] (.bool (Ss.circ (Ss.msk bs (G.nats (Ss.succs bs))))):=hcirc;have hto:=Ss.right_to (f:=⟨⟨fi,fo⟩,ts,bs⟩) h6;simp only at hto;have hnl:=G.adn (Ss.succs bs);have h0:0<bs.length:=by omega
    obtain ⟨⟨ps,code,⟨tk,ta,to,az⟩⟩,hx0⟩ : ∃ b,bs[0]=b:=⟨_,rfl⟩
    have hm0:=ah h0;rw [hx0] at hm0;have hb0:=hsf _ hm0;have hin0:=(hdin _ hm0).1;simp only at hb0 hin0;have hrs:Ss.rshape ⟨⟨fi,fo⟩,ts,bs⟩=(decide (Ss.cv ts ps=fi)&&(Ss.firstTick code && !Ss.circ (Ss.msk bs (G.nats (Ss.succs bs))))):=by
     have e:bs.getD 0 default=⟨ps,code,⟨tk,ta,to,az⟩⟩:=by simp [h0,hx0]
     simp only [Ss.rshape,e]
    rw [hrs] at hZ;generalize Ss.circ (Ss.msk bs (G.nats (Ss.succs bs)))=ci at *
    generalize hnr:G.cD (Ss.succs bs)=near at *
    have cty:=jcD ⟨sg,im,gl,mu,me⟩ ⟨⟨fi,fo⟩,ts,bs⟩ ds near ps (by omega) hin0;simp only at cty;have htl0:(Ss.cv ts ps).length<2^63:=by simp [Ss.cv]; omega
    generalize Ss.cv ts ps=tq at *
    have cin:=jdp tq fi htl0
    refine bD hkt ?_
    refine QP ?_;refine QL (cne') ?_;refine bV ?_
    refine QH 13 2 ?_;refine bY (r:=by conv=>lhs;simp[QV,h0,hx0]) (k:=?_);refine QL (cty) ?_;refine QZ ?_;refine QL (cin) ?_
    by_cases h8:tq=fi
    case neg =>
     rw [bw h8,aV,aV] at hZ;subst hZ;refine bJ h8 ?_;refine bW ?_
     exact bS
    rw [bv h8,aE] at hZ
    cases code with
    | nil =>
     have hft:Ss.firstTick []=false:=rfl;rw [hft,aV,aV] at hZ;subst hZ;refine bM h8 h0 hx0 ?_;refine bW ?_
     exact bS
    | cons x0 cr =>
    obtain ⟨xo,xn,xa,xu⟩:=x0;have hft:Ss.firstTick (⟨xo,xn,xa,xu⟩::cr)=decide (xo=258):=rfl;rw [hft] at hZ;have hcpos : ¬ (cr.length:Int)+1=0:=by omega
    by_cases h9:xo=258
    case neg =>
     rw [bw h9,aV,aV] at hZ;subst hZ;refine QM (by conv=>lhs;simp[QV,h8,h0,hx0,h9,hcpos]) ?_;refine bW ?_
     exact bS
    rw [bv h9,aE] at hZ;refine QM (by conv=>lhs;simp[QV,h8,h0,hx0,h9,hcpos]) ?_;refine QL (cci') ?_
    by_cases h10:ci=true
    .rw [h10,Bool.not_true,aV] at hZ;subst hZ;refine bJ h10 ?_;refine bW ?_
     exact bS
    have h10':ci=false:=by simpa using h10
    rw [h10',Bool.not_false,aE] at hZ;refine bJ h10' ?_;refine bW ?_
    refine QO [2,3,13,14] ?_;refine QK [0,1] ?_;clear cwo cne cne' cci' cdf2 cdf' csu' cdf cci cer' csm' csr' crt cty cin;have hbF:=hf.2.2.2;simp only at hbF;have cns : ∀ (i k:Nat) (b:Ss.Block) (x:Ss.Ins),bs[i]? = some b->b.code[k]? = some x->b8 50 [ckR ⟨sg,im,gl,mu,me⟩ ⟨⟨fi,fo⟩,ts,bs⟩ ds near,cu i,cu k] (.bool (Ss.rinsOk ⟨sg,im,gl,mu,me⟩ ⟨⟨fi,fo⟩,ts,bs⟩ ds near i k x)):=by
     intro i k b x hb hx;have hbm:=aA hb;have hxm:=aA hx;have hsmb:=((Ss.aao _).1 (hsm.trans h2)).2.1 b hbm;simp only [Ss.Block.small,af,aD,Ss.Ins.small,aj] at hsmb;have hxl:=(hsmb.1.2 x hxm).2;exact ax6 ⟨sg,im,gl,mu,me⟩ ⟨⟨fi,fo⟩,ts,bs⟩ ds near i k b x hsl hgl (her h1) hdl (by simp only; omega) (by omega) hnn hb hx ((hbF b hbm).2.1.2 x hxm) (by omega) ((hdin b hbm).2 x hxm)
    have ctm : ∀ (i:Nat) (b:Ss.Block),bs[i]? = some b->b8 51 [ckR ⟨sg,im,gl,mu,me⟩ ⟨⟨fi,fo⟩,ts,bs⟩ ds near,cu i] (.bool (Ss.rtermOk ⟨⟨fi,fo⟩,ts,bs⟩ ds near i b.code.length b.term)):=fun i b hb =>
     au1 ⟨sg,im,gl,mu,me⟩ ⟨⟨fi,fo⟩,ts,bs⟩ ds near i b hdl (by simp only; omega) (by omega) hnn hb (hbF b (aA hb))
    have ced : ∀ (i:Nat) (b:Ss.Block),bs[i]? = some b->b8 52 [ckR ⟨sg,im,gl,mu,me⟩ ⟨⟨fi,fo⟩,ts,bs⟩ ds near,cu i] (.bool (b.term.to.all (Ss.redgeOk ⟨⟨fi,fo⟩,ts,bs⟩ ds near i b.code.length))):=fun i b hb =>
     atu ⟨sg,im,gl,mu,me⟩ ⟨⟨fi,fo⟩,ts,bs⟩ ds near i b hdl (by simp only; omega) (by omega) hnn hb (hbF b (aA hb)) (by simp only; omega) (hto b (aA hb)) (fun b hb=>⟨by have:=(hsf b hb).1; omega,(hdin b hb).1⟩)
    clear h0 hx0 hm0 hb0 hin0 hrs hcirc;refine bX [2,3,13,14] (fun c σ S' => ∃ (k:Nat),k<=bs.length/\c=bs.length-k/\Ss.rcheckBlocks ⟨sg,im,gl,mu,me⟩ ⟨⟨fi,fo⟩,ts,bs⟩ ds near k (bs.drop k)=Z/\σ=[(2, .ptr (lid S.nx 0) 0),(3, .ptr (lid S.nx 1) 0),(13,ckR ⟨sg,im,gl,mu,me⟩ ⟨⟨fi,fo⟩,ts,bs⟩ ds near),(14,cu k)]/\S'=St S [] [some (5,[vl jn sg,cj im,vl cj gl,vl V.bool mu, .bool me]),some (4,[vl cj fi,vl cj fo,vl cj ts,vl je bs])]) bs.length ?_ ?_
    .exact ⟨0,by omega,rfl,hZ,by simp [Fr.oy],rfl⟩
    .rintro c σ T ⟨k,hk,rfl,hcb,rfl,rfl⟩
     by_cases hkt:k<bs.length
     case neg =>
      have e1:bs.drop k=[]:=by rw [aH]; omega
      rw [e1,Ss.rcheckBlocks] at hcb
      refine bD hkt ?_
      exact ja hwf (by simp [<-hcb]) rfl
     have hw:=jg hkt (by omega);have hst:=ZF (e:=⟨sg,im,gl,mu,me⟩) (f:=⟨⟨fi,fo⟩,ts,bs⟩) (ds:=ds) (near:=near) hkt;have hsome:bs[k]? = some bs[k]:=ac hkt;have hcl:=(hsf _ (ah hkt)).2.2.2;have cti:=ctm k _ hsome;have cei:=ced k _ hsome;have cii:=fun j x=>cns k j _ x hsome
     obtain ⟨⟨ps,code,⟨tk,ta,to,az⟩⟩,hx⟩ : ∃ b,bs[k]=b:=⟨_,rfl⟩
     rw [hx] at hst hcl cti cii cei;simp only at hst hcl cii cti cei;have hrb:Ss.rcheckBlock ⟨sg,im,gl,mu,me⟩ ⟨⟨fi,fo⟩,ts,bs⟩ ds near k ⟨ps,code,⟨tk,ta,to,az⟩⟩=(Ss.rcheckCode ⟨sg,im,gl,mu,me⟩ ⟨⟨fi,fo⟩,ts,bs⟩ ds near k 0 code&&(Ss.rtermOk ⟨⟨fi,fo⟩,ts,bs⟩ ds near k code.length ⟨tk,ta,to,az⟩&&to.all (Ss.redgeOk ⟨⟨fi,fo⟩,ts,bs⟩ ds near k code.length))):=rfl;rw [hst,hrb] at hcb;clear hst hrb;generalize Ss.rtermOk ⟨⟨fi,fo⟩,ts,bs⟩ ds near k code.length ⟨tk,ta,to,az⟩=tm at *
     generalize to.all (Ss.redgeOk ⟨⟨fi,fo⟩,ts,bs⟩ ds near k code.length)=ed at *
     refine bF hkt hx ?_
     refine bX [2,3,13,14,15] (fun c σ S' => ∃ (j:Nat),j<=code.length/\c=code.length-j/\Ss.rcheckCode ⟨sg,im,gl,mu,me⟩ ⟨⟨fi,fo⟩,ts,bs⟩ ds near k j (code.drop j)=Ss.rcheckCode ⟨sg,im,gl,mu,me⟩ ⟨⟨fi,fo⟩,ts,bs⟩ ds near k 0 code/\σ=[(2, .ptr (lid S.nx 0) 0),(3, .ptr (lid S.nx 1) 0),(13,ckR ⟨sg,im,gl,mu,me⟩ ⟨⟨fi,fo⟩,ts,bs⟩ ds near),(14,cu k),(15,cu j)]/\S'=St S [] [some (5,[vl jn sg,cj im,vl cj gl,vl V.bool mu, .bool me]),some (4,[vl cj fi,vl cj fo,vl cj ts,vl je bs])]) code.length ?_ ?_
     .exact ⟨0,by omega,rfl,rfl,by simp [Fr.oy],rfl⟩
     .rintro c σ T ⟨j,hj,rfl,hcc,rfl,rfl⟩
      by_cases hjt:j<code.length
      .have hwj:=jg hjt (by omega);have hsc:=jbt (e:=⟨sg,im,gl,mu,me⟩) (f:=⟨⟨fi,fo⟩,ts,bs⟩) (ds:=ds) (near:=near) (i:=k) hjt;have cij:=cii j _ (ac hjt);generalize Ss.rinsOk ⟨sg,im,gl,mu,me⟩ ⟨⟨fi,fo⟩,ts,bs⟩ ds near k j code[j]=io at *
       refine bG hkt hx hjt ?_
       refine QP ?_;refine QL (cij) ?_
       by_cases hio:io=true
       .refine bJ hio ?_;refine QN ?_
        refine bD hwj ?_
        show jx _ _ _ _ _ _ _;exact again ⟨by omega,j+1,by omega,rfl,by rw [<-hcc,hsc,hio,aE],by simp [Fr.oy,hwj],by simp⟩
       .have hio':io=false:=by simpa using hio
        refine bJ hio' ?_;refine bW ?_
        exact ja hwf (by rw [<-hcb, <-hcc,hsc,hio']; simp) rfl
      .have e1:code.drop j=[]:=by rw [aH]; omega
       rw [e1,Ss.rcheckCode] at hcc;rw [<-hcc,aE] at hcb
       refine bG hkt hx hjt ?_
       refine QP ?_;refine QL (cti) ?_
       by_cases htm:tm=true
       .refine bJ htm ?_;refine QL (cei) ?_
        by_cases hed:ed=true
        .refine bJ hed ?_;refine QN ?_
         refine bD hw ?_
         show jx _ _ _ _ _ _ _;exact again ⟨by omega,k+1,by omega,rfl,by rw [<-hcb,htm,hed,aE,aE],by simp [Fr.oy,hw],by simp⟩
        .have hed':ed=false:=by simpa using hed
         refine bJ hed' ?_;refine bW ?_
         exact ja hwf (by rw [<-hcb,htm,hed']; simp) rfl
       .have htm':tm=false:=by simpa using htm
        refine bJ htm' ?_;refine bW ?_
        exact ja hwf (by rw [<-hcb,htm']; simp) rfl
end Go.Vw
namespace Ev
def rightFrom (e:Ss.Env):Nat->List Ss.Fn->Bool
 | _,[]=>true
 | i,f::r=>(Ss.check e f&&decide (f.sig=e.sigs.getD (e.imports+i).toNat default))&&rightFrom e (i+1) r
def rightB (P:Prog):Bool:=P.env.right&&(decide ((P.fns.length:Int)=P.env.sigs.length-P.env.imports)&&rightFrom P.env 0 P.fns)
structure PFits (P:Prog):Prop where
 env:P.env.Fits
 len:P.fns.length<=140737488355328
 fns : ∀ f∈P.fns,f.Fits
theorem Zm {e:Ss.Env} : ∀ {l:List Ss.Fn} {i k:Nat} {f:Ss.Fn},rightFrom e i l=true->l[k]? = some f->Ss.check e f=true/\f.sig=e.sigs.getD (e.imports+(i+k:Nat)).toNat default
 | [],i,k,f,_,h=>by simp at h
 | x::r,i,0,f,h,hf=>by
  simp only [rightFrom,af,aj] at h;simp only [aK,ay] at hf;subst hf;exact h.1
 | x::r,i,k+1,f,h,hf=>by
  simp only [rightFrom,af] at h;have:=Zm h.2 (by simpa using hf);rw [show i+1+k=i+(k+1) by omega] at this;exact this
theorem asz {P:Prog} (hf:PFits P) (h:rightB P=true):RightP P:=by
 simp only [rightB,af,aj] at h;obtain ⟨h1,h2,h3⟩:=h;refine ⟨h1,h2,fun i f hi => ?_⟩;obtain ⟨k1,k2⟩:=Zm h3 hi;have hil:=(ae.1 hi).1;simp only [Ss.Env.right,af,aj] at h1;have h0:=h1.1.1.1.1.1;have hk:(P.env.imports+i).toNat<P.env.sigs.length:=by omega
 refine ⟨hf.fns f (aA hi),k1, ?_⟩;rw [a8] at k2;rw [k2,ag,ac hk]; rfl
theorem Zl {e:Ss.Env} : ∀ {l:List Ss.Fn} {i:Nat},(∀ (k:Nat) f,l[k]? = some f->Ss.check e f=true/\e.sigs[(e.imports+(i+k:Nat)).toNat]? = some f.sig)->rightFrom e i l=true
 | [],i,_=>rfl
 | x::r,i,h=>by
  obtain ⟨h1,h2⟩:=h 0 x rfl;rw [Nat.add_zero] at h2;rw [rightFrom,h1,Zl (l:=r) fun k f hf=>by
   have:=h (k+1) f hf;rw [show i+(k+1)=i+1+k by omega] at this;exact this]
  rw [ag,h2]; simp
theorem ara {P:Prog} (h:RightP P):rightB P=true:=by
 simp only [rightB,af,aj];refine ⟨h.env,h.len,Zl fun k f hf => ?_⟩;obtain ⟨_,h2,h3⟩:=h.fns k f hf;rw [a8];exact ⟨h2,h3⟩
end Ev
namespace Go.Vw
open Go.Proofs Go.RowKit
attribute [-simp] List.map_set
theorem agf (P:Ev.Prog) (hP:Ev.PFits P):b8 14 [JF P] (.bool (Ev.rightB P)):=by
 intro S;obtain ⟨he,hfl,hff⟩:=hP;have ce:=WA P.env he;have hsl:=he.1.1;have hsF:=he.1.2;have hck : ∀ f∈P.fns,b8 13 [qQ P.env,jM f] (.bool (Ss.check P.env f)):=fun f hf=>by
  have:=aqp P.env f he (hff f hf)
  rwa [Ss.afl (hff f hf)] at this
 have hri:P.env.right=true->0<=P.env.imports/\P.env.imports<=P.env.sigs.length:=fun h=>by
  simp only [Ss.Env.right,af,aj] at h;exact ⟨h.1.1.1.1.1,h.1.1.1.1.2⟩
 have hrb:Ev.rightB P=(P.env.right&&(decide ((P.fns.length:Int)=P.env.sigs.length-P.env.imports)&&Ev.rightFrom P.env 0 P.fns)):=rfl;rw [hrb];clear hrb;have him:=he.2.1;generalize hea:P.env.right=ea at *
 clear he;obtain ⟨⟨sg,im,gl,mu,me⟩,fns⟩:=P;simp only at hfl hff hsl hsF hck hri him ce ⊢;have ce:b8 41 [.agg [vl jn sg,cj im,vl cj gl,vl V.bool mu, .bool me]] (.bool ea):=ce;have hck : ∀ f∈fns,b8 13 [.agg [vl jn sg,cj im,vl cj gl,vl V.bool mu, .bool me],jM f] (.bool (Ss.check ⟨sg,im,gl,mu,me⟩ f)):=hck
 have e1:JF ⟨⟨sg,im,gl,mu,me⟩,fns⟩ = .agg [vl jn sg,cj im,vl cj gl,vl V.bool mu, .bool me,vl jM fns]:=rfl;rw [e1];refine b7 Tryz.func14 Tryz.ntmps14 fun hwf=>?_
 refine QY ?_;refine QH 1 0 ?_;refine QP ?_;refine QL (ce) ?_
 by_cases ha:ea=true
 rotate_left
 .have ha:ea=false:=by simpa using ha
  refine bJ ha ?_;refine bW ?_
  exact ja hwf (by simp [ha]) rfl
 obtain ⟨hi0,hi1⟩:=hri ha;obtain ⟨m,rfl⟩ : ∃ m:Nat,im=(m:Int):=⟨im.toNat,by omega⟩
 have hw1:IntKind.i64.wrap ((sg.length:Int)-m)=(sg.length:Int)-m:=wrap_i64 (by omega) (by omega)
 by_cases hl:(fns.length:Int)=(sg.length:Int)-m
 rotate_left
 .refine bM ha hw1 hl ?_;refine bW ?_
  exact ja hwf (by simp [hl]) rfl
 refine bM ha hw1 hl ?_;refine bW ?_
 rw [ha,hl,bv rfl,aE,aE];obtain ⟨Z,hZ⟩ : ∃ Z,Ev.rightFrom ⟨sg,m,gl,mu,me⟩ 0 fns=Z:=⟨_,rfl⟩
 rw [hZ];refine bX [1,3] (fun c σ S' => ∃ (k:Nat),k<=fns.length/\c=fns.length-k/\Ev.rightFrom ⟨sg,m,gl,mu,me⟩ k (fns.drop k)=Z/\σ=[(1,(V.agg [vl jn sg,cj m,vl cj gl,vl V.bool mu, .bool me,vl jM fns]).ref),(3,cu k)]/\S'=St S [] [none]) fns.length ?_ ?_
 .exact ⟨0,Nat.zero_le _,rfl,hZ,by simp [Fr.oy,Fr.lk],by simp⟩
 .rintro c σ T ⟨k,hk,rfl,hd,rfl,rfl⟩
  by_cases hkt:k<fns.length
  .have hw:=jg hkt (by omega);have hms:m+k<sg.length:=by omega
   have hw2:IntKind.i64.wrap ((m:Int)+(k:Int))=(m:Int)+(k:Int):=wrap_i64 (by omega) (by omega);have ck:=hck _ (ah hkt);have hfF:=hff _ (ah hkt);rw [am hkt,Ev.rightFrom] at hd;have e2:((m:Int)+(k:Int)).toNat=m+k:=by omega
   simp only [e2] at hd;rw [ag,ac hms,aR] at hd;obtain ⟨⟨⟨fi,fo⟩,ts,bs⟩,hx⟩ : ∃ f,fns[k]=f:=⟨_,rfl⟩
   have htF:=hsF _ (ah hms);obtain ⟨⟨ti,to⟩,ht⟩ : ∃ t,sg[m+k]=t:=⟨_,rfl⟩
   rw [hx] at hd ck hfF;rw [ht] at hd htF;have cs:=aoz ⟨fi,fo⟩ ⟨ti,to⟩ (show fi.length<2^63 by have:fi.length<=140737488355328:=hfF.1.1.1; omega) (show fo.length<2^63 by have:fo.length<=140737488355328:=hfF.1.2.1; omega);have hidx : ∀ S',jF 2 S' (vl jn sg) (.int .i64 ((m:Int)+(k:Int)))=some (.ref (.agg [vl cj ti,vl cj to])):=fun S'=>zl (s:=2) (S:=S') (enc:=jn) (l:=sg) (k := .i64) (i:=m+k) (x:=⟨ti,to⟩) rfl (by rw [ac hms,ht])
   obtain ⟨b1,hb1⟩ : ∃ b,Ss.check ⟨sg,m,gl,mu,me⟩ ⟨⟨fi,fo⟩,ts,bs⟩=b:=⟨_,rfl⟩
   obtain ⟨b2,hb2⟩ : ∃ b,decide ((⟨fi,fo⟩:Ss.Sig)=⟨ti,to⟩)=b:=⟨_,rfl⟩
   rw [hb1] at hd ck;rw [hb2] at cs;simp only [hb2] at hd;have ck:b8 13 [.agg [vl jn sg,cj m,vl cj gl,vl V.bool mu, .bool me], .agg [vl cj fi,vl cj fo,vl cj ts,vl je bs]] (.bool b1):=ck;have cs:b8 36 [.agg [vl cj fi,vl cj fo], .agg [vl cj ti,vl cj to]] (.bool b2):=cs
   by_cases q1:b1=true
   .by_cases q2:b2=true
    .rw [q1,q2] at hd
     refine bD hkt ?_
     refine bY (r:=by conv=>lhs;simp[QV,hkt,hx]) (k:=?_);refine QL (ck) ?_;refine QM (by conv=>lhs;simp[QV,q1,hkt,hx,hw2,hidx]) ?_;refine QL (cs) ?_;refine bJ q2 ?_;refine QN ?_
     refine bD hw ?_
     show jx _ _ _ _ _ _ _;exact again ⟨ao hkt (aW k),k+1,hkt,rfl,by simpa using hd,by simp [Fr.oy,Fr.lk],rfl⟩
    .have q2:b2=false:=by simpa using q2
     rw [q1,q2] at hd
     refine bD hkt ?_
     refine bY (r:=by conv=>lhs;simp[QV,hkt,hx]) (k:=?_);refine QL (ck) ?_;refine QM (by conv=>lhs;simp[QV,q1,hkt,hx,hw2,hidx]) ?_;refine QL (cs) ?_;refine bJ q2 ?_;refine bW ?_
     exact ja hwf (by simp [<-hd]) rfl
   .have q1:b1=false:=by simpa using q1
    rw [q1] at hd
    refine bD hkt ?_
    refine bY (r:=by conv=>lhs;simp[QV,hkt,hx]) (k:=?_);refine QL (ck) ?_;refine bJ q1 ?_;refine bW ?_
    exact ja hwf (by simp [<-hd]) rfl
  .have hke:k=fns.length:=by omega
   subst hke;rw [List.drop_length,Ev.rightFrom] at hd
   refine bD hkt ?_
   exact ja hwf (by simp [<-hd]) rfl
end Go.Vw
namespace Ev
def runR (O:Ops) (P:Prog) (s:State) (n:Int) (args:List Int):Res :=
 if holds P.env.globals P.env.mem s=true then
  (if 0<=n/\n<P.env.sigs.length/\fitsL (P.env.sigs.getD n.toNat default).inn args=true then
   (match callF O P 4800000 0 n args s with
   | some r=>(if r.2.2=0 then r.1 else [],r.2.1,r.2.2)
   | none=>([],s,0))
  else ([],s,1))
 else ([],s,6)
theorem acw {e:Ss.Env} {s:State} (hs:StFits s) (h:holds e.globals e.mem s=true):Good e s/\s.mem.length<=4096/\s.input.length<=4096/\s.log.length<=4096:=by
 simp only [holds,af,Bool.not_eq_true',Bool.or_eq_false_iff,decide_eq_false_iff_not] at h;obtain ⟨⟨⟨⟨h1,h2⟩,h3⟩,h4⟩,⟨⟨⟨⟨⟨h5,h6⟩,h7⟩,h8⟩,h9⟩,h10⟩⟩:=h;simp only [Bool.not_eq_false',aj] at h5;exact ⟨⟨hs,⟨by omega,by omega⟩,h5⟩,by omega,by omega,by omega⟩
end Ev
namespace Go.Vw
open Go.Proofs Go.RowKit
attribute [-simp] List.map_set
theorem aps (O:Ev.Ops) (hO:OpsV O) (hOk:Ev.OpsOk O) (P:Ev.Prog) (hPF:Ev.PFits P) (hP:Ev.RightP P) (s:Ev.State) (hs:Ev.StFits s) (n:Int) (hn:Ss.I64 n) (args:List Int) (ha:Ev.words args):b8 15 [JF P,qe s,cj n,vl vu args] (.tuple [vl vu (Ev.runR O P s n args).1,qe (Ev.runR O P s n args).2.1,cj (Ev.runR O P s n args).2.2]):=by
 intro S;have c1:=agf P hPF;rw [Ev.ara hP] at c1;have c2:=avv P.env s hPF.env hs;have hen:=hP.env;rw [hen,aE] at c2;have c3:=fun (t:Ss.Sig)=>atx t.inn args
 have hgood := @Ev.acw P.env s hs;have hsr := @Ev.abn P.env hen;have hsl:P.env.sigs.length<=64/\P.env.globals.length<=140737488355328:=by
  simp only [Ss.Env.right,af,aj] at hen;exact ⟨hen.1.1.1.2,hPF.env.2.2.1.1⟩
 have hgl:P.env.globals.length<=32:=by
  simp only [Ss.Env.right,Ss.kinds,af,aj] at hen;exact hen.1.2.1
 have cgo:=fun r h1 h2 h3 h4 h5 h6 h7 h8=>aza O hO hOk P hP 4800000 s n args r h1 h2 h3 h4 h5 ha.2 h6 h7 h8
 have hends:=fun t h0 ht hl hg hlog=>Ev.ab3 hOk hP (n:=n) (args:=args) (s:=s) (t:=t) h0 ht hl ha.2 hg hlog
 obtain ⟨hb,hhb⟩ : ∃ b,Ev.holds P.env.globals P.env.mem s=b:=⟨_,rfl⟩
 rw [hhb] at c2 hgood;simp only [Ev.runR,hhb];have hal:=ha.1;clear hen ha hP hPF hs;obtain ⟨⟨sg,im,gl,mu,me⟩,fns⟩:=P;obtain ⟨mem,most,glb,fuel,inp,log⟩:=s;simp only at hsr hsl hgl hgood hends ⊢;have e1:JF ⟨⟨sg,im,gl,mu,me⟩,fns⟩ = .agg [vl jn sg,cj im,vl cj gl,vl V.bool mu, .bool me,vl jM fns]:=rfl;have e2:qe ⟨mem,most,glb,fuel,inp,log⟩ = .agg [vl vby mem,cj most,vl vu glb,cj fuel,vl vu inp,vl vu log]:=rfl;have e3:qQ ⟨sg,im,gl,mu,me⟩ = .agg [vl jn sg,cj im,vl cj gl,vl V.bool mu, .bool me]:=rfl;rw [e1] at c1 cgo ⊢;rw [e2] at c2 cgo ⊢;simp only [e3] at c2;refine qB (c:=jc Tryz.f15) Tryz.func15 rfl (by conv=>lhs; reduce) (by simp [Tryz.ntmps15]) ?_;rw [Tryz.ntmps15];intro hwf;refine QY ?_;refine QH 4 0 ?_;refine QH 5 1 ?_;refine QK [2] ?_;refine QP ?_
 refine QL (c1) ?_;refine QZ ?_;refine QL (c2) ?_
 by_cases hq:hb=true
 rotate_left
 .have hq:hb=false:=by simpa using hq
  simp only [hq,aF,if_false,e2];refine bJ hq ?_;refine bW ?_
  refine bZ (St S [] [none]) (St S [] [none]) [] ?_ (r:=by conv=>lhs; simp [QV]);refine QI ?_;refine bV ?_
  refine Ye (xs:=[.nils, .agg [vl vby mem,cj most,vl vu glb,cj fuel,vl vu inp,vl vu log],cj 6]) (by simp) ?_;exact jf hwf ((Ghost.tp [] [_,_] (Ghost.nl _)).toB _) rfl
 obtain ⟨hg,hm1,hi1,hl1⟩:=hgood hq;simp only [hq,if_true];refine bJ hq ?_;refine QN ?_;obtain ⟨n0,n1⟩:=hn
 by_cases h0:n<0
 .rw [if_neg (show ¬ (0<=n/\n<(sg.length:Int)/\Ev.fitsL (sg.getD n.toNat default).inn args=true) by omega)];simp only [e2]
  refine bD h0 ?_
  refine bZ (St S [] [none]) (St S [] [none]) [] ?_ (r:=by conv=>lhs; simp [QV]);refine QI ?_;refine bV ?_
  refine Ye (xs:=[.nils, .agg [vl vby mem,cj most,vl vu glb,cj fuel,vl vu inp,vl vu log],cj 1]) (by simp) ?_;exact jf hwf ((Ghost.tp [] [_,_] (Ghost.nl _)).toB _) rfl
 by_cases h1:n<(sg.length:Int)
 rotate_left
 .rw [if_neg (show ¬ (0<=n/\n<(sg.length:Int)/\Ev.fitsL (sg.getD n.toNat default).inn args=true) by omega)];simp only [e2];have h2:(sg.length:Int)<=n:=by omega
  refine bG h0 h1 h2 ?_
  refine bZ (St S [] [none]) (St S [] [none]) [] ?_ (r:=by conv=>lhs; simp [QV]);refine QI ?_;refine bV ?_
  refine Ye (xs:=[.nils, .agg [vl vby mem,cj most,vl vu glb,cj fuel,vl vu inp,vl vu log],cj 1]) (by simp) ?_;exact jf hwf ((Ghost.tp [] [_,_] (Ghost.nl _)).toB _) rfl
 obtain ⟨m,rfl⟩ : ∃ m:Nat,n=(m:Int):=⟨n.toNat,by omega⟩
 have hm:m<sg.length:=by omega
 have hm2 : ¬ sg.length<=m:=by omega
 have hmi : ¬ (m:Int)<0:=by omega
 have hmj : ¬ (sg.length:Int)<=(m:Int):=by omega
 obtain ⟨⟨ti,to⟩,ht⟩ : ∃ t,sg[m]=t:=⟨_,rfl⟩
 have hsg:sg[(m:Int).toNat]? = some ⟨ti,to⟩:=by rw [bq,ac hm,ht]
 have htl:=(hsr (i:=m) (t:=⟨ti,to⟩) (by rw [ac hm,ht])).1;have e4:(sg.getD (m:Int).toNat default).inn=ti:=by rw [ag,hsg]; rfl
 have c3:=c3 ⟨ti,to⟩ (by omega);simp only at c3 htl;rw [e4]
 by_cases hfi:Ev.fitsL ti args=true
 .rw [if_pos ⟨by omega,h1,hfi⟩];rw [hfi] at c3;have hle:=Ev.aat hfi;obtain ⟨r,hr,hE⟩:=hends ⟨ti,to⟩ (by omega) hsg hle.symm hg hl1;rw [hr];have cg:=cgo r ⟨hg.fit,hg.fuel.1⟩ (by simp only; omega) (by have:=hg.glob; simp only at this ⊢; omega) (by simp only; omega) (by simp only; omega) (by omega) (by omega) (by omega) hr;obtain ⟨out,⟨mem',most',glb',fuel',inp',log'⟩,e⟩:=r;have e5:qe ⟨mem',most',glb',fuel',inp',log'⟩ = .agg [vl vby mem',cj most',vl vu glb',cj fuel',vl vu inp',vl vu log']:=rfl;simp only [e5] at cg ⊢;generalize (if e=0 then out else [])=o2 at *
  refine QT ?_;refine jD rfl rfl rfl ?_;refine QT ?_;refine jz rfl ?_;refine QP ?_ (r:=by conv=>lhs;simp[QV,hm,hmi,hmj,ht,hm2]);refine QL (c3) ?_;refine bV ?_
  refine QP ?_;refine QL (cg) ?_;refine bV ?_
  refine Ye (xs:=[vl vu o2, .agg [vl vby mem',cj most',vl vu glb',cj fuel',vl vu inp',vl vu log'],cj e]) (by simp) ?_;exact jf hwf (GhostB.refl _ _ _) rfl
 .rw [if_neg (fun h=>hfi h.2.2)];have hfi:Ev.fitsL ti args=false:=by simpa using hfi
  rw [hfi] at c3;simp only [e2];refine QT ?_;refine jD rfl rfl rfl ?_;refine QT ?_;refine jz rfl ?_;refine QP ?_ (r:=by conv=>lhs;simp[QV,hm,hmi,hmj,ht,hm2]);refine QL (c3) ?_;refine bV ?_
  refine bZ (St S [] [none]) (St S [] [none]) [] ?_ (r:=by conv=>lhs; simp [QV]);refine QI ?_;refine bV ?_
  refine Ye (xs:=[.nils, .agg [vl vby mem,cj most,vl vu glb,cj fuel,vl vu inp,vl vu log],cj 1]) (by simp) ?_;exact jf hwf ((Ghost.tp [] [_,_] (Ghost.nl _)).toB _) rfl
end Go.Vw
