import Derived.Test.YtenhhokhkkfgbaaGreatC35
/- Part of the proof. -/
set_option linter.unusedVariables false
set_option linter.unusedSimpArgs false
set_option maxRecDepth 10000
set_option maxHeartbeats 8000000

namespace Ev
open Go.Vw
def Yg (call:Int->List Int->State->Option Res):Prop := ∀ n args s r,U64 n->(∀ y∈args,U64 y)->Ok s->call n args s=some r->Ok r.2.1 /\ ∀ y∈r.1,U64 y
theorem ok_mem {s:State} (h:Ok s) {m:List Int} (hm:byteL m):Ok { s with mem:=m }:=⟨⟨hm,h.fit.most,h.fit.globals,h.fit.fuel,h.fit.input,h.fit.log⟩,h.fuel⟩
theorem one_keep {O:Ops} (hO:OpsOk O) {call:Int->List Int->State->Option Res} (hc:Yg call) {x:Ss.Ins} {a:List Int} {s:State} {r:Res} (hx:U64 x.n) (ha : ∀ y∈a,U64 y) (hal:a.length<2^62) (hs:Ok s) (h:oneF O call x a s=some r):Ok r.2.1 /\ ∀ y∈r.1,U64 y:=by
 unfold oneF at h;split at h
 ·cases h; exact ⟨hs,zm hx⟩
 split at h
 ·split at h
  ·cases h; exact ⟨hs,by simp⟩
  ·rename_i hz
   cases h
   have h1:=hs.fuel;have h2:=hs.fit.fuel;exact ⟨⟨⟨hs.fit.mem,hs.fit.most,hs.fit.globals,⟨by simp only; omega,by simp only; omega⟩,hs.fit.input,hs.fit.log⟩,by simp only; omega⟩,zm u64_0⟩
 split at h
 ·split at h
  ·cases h
   refine ⟨hs,zm ?_⟩;split<;>exact ha _ (by simp)
  ·cases h
 split at h
 ·split at h
  ·rename_i g hg
   cases h
   exact ⟨hs,zm (hs.fit.globals.2 _ (aA hg))⟩
  ·cases h
 split at h
 ·split at h
  ·split at h
   ·cases h
    refine ⟨⟨⟨hs.fit.mem,hs.fit.most,⟨by simpa using hs.fit.globals.1,fun y hy => ?_⟩,hs.fit.fuel,hs.fit.input,hs.fit.log⟩,hs.fuel⟩,zm u64_0⟩;rcases List.mem_or_eq_of_mem_set hy with h1 | rfl
    ·exact hs.fit.globals.2 _ h1
    ·exact ha _ (by simp)
   ·cases h
  ·cases h
 split at h
 ·exact hc _ _ _ _ hx ha hs h
 split at h
 ·split at h
  ·cases h; exact ⟨hs,zm u64_0⟩
  ·cases h
 split at h
 ·split at h
  ·split at h
   ·rename_i p q
    cases h
    refine ⟨?_,zm u64_0⟩;simp only;split
    ·exact ok_mem hs (hO.store _ _ _ _ _ hs.fit.mem (ha p (by simp)) hx (ha q (by simp))).1
    ·exact hs
   ·cases h
  ·split at h
   ·rename_i p
    cases h
    exact ⟨hs,zm (hO.load _ _ _ _ hs.fit.mem (ha p (by simp)) hx).1⟩
   ·cases h
 ·split at h
  ·cases h
   refine ⟨hs,zm ⟨?_, ?_⟩⟩
   ·exact Int.tdiv_nonneg (by omega) (by omega)
   ·have:=hs.fit.mem.1;rw [Int.tdiv_eq_ediv_of_nonneg (by omega)];omega
  split at h
  ·split at h
   ·rename_i p
    cases h
    obtain ⟨g1,g2,g3,g4⟩:=hO.grow s.mem s.most p hs.fit.mem hs.fit.most.1 hs.fit.most.2 (ha p (by simp));exact ⟨ok_mem hs g1,zm ⟨g3,by omega⟩⟩
   ·cases h
  ·cases h
   exact ⟨hs,zm (hO.eval _ _ ha hal)⟩
theorem code_keep {O:Ops} (hO:OpsOk O) {call:Int->List Int->State->Option Res} (hc:Yg call) : ∀ (l:List Ss.Ins) (v:List Int) (s:State) (r:List Int × State × Int),(∀ x∈l,x.Fits)->(∀ y∈v,U64 y)->Ok s->codeF O call l v s=some r->Ok r.2.1/\(∀ y∈r.1,U64 y)/\(r.2.2=0->r.1.length=v.length)
 | [],v,s,r,_,hv,hs,h=>by cases h; exact ⟨hs,hv,fun _=>rfl⟩
 | x::l,v,s,r,hx,hv,hs,h=>by
  rw [codeF] at h;split at h
  ·cases h1:oneF O call x (valsI v x.args) s with
   | none=>rw [h1] at h; cases h
   | some q =>
    rw [h1] at h;obtain ⟨out,s',er⟩:=q;simp only at h;have hxf:=hx x (by simp);have hal:=hxf.2.2.1.1;obtain ⟨k1,k2⟩:=one_keep hO hc hxf.2.1 (vals_u64 hv _) (by rw [vals_len]; omega) hs h1;split at h
    ·rename_i h0
     cases h
     exact ⟨k1,by simp,fun hz=>absurd hz h0⟩
    ·split at h
     ·obtain ⟨g1,g2,g3⟩:=code_keep hO hc l _ s' r (fun y hy=>hx y (by simp [hy])) (setAll_u64 _ _ _ hv k2) k1 h;exact ⟨g1,g2,fun hz=>by rw [g3 hz,KK]⟩
     ·cases h
  ·cases h
theorem host_keep {s:State} {n:Int} {outs args:List Int} {r:Res} (hn:U64 n) (ha : ∀ y∈args,U64 y) (hs:Ok s) (h:hostF s n outs args=some r):Ok r.2.1 /\ ∀ y∈r.1,U64 y:=by
 simp only [hostF] at h;split at h
 ·cases h
  obtain ⟨h1,h2,h3,h4⟩:=ZG outs s.input hs.fit.input.2;have hin:=hs.fit.input.1;refine ⟨⟨⟨hs.fit.mem,hs.fit.most,hs.fit.globals,hs.fit.fuel,⟨by simp only; omega,h4⟩,⟨?_,fun x hx => ?_⟩⟩,hs.fuel⟩,h2⟩
  ·simp; omega
  ·rcases aG.1 hx with hx | hx
   ·exact hs.fit.log.2 x hx
   ·rcases aL.1 hx with rfl | hx
    ·exact hn
    ·exact ha x hx
 ·cases h
theorem call_keep {P:Prog} {go:Nat->Ss.Fn->List Int->Nat->List Int->State->Option Res} {d:Nat} (h : ∀ f∈P.fns, ∀ v args s r,(∀ y∈v,U64 y)->(∀ y∈args,U64 y)->Ok s->go (d+1) f v 0 args s=some r->Ok r.2.1 /\ ∀ y∈r.1,U64 y):Yg (callG P go d):=by
 intro n args s r hn ha hs hr;unfold callG at hr;split at hr
 ·split at hr
  ·exact host_keep hn ha hs hr
  ·cases hr
 ·split at hr
  ·cases hr; exact ⟨hs,by simp⟩
  ·split at hr
   ·rename_i f hf;exact h f (aA hf) _ args s r (fun y hy=>by rw [List.eq_of_mem_replicate hy]; exact u64_0) ha hs hr
   ·cases hr
theorem blocks_keep {O:Ops} (hO:OpsOk O) {P:Prog} (hP : ∀ f∈P.fns,f.Fits) : ∀ (N d:Nat) (f:Ss.Fn) (v:List Int) (at_:Nat) (args:List Int) (s:State) (r:Res),f∈P.fns->(∀ y∈v,U64 y)->(∀ y∈args,U64 y)->Ok s->blocksF O P N d f v at_ args s=some r->Ok r.2.1 /\ ∀ y∈r.1,U64 y
 | 0,d,f,v,at_,args,s,r,_,_,_,_,h=>by cases h
 | N+1,d,f,v,at_,args,s,r,hf,hv,ha,hs,h=>by
  have hcall:Yg (callG P (blocksF O P N) d):=call_keep fun g hg v args s r hv ha hs hr=>blocks_keep hO hP N (d+1) g v 0 args s r hg hv ha hs hr
  rw [blocksF] at h;split at h
  ·cases h
  ·rename_i b hb;split at h
   ·split at h
    ·cases h
    ·rename_i v2 s2 er hcd;obtain ⟨k1,k2,k3⟩:=code_keep hO hcall b.code _ s _ ((hP f hf).2.2.2 b (aA hb)).2.1.2 (setAll_u64 _ _ _ hv ha) hs hcd;simp only at k1 k2;split at h
     ·cases h; exact ⟨k1,by simp⟩
     split at h
     ·split at h
      ·cases h; exact ⟨k1,vals_u64 k2 _⟩
      ·cases h
     split at h
     ·cases h; exact ⟨k1,by simp⟩
     split at h
     ·cases h
     ·split at h
      ·cases h
      ·split at h
       ·exact blocks_keep hO hP N d f v2 _ _ s2 r hf k2 (vals_u64 k2 _) k1 h
       ·cases h
   ·cases h
theorem callF_keep {O:Ops} (hO:OpsOk O) {P:Prog} (hP : ∀ f∈P.fns,f.Fits) (N d:Nat):Yg (callG P (blocksF O P N) d) :=
 call_keep fun g hg v args s r hv ha hs hr=>blocks_keep hO hP N (d+1) g v 0 args s r hg hv ha hs hr
end Ev
namespace Go.Vw
open Go.Proofs Go.RowKit
attribute [-simp] List.map_set
theorem zS (Z:Store) (ov:Nat) (v l:List Int) (hz:Z.get ov=some (1,v.map vu)) (hl:l.length<=1048576) (hi : ∀ i∈l,Ss.InR v.length i):Zj Tryz.prog Z 134 [.slice ov 0 v.length,vl vint l] (vl vu (Ev.valsI v l)):=by
 intro S hZS;have hz:=hZS _ _ hz;refine QB (c:=jc Tryz.f134) Tryz.func134 Tryz.ntmps134 fun hwf=>?_
 have on:=jl hwf hz;have oo:=fun u l => @jh S u l ov on
 have gto:=fun ks=>jZ (n:=S.nx) (o:=ov) ks on
 have gpo:=fun ks=>qv (n:=S.nx) (o:=ov) ks on
 refine QY ?_;refine QY ?_;refine zx 5 1 rfl (by conv=>lhs; simp [Fr.set]) ?_
 refine bw ?_
 refine QT ?_;refine jd [0,1,5,6] rfl (fun c σ S' => ∃ (k:Nat) (out:List Int),k<=l.length/\out=Ev.valsI v (l.take k)/\out.length=k/\c=l.length-k/\σ=[(0, .slice ov 0 v.length),(1,vl vint l),(5, .slice (lid S.nx 0) 0 k),(6,vnat k)]/\S'=St S [] [some (1,out.map vu)]) l.length ?_ ?_
 ·exact ⟨0,[],by omega,rfl,rfl,rfl,by simp [Fr.only,Fr.look],by simp⟩
 ·rintro c σ T ⟨k,out,hk,hout,hol,rfl,rfl,rfl⟩
  by_cases hkt:k<l.length
  ·have hw:=jg hkt (by omega);obtain ⟨h0,h1⟩:=hi _ (ah hkt);obtain ⟨m,hm⟩ : ∃ m:Nat,l[k]=(m:Int):=⟨l[k].toNat,by omega⟩
   rw [hm] at h0 h1;have hmv:m<v.length:=by omega
   have hd1:out++[v[m]]=Ev.valsI v (l.take (k+1)):=by
    rw [List.take_add_one,ac hkt,Ev.valsI,List.map_append,hout,Ev.valsI,hm];simp [ac hmv]
   obtain ⟨x,hx⟩ : ∃ x,v[m]=x:=⟨_,rfl⟩
   rw [hx] at hd1;subst hol;have hb8:(out.length+1)*8<=140737488355328:=by omega
   have hb1:out.length+1<=140737488355328:=by omega
   repeat first|refine QG ?_|refine QY ?_ (r:=by conv=>lhs;simp[QV,hkt,hm,hmv,hx,hw,hb8,hb1,oo,hz])
   refine jT [2] (by conv=>lhs; simp [Fr.only]) hwf (by decide) (by simp [jn,jo,gto,gpo]) (by conv=>lhs; simp [jn,jo,gto,gpo]) (by conv=>lhs; simp [jn,jo,gto,gpo]) (by conv=>lhs; simp [jn,jo,gto,gpo]) ⟨?_,out.length+1,out++[x],hkt,hd1,by simp,rfl,by simp [Fr.only,Fr.look],by simp⟩;omega
  ·have hke:k=l.length:=by omega
   subst hke;rw [List.take_length] at hout;rw [<-hout]
   refine bx hkt ?_
   exact jf hwf ((frz1 (by simp) (by rfl) (jq vu (fun _=>rfl) _) (by simpa using hol)).toB _) rfl
end Go.Vw
namespace Ev
theorem setAll_step : ∀ (v is xs:List Int) (j:Nat) (h1:j<is.length) (h2:j<xs.length),setAll v (is.take (j+1)) (xs.take (j+1))=(setAll v (is.take j) (xs.take j)).set (is[j]).toNat xs[j]
 | v,[],_,j,h1,_=>absurd h1 (Nat.not_lt_zero _)
 | v,_::_,[],j,_,h2=>absurd h2 (Nat.not_lt_zero _)
 | v,i::is,x::xs,0,_,_=>by simp [setAll]
 | v,i::is,x::xs,j+1,h1,h2=>by
  simp only [List.take_succ_cons,List.getElem_cons_succ];exact setAll_step (v.set i.toNat x) is xs j (by simpa using h1) (by simpa using h2)
theorem setAll_take : ∀ (v is xs:List Int),is.length<=xs.length->setAll v is (xs.take is.length)=setAll v is xs
 | v,[],xs,_=>by cases xs<;>rfl
 | v,i::is,[],h=>absurd h (by simp)
 | v,i::is,x::xs,h=>by
  simp only [aC,List.take_succ_cons,setAll];exact setAll_take _ is xs (by simpa using h)
theorem inR_at {n:Nat} {l:List Int} (h:inR n l=true) {j:Nat} (hj:j<l.length) : ∃ m:Nat,l[j]=(m:Int)/\m<n:=by
 simp only [inR,aD,af,aj] at h;obtain ⟨h1,h2⟩:=h _ (ah hj);exact ⟨l[j].toNat,by omega,by omega⟩
theorem inR_in {n:Nat} {l:List Int} (h:inR n l=true) : ∀ i∈l,Ss.InR n i:=by
 simp only [inR,aD,af,aj] at h;exact h
end Ev
namespace Go.Vw
open Go.Proofs Go.RowKit
theorem set_vu (v:List Int) (m:Nat) (y:Int):(v.map vu).set m (.int .u64 y)=(v.set m y).map vu:=by rw [List.map_set]; rfl
theorem look_fix {f:Nat->Nat} {p:Nat->Bool} (h : ∀ o,p o=true->f o=o) : ∀ (σ:Fr),idsF p σ=true -> ∀ t,σ.look t=(σ.look t).ren f
 | [],_,t=>by simp [Fr.look,V.ren]
 | (k,x)::r,hx,t=>by
  simp only [idsF,af] at hx;simp only [Fr.look];split
  ·exact (WD h x hx.1).symm
  ·exact look_fix h r hx.2 t
theorem own_reach {N:Nat} {σ:Fr} {S:Store} {P:Ev.Prog} {s:Ev.State} {o g l:Nat} {d e:Int} {w:List (Option (Nat × List V))} (hwf:S.Wf) (hr:RunAt S P s o g l d e) (hw : ∀ c∈w, ∀ x,c=some x->V.idsL (fun i=>decide (i<S.nx+w.length)) x.2=true) (hσ:idsF (fun i=>decide (i<S.nx+w.length)) σ=true) :
  Reach N S.nx σ (St S [] w) σ (ownS S P s o g l d e (w++[some (1,s.log.map vu)]) w.length) :=
 Reach.ren (own_ren hwf hr hw) (look_fix (fun o ho=>renP_lt (aQ ho)) σ hσ)
theorem vcall_useE {P:Program} {Z:ZZ} {σ:Fr} {S:Store} {K:Fr->Store->Prop} {d:Option Nat} {f:FuncId} {args:List Arg} {xs:List V} {r:List CO} {X:V} (h:Zj P Z.z0 f xs X) (ha:args.map (ev σ)=xs) (H:jz P (some Z) r K (σ.put d X) S) (he:Z.early d=true:=by rfl) (hw:wrcL Z.es d=false:=by rfl):jz P (some Z) (⟨d,none, .call f args⟩::r) K σ S:=by
 rw [Wj,ha];show zy P (some Z) d f xs S _;simp only [zy];rw [if_neg (by rw [hw]; decide)];refine ⟨X, ?_,H⟩;rw [he];exact h
end Go.Vw
namespace Ev
structure FnB (f:Ss.Fn):Prop where
 types:f.types.length<=2048
 pars : ∀ b∈f.blocks,b.params.length<=256
 code : ∀ b∈f.blocks,b.code.length<=4096
 ins : ∀ b∈f.blocks, ∀ x∈b.code,x.Fits/\x.args.length<=4096/\x.outs.length<=4096/\(x.op=16->x.n<64)
 args : ∀ b∈f.blocks,b.term.args.length<=4096
 to : ∀ b∈f.blocks,b.term.to.length<=4096 /\ ∀ x∈b.term.to,x.args.length<=4096
 len:f.blocks.length<=256
theorem fn_b {e:Ss.Env} {f:Ss.Fn} (hf:f.Fits) (he:e.right=true) (h:Ss.check e f=true):FnB f:=by
 obtain ⟨ds,hds,hok⟩:=fn_ok hf h;obtain ⟨h1,_⟩:=Ss.check_spec h;simp only [Ss.checkHead,Ss.kinds,af,aj,aD] at h1;have hsm:=(Ss.small_iff f).1 h1.1.1.1.1.2;have hB : ∀ b∈f.blocks,b.term.to.length<=4096/\b.term.args.length<=4096/\(∀ x∈b.code,x.args.length<=4096/\x.outs.length<=4096) /\ ∀ x∈b.term.to,x.args.length<=4096:=fun b hb=>by
  have:=hsm.2.1 b hb;simp only [Ss.Block.small,Ss.Ins.small,Ss.Edge.small,af,aj,aD] at this;exact ⟨this.1.1.1.2,this.1.1.2,this.1.2,this.2⟩
 refine ⟨h1.1.1.2.1,fun b hb=>h1.2 b hb,fun b hb => ?_,fun b hb x hx=>⟨(hf.2.2.2 b hb).2.1.2 x hx,((hB b hb).2.2.1 x hx).1,((hB b hb).2.2.1 x hx).2,fun ho => ?_⟩,fun b hb=>(hB b hb).2.1,fun b hb=>⟨(hB b hb).1,(hB b hb).2.2.2⟩,h1.1.1.1.2⟩
 ·obtain ⟨i,hi⟩:=aB.1 hb;exact (hok.blocks i b hi).len
 ·obtain ⟨i,hi⟩:=aB.1 hb;obtain ⟨k,hk⟩:=aB.1 hx;have:=Ss.checkCode_at (hok.blocks i b hi).code hk;simp only [Ss.insOk,af] at this;have hfo:=this.1.1.1;rw [ho] at hfo;simp only [Ss.form] at hfo;simp only [Ss.Env.right,af,aj] at he;have:=he.1.1.1.2;split at hfo
  ·omega
  ·split at hfo
   ·omega
   ·split at hfo
    ·omega
    ·simp only [if_true] at hfo;split at hfo
     ·omega
     ·cases hfo
end Ev
namespace Go.Vw
open Go.Proofs Go.RowKit
attribute [-simp] List.map_set
theorem rep_vu (n:Nat):List.replicate n (V.int .u64 0)=(List.replicate n (0:Int)).map vu:=by simp [vu]
theorem NBlocks_v (O:Ev.Ops) (hO:OpsV O) (hOk:Ev.OpsOk O) (P:Ev.Prog) (hP:Ev.RightP P) (N d:Nat) (hd:d<=16) (hcalls : ∀ M<N,CallOk P (Ev.callG P (Ev.blocksF O P M) d) d):BlocksOk P (Ev.blocksF O P N d) d:=by
 intro f args s r S o g l hfm hs ha hal hr hf;have hR:=hr;obtain ⟨i0,hi0⟩:=aB.1 hfm;obtain ⟨f1,f2,f3⟩:=hP.fns i0 f hi0;obtain ⟨bT,bP,bC,bI,bA,bE,bL⟩:=Ev.fn_b f1 hP.env f2;have hPf : ∀ f∈P.fns,f.Fits:=fun f hf=>by
  obtain ⟨i,hi⟩:=aB.1 hf;exact (hP.fns i f hi).1
 have hkeep:=fun M=>Ev.callF_keep hOk hPf M d
 have hkeepB:=fun M=>Ev.blocks_keep hOk hPf M d
 clear hi0 f2 f3 hPf;obtain ⟨⟨fi,fo⟩,ts,bs⟩:=f;simp only at bT bP bC bI bA bE bL;have e1:jI ⟨⟨fi,fo⟩,ts,bs⟩ = .agg [vl vint fi,vl vint fo,vl vint ts,vl je bs]:=rfl;rw [e1];have hb8:ts.length*8<=140737488355328:=by omega
 have hb1:ts.length<=140737488355328:=by omega
 refine QB (c:=jc Tryz.f114) Tryz.func114 Tryz.ntmps114 fun hwf=>?_
 have on:=jl hwf hr.obj;have gn:=jl hwf hr.glob;have ln:=jl hwf hr.log;have h4:=hr.og;have h5:=hr.ol;have h6:=hr.gl;have oo:=fun u l => @jh S u l o on
 have updo:=fun u l c => @jP S u l c o on
 have gto:=fun ks=>jZ (n:=S.nx) (o:=o) ks on
 have gtg:=fun ks=>jZ (n:=S.nx) (o:=g) ks gn
 have gpo:=fun ks=>qv (n:=S.nx) (o:=o) ks on
 have gpg:=fun ks=>qv (n:=S.nx) (o:=g) ks gn
 refine QY ?_;refine QH 4 0 ?_;refine QY ?_ (r:=by conv=>lhs;simp[QV,hb8,hb1]);refine QO [0,2,4,7] ?_;rw [rep_vu];obtain ⟨v0,hv0⟩ : ∃ v0,v0=List.replicate ts.length (0:Int):=⟨_,rfl⟩
 rw [<-hv0];refine ZR [1] hwf (by decide) (by simp [jn,jo,gto,gtg,gpo,gpg]) (by conv=>lhs; simp [jn,jo,gto,gtg,gpo,gpg]) (by conv=>lhs; simp [jn,jo,gto,gtg,gpo,gpg]) (by conv=>lhs; simp [jn,jo,gto,gtg,gpo,gpg]) ?_;refine jE (own_reach (w:=[some (1,v0.map vu)]) hwf hR ?_ ?_) ?_
 ·intro c hc x hx;rw [aW] at hc;subst hc
  cases hx
  exact jo _ _
 ·simp [idsF,on,lid];omega
 simp only [List.cons_append,List.nil_append,aC,aM]
 refine bw ?_
 refine QT ?_;refine jd [0,2,4,7,8] rfl (fun c σ S' => ∃ (v:List Int) (k:Nat) (ar:List Int) (s2:Ev.State),c<=N/\v.length=ts.length/\(∀ y∈v,Ev.U64 y)/\(∀ y∈ar,Ev.U64 y)/\ar.length<=4096/\Ok s2/\Ev.blocksF O P c d ⟨⟨fi,fo⟩,ts,bs⟩ v k ar s2=some r/\σ=[(0, .ptr o 0),(2,vl vu ar),(4,(V.agg [vl vint fi,vl vint fo,vl vint ts,vl je bs]).ref),(7, .slice (lid S.nx 0) 0 v.length),(8,vnat k)]/\S'=ownS S P s2 o g l d 0 [some (1,v.map vu),some (1,s2.log.map vu)] 1) N ?_ ?_
 ·exact ⟨v0,0,args,s,bf _,by simp [hv0],(fun y hy=>by rw [hv0] at hy; rw [List.eq_of_mem_replicate hy]; exact Ev.u64_0),ha,hal,hs,by rw [hv0]; exact hf,by simp [Fr.only,Fr.look,hv0],rfl⟩
 clear hs ha hal hr hf;rintro c σ T ⟨v,k,ar,s2,hcN,hvl,hvu,hau,hal,hs,hf,rfl,rfl⟩
 cases c with
 | zero=>cases hf
 | succ M =>
 rw [Ev.blocksF] at hf
 cases hb:bs[k]? with
 | none=>rw [hb] at hf; cases hf
 | some b =>
 rw [hb] at hf;simp only at hf;split at hf
 rotate_left
 ·cases hf
 rename_i hpar;obtain ⟨hpi,hpl⟩:=hpar;obtain ⟨hkl,hbk⟩:=ae.1 hb;have hbm:=aA hb;have hbP:=bP b hbm;have hbC:=bC b hbm;have hbI:=bI b hbm;have hbA:=bA b hbm;have hbE:=bE b hbm;clear hb hbm bP bC bI bA bE hb8 hb1 e1 f1;obtain ⟨ps,code,⟨tk,ta,tt,tz⟩⟩:=b;simp only at hf hpi hpl hbP hbC hbI hbA hbE;simp only [ownS,runC]
 refine bt hkl hbk ?_
 refine QH 9 2 ?_;refine QT ?_;refine jd [0,2,4,7,9,10] rfl (fun c σ S' => ∃ (j:Nat) (w:List Int),j<=ps.length/\c=ps.length-j/\w=Ev.setAll v (ps.take j) (ar.take j)/\w.length=v.length/\σ=[(0, .ptr o 0),(2,vl vu ar),(4,(V.agg [vl vint fi,vl vint fo,vl vint ts,vl je bs]).ref),(7, .slice (lid S.nx 0) 0 w.length),(9,(V.agg [vl vint ps,vl jp code,vint tk,vint ta,vl jk tt,vl vint tz]).ref),(10,vnat j)]/\S'=St S [(o,some (14,[vl jm P.env.sigs,vint P.env.imports,vl vint P.env.globals,vl V.bool P.env.muts, .bool P.env.mem,vl jI P.fns,vl vby s2.mem,vint s2.most, .slice g 0 s2.globals.length,vint s2.fuel,vl vu s2.input, .slice (lid S.nx 1) 0 s2.log.length,vint d,vint 0])),(g,some (1,s2.globals.map vu)),(l,none)] [some (1,w.map vu),some (1,s2.log.map vu),none]) ps.length ?_ ?_
 ·exact ⟨0,v,Nat.zero_le _,rfl,by simp [Ev.setAll],rfl,by simp [Fr.only,Fr.look],by simp⟩
 ·rintro c σ T ⟨j,w,hj,rfl,hw,hwl,rfl,rfl⟩
  by_cases hjp:j<ps.length
  ·have hjw:=jg hjp (by omega);obtain ⟨m,hm,hml⟩:=Ev.inR_at hpi hjp;have hja:j<ar.length:=by omega
   obtain ⟨y,hy⟩ : ∃ y,ar[j]=y:=⟨_,rfl⟩
   have hstep:=Ev.setAll_step v ps ar j hjp hja;rw [<-hw,hm,hy,Int.toNat_natCast] at hstep;have hmw:m<w.length:=by omega
   have hsv:=set_vu w m y
   refine bx hjp ?_
   refine QT ?_;refine QJ (Zm) (Zm) [34,35,37,38,41,42,43] ?_ (hz:=Jx) (r:=by conv=>lhs; simp [QV,hjp,hm,hja,hy,hmw]);refine zr rfl (by conv=>lhs; simp [QV,hjp,hm,hja,hy,hmw,hsv]) (Jx) ?_;refine QN ?_
   refine bx hjw ?_
   show js _ _ _ _ _ _ _;exact again ⟨ao hjp (aY j),j+1,w.set m y,hjp,rfl,hstep.symm,by simp [hwl],by simp [Fr.only,Fr.look],rfl⟩
  ·have hje:j=ps.length:=by omega
   subst hje;rw [List.take_length,Ev.setAll_take _ _ _ hpl] at hw;rw [<-hw] at hf;have hwu : ∀ y∈w,Ev.U64 y:=by rw [hw]; exact Ev.setAll_u64 _ _ _ hvu hau
   clear hw hpi hpl hvu hau hal hbP
   cases hQ:Ev.codeF O (Ev.callG P (Ev.blocksF O P M) d) code w s2 with
   | none=>rw [hQ] at hf; cases hf
   | some q =>
   obtain ⟨vE,sE,er⟩:=q;rw [hQ] at hf;simp only at hf
   refine bx hjp ?_
   refine QO [0,4,7,9,11] ?_;refine ZR [0,1] hwf (by decide) (by simp [jn,jo,gto,gtg,gpo,gpg]) (by conv=>lhs; simp [jn,jo,gto,gtg,gpo,gpg]) (by conv=>lhs; simp [jn,jo,gto,gtg,gpo,gpg]) (by conv=>lhs; simp [jn,jo,gto,gtg,gpo,gpg]) ?_;refine QT ?_;refine jd [0,4,7,9,11] rfl (fun c σ S' => ∃ (j:Nat) (w:List Int) (s3:Ev.State),j<=code.length/\c=code.length-j/\(∀ y∈w,Ev.U64 y)/\w.length=v.length/\Ok s3/\Ev.codeF O (Ev.callG P (Ev.blocksF O P M) d) (code.drop j) w s3=some (vE,sE,er)/\σ=[(0, .ptr o 0),(4,(V.agg [vl vint fi,vl vint fo,vl vint ts,vl je bs]).ref),(7, .slice (lid S.nx 0) 0 w.length),(9,(V.agg [vl vint ps,vl jp code,vint tk,vint ta,vl jk tt,vl vint tz]).ref),(11,vnat j)]/\S'=St S [(o,some (14,[vl jm P.env.sigs,vint P.env.imports,vl vint P.env.globals,vl V.bool P.env.muts, .bool P.env.mem,vl jI P.fns,vl vby s3.mem,vint s3.most, .slice g 0 s3.globals.length,vint s3.fuel,vl vu s3.input, .slice (lid S.nx 1) 0 s3.log.length,vint d,vint 0])),(g,some (1,s3.globals.map vu)),(l,none)] [some (1,w.map vu),some (1,s3.log.map vu)]) code.length ?_ ?_
   ·exact ⟨0,w,s2,Nat.zero_le _,rfl,hwu,hwl,hs,hQ,by simp [Fr.only,Fr.look],by simp⟩
   clear hs hwu hwl hQ;rintro c σ T ⟨j,w,s3,hj,rfl,hwu,hwl,hs,hQ,rfl,rfl⟩
   by_cases hjp:j<code.length
   ·have hjw:=jg hjp (by omega);rw [am hjp,Ev.codeF] at hQ;obtain ⟨x,hx⟩ : ∃ x,code[j]=x:=⟨_,rfl⟩
    rw [hx] at hQ;obtain ⟨xF,xA,xO,xC⟩:=hbI x (by rw [<-hx]; exact ah hjp);split at hQ
    rotate_left
    ·cases hQ
    rename_i hin
    cases h1:Ev.oneF O (Ev.callG P (Ev.blocksF O P M) d) x (Ev.valsI w x.args) s3 with
    | none=>rw [h1] at hQ; cases hQ
    | some q =>
    obtain ⟨out,s4,e1⟩:=q;rw [h1] at hQ;simp only at hQ;obtain ⟨hs4,hou⟩:=Ev.one_keep hOk (hkeep M) xF.2.1 (Ev.vals_u64 hwu _) (by rw [Ev.vals_len]; omega) hs h1;simp only at hs4 hou;have hval:=zS (ownS S P s3 o g l d 0 [some (1,w.map vu),some (1,s3.log.map vu),none] 1) (lid S.nx 0) w x.args (by simp [ownS,jv]) (by omega) (Ev.inR_in hin);have hat:RunAt (ownS S P s3 o g l d 0 [some (1,w.map vu),some (1,s3.log.map vu),none] 1) P s3 o g (lid S.nx 1) d 0:=own_at on gn ln h4 h5 h6 rfl;have hone:=NOne_v O hO P _ ⟨⟨fi,fo⟩,ts,bs⟩ x _ s3 o g (lid S.nx 1) d _ _ (hcalls M (by omega)) hs xF (Ev.vals_u64 hwu _) (by rw [Ev.vals_len]; omega) xC hat h1;have hc:=ZB hat (ids_vu out) hone;rw [post_own on gn ln h4 h5 h6] at hc;have hop : ∃ a b c d,x=⟨a,b,c,d⟩:=⟨_,_,_,_,rfl⟩
    refine bt hjp hx ?_
    refine QH 12 2 ?_;refine QT ?_;refine QJ (Zm) (Zm) [57,58,60,61,62,20063] ?_ (hz:=Jx) (r:=by conv=>lhs; simp [QV,hjp]);refine vcall_useE hval rfl ?_;refine QZ ?_;refine vcall_t rfl (hc) (by rfl) (by rfl) ?_ ?_;exact Jx;simp only [ownS,runC,aq,au,List.cons_append,List.nil_append,aC,aM,bd,Nat.reduceAdd];refine QW ?_
    by_cases he1:e1=0
    ·subst he1;rw [if_neg (by decide)] at hQ;split at hQ
     rotate_left
     ·cases hQ
     rename_i hoo;obtain ⟨hoi,hol⟩:=hoo
     refine bx oo ?_
     refine QT ?_;refine jd [0,4,7,9,11,12,13,14] rfl (fun c σ S' => ∃ (i:Nat) (w2:List Int),i<=x.outs.length/\c=x.outs.length-i/\w2=Ev.setAll w (x.outs.take i) (out.take i)/\w2.length=w.length/\σ=[(0, .ptr o 0),(4,(V.agg [vl vint fi,vl vint fo,vl vint ts,vl je bs]).ref),(7, .slice (lid S.nx 0) 0 w2.length),(9,(V.agg [vl vint ps,vl jp code,vint tk,vint ta,vl jk tt,vl vint tz]).ref),(11,vnat j),(12,(V.agg [vint x.op,vu x.n,vl vint x.args,vl vint x.outs]).ref),(13,vl vu out),(14,vnat i)]/\S'=St S [(o,some (14,[vl jm P.env.sigs,vint P.env.imports,vl vint P.env.globals,vl V.bool P.env.muts, .bool P.env.mem,vl jI P.fns,vl vby s4.mem,vint s4.most, .slice g 0 s4.globals.length,vint s4.fuel,vl vu s4.input, .slice (lid S.nx 3) 0 s4.log.length,vint d,vint 0])),(g,some (1,s4.globals.map vu)),(l,none)] [some (1,w2.map vu),none,none,some (1,s4.log.map vu)]) x.outs.length ?_ ?_
     ·exact ⟨0,w,Nat.zero_le _,rfl,by simp [Ev.setAll],rfl,by simp [Fr.only,Fr.look],by simp⟩
     ·rintro c σ T ⟨i,w2,hi,rfl,hw,hwl2,rfl,rfl⟩
      by_cases hip:i<x.outs.length
      ·have hiw:=jg hip (by omega);obtain ⟨m,hm,hml⟩:=Ev.inR_at hoi hip;have hia:i<out.length:=by omega
       obtain ⟨y,hy⟩ : ∃ y,out[i]=y:=⟨_,rfl⟩
       have hstep:=Ev.setAll_step w x.outs out i hip hia;rw [<-hw,hm,hy,Int.toNat_natCast] at hstep;have hmw:m<w2.length:=by omega
       have hsv:=set_vu w2 m y
       refine bx hip ?_
       refine QT ?_;refine QJ (Zm) (Zm) [77,78,80,81,84,85,86] ?_ (hz:=Jx) (r:=by conv=>lhs; simp [QV,hip,hm,hia,hy,hmw]);refine zr rfl (by conv=>lhs; simp [QV,hip,hm,hia,hy,hmw,hsv]) (Jx) ?_;refine QN ?_
       refine bx hiw ?_
       show js _ _ _ _ _ _ _;exact again ⟨ao hip (aY i),i+1,w2.set m y,hip,rfl,hstep.symm,by simp [hwl2],by simp [Fr.only,Fr.look],rfl⟩
      ·have hie:i=x.outs.length:=by omega
       subst hie;rw [List.take_length,Ev.setAll_take _ _ _ hol] at hw;rw [<-hw] at hQ;have hwu2 : ∀ y∈w2,Ev.U64 y:=by rw [hw]; exact Ev.setAll_u64 _ _ _ hwu hou
       refine bt hip hjw ?_
       refine jT [0,3] (by conv=>lhs; simp [Fr.only]) hwf (by decide) (by simp [jn,jo,gto,gtg,gpo,gpg]) (by conv=>lhs; simp [jn,jo,gto,gtg,gpo,gpg]) (by conv=>lhs; simp [jn,jo,gto,gtg,gpo,gpg]) (by conv=>lhs; simp [jn,jo,gto,gtg,gpo,gpg]) ⟨?_,j+1,w2,s4,hjp,rfl,hwu2,by omega,hs4,hQ,by simp [Fr.only,Fr.look],by simp⟩;omega
    ·rw [if_pos he1] at hQ
     cases hQ
     rw [if_pos he1] at hf
     cases hf
     refine bt oo he1 ?_
     exact own_nil (P:=P) (d:=d) (e:=er) (w:=[some (1,w.map vu),none,none,some (1,sE.log.map vu)]) (k:=3) (s:=sE) hwf on gn ln h4 h5 h6 rfl
   ·have hje:j=code.length:=by omega
    subst hje;rw [List.drop_length,Ev.codeF] at hQ
    cases hQ
    rw [if_neg (by decide)] at hf;have htt:=hbE.1
    by_cases k4:tk=4
    ·rw [if_pos k4] at hf;split at hf
     rotate_left
     ·cases hf
     rename_i hti
     cases hf
     subst k4
     refine bx hjp ?_
     refine QP ?_;refine jK rfl (zS _ (lid S.nx 0) vE tz (by simp [jv]) (by omega) (Ev.inR_in hti) _ (Store.sub_refl _)) ?_;rintro X T ⟨rfl,rfl⟩;refine bQ ?_
     exact own_end (P:=P) (d:=d) (e:=0) (out:=Ev.valsI vE tz) (w:=[some (1,vE.map vu),some (1,sE.log.map vu),some (4,[vint 4,vint ta,vl jk tt,vl vint tz])]) (k:=1) (s:=sE) hwf on gn ln h4 h5 h6 rfl
    rw [if_neg k4] at hf
    by_cases k5:tk=5
    ·rw [if_pos k5] at hf
     cases hf
     subst k5
     refine bJ hjp oo updo h5 h6 ?_
     exact own_nil (P:=P) (d:=d) (e:=32) (w:=[some (1,vE.map vu),some (1,sE.log.map vu),some (4,[vint 5,vint ta,vl jk tt,vl vint tz])]) (k:=1) (s:=sE) hwf on gn ln h4 h5 h6 rfl
    rw [if_neg k5] at hf
    cases hpk:Ev.pickF vE ⟨tk,ta,tt,tz⟩ with
    | none=>rw [hpk] at hf; cases hf
    | some kk =>
    rw [hpk] at hf;simp only at hf
    cases hed0:tt[kk]? with
    | none=>rw [hed0] at hf; cases hf
    | some ed =>
    rw [hed0] at hf;simp only at hf;split at hf
    rotate_left
    ·cases hf
    rename_i hee;obtain ⟨hei,he0⟩:=hee;obtain ⟨hkk,hed⟩:=ae.1 hed0;have heA:=hbE.2 ed (by rw [<-hed]; exact ah hkk);have heA:ed.args.length<=1048576:=by omega
    obtain ⟨n2,heto⟩ : ∃ n2:Nat,ed.to=(n2:Int):=⟨ed.to.toNat,by omega⟩
    rw [heto,Int.toNat_natCast] at hf;clear hed0 hbE hbI hbC hbA;simp only [Ev.pickF] at hpk
    by_cases k2:tk=2
    ·rw [if_pos k2] at hpk;split at hpk
     rotate_left
     ·cases hpk
     rename_i hai;obtain ⟨m,hm,hmw⟩:=Ev.inR_at hai (j:=0) (by simp);simp only [List.getElem_cons_zero] at hm;subst hm;obtain ⟨y,hy⟩ : ∃ y,vE[m]=y:=⟨_,rfl⟩
     rw [Int.toNat_natCast,ag,ac hmw,aS,hy] at hpk;subst k2
     by_cases hy0:y=0
     ·rw [if_pos hy0] at hpk
      cases hpk
      subst hy0;have hix1 : ∀ S',jB 2 S' (vl jk tt) (.int .i64 1)=some (.ref (jk ed)):=fun S'=>zO (enc:=jk) (l:=tt) (i:=1) rfl (by rw [ac hkk,hed])
      refine bD hjp hmw hy hix1 ?_
      refine QP ?_ (r:=by conv=>lhs;simp[QV,hkk,hed,hix1]);refine jK rfl (zS _ (lid S.nx 0) vE ed.args (by simp [jv]) heA (Ev.inR_in hei) _ (Store.sub_refl _)) ?_;rintro X T ⟨rfl,rfl⟩;refine QW ?_
      refine bD hkk hed heto hix1 ?_
      refine jT [0,1] (by conv=>lhs; simp [Fr.only]) hwf (by decide) (by simp [jn,jo,gto,gtg,gpo,gpg]) (by conv=>lhs; simp [jn,jo,gto,gtg,gpo,gpg]) (by conv=>lhs; simp [jn,jo,gto,gtg,gpo,gpg]) (by conv=>lhs; simp [jn,jo,gto,gtg,gpo,gpg]) ⟨?_,vE,n2,Ev.valsI vE ed.args,sE,by omega,by omega,hwu,Ev.vals_u64 hwu _,by rw [Ev.vals_len]; omega,hs,hf,by simp [Fr.only,Fr.look],by simp [ownS,runC]⟩;omega
     ·rw [if_neg hy0] at hpk
      cases hpk
      refine bD hjp hmw hy hy0 ?_
      refine bK hkk hed ?_;refine jK rfl (zS _ (lid S.nx 0) vE ed.args (by simp [jv]) heA (Ev.inR_in hei) _ (Store.sub_refl _)) ?_;rintro X T ⟨rfl,rfl⟩;refine QW ?_
      refine bv hkk hed heto ?_
      refine jT [0,1] (by conv=>lhs; simp [Fr.only]) hwf (by decide) (by simp [jn,jo,gto,gtg,gpo,gpg]) (by conv=>lhs; simp [jn,jo,gto,gtg,gpo,gpg]) (by conv=>lhs; simp [jn,jo,gto,gtg,gpo,gpg]) (by conv=>lhs; simp [jn,jo,gto,gtg,gpo,gpg]) ⟨?_,vE,n2,Ev.valsI vE ed.args,sE,by omega,by omega,hwu,Ev.vals_u64 hwu _,by rw [Ev.vals_len]; omega,hs,hf,by simp [Fr.only,Fr.look],by simp [ownS,runC]⟩;omega
    rw [if_neg k2] at hpk
    by_cases k3:tk=3
    ·rw [if_pos k3] at hpk;split at hpk
     rotate_left
     ·cases hpk
     rename_i hai;obtain ⟨hai,hl0⟩:=hai;obtain ⟨m,hm,hmw⟩:=Ev.inR_at hai (j:=0) (by simp);simp only [List.getElem_cons_zero] at hm;subst hm;obtain ⟨y,hy⟩ : ∃ y,vE[m]=y:=⟨_,rfl⟩
     have hyu:Ev.U64 y:=by rw [<-hy]; exact hwu _ (ah hmw)
     rw [Int.toNat_natCast,ag,ac hmw,aS,hy] at hpk;subst k3;obtain ⟨q,hq⟩ : ∃ q:Nat,tt.length=q+1:=⟨tt.length-1,by omega⟩
     have hw1:IntKind.i64.wrap ((tt.length:Int)-1)=(q:Int):=by rw [hq]; rw [show ((q+1:Nat):Int)-1=(q:Int) by omega]; exact wrap_i64 (by omega) (by omega)
     have hw2:IntKind.u64.wrap (q:Int)=(q:Int):=bO;have hq1:tt.length-1=q:=by omega
     rw [hq1] at hpk
     by_cases hyq:y<(q:Int)
     ·rw [if_pos hyq] at hpk;obtain ⟨z,hz⟩ : ∃ z:Nat,y=(z:Int):=⟨y.toNat,by have:=hyu.1; omega⟩
      subst hz;rw [Int.toNat_natCast] at hpk
      cases hpk
      have hw3:IntKind.i64.wrap (kk:Int)=(kk:Int):=wrap_i64 (by omega) (by omega)
      repeat first|refine QG ?_|refine QY ?_ (r:=by conv=>lhs;simp[QV,hjp,hmw,hy,hw1,hw2,hyq,hw3])
      refine bK hkk hed ?_;refine jK rfl (zS _ (lid S.nx 0) vE ed.args (by simp [jv]) heA (Ev.inR_in hei) _ (Store.sub_refl _)) ?_;rintro X T ⟨rfl,rfl⟩;refine QW ?_
      refine bv hkk hed heto ?_
      refine jT [0,1] (by conv=>lhs; simp [Fr.only]) hwf (by decide) (by simp [jn,jo,gto,gtg,gpo,gpg]) (by conv=>lhs; simp [jn,jo,gto,gtg,gpo,gpg]) (by conv=>lhs; simp [jn,jo,gto,gtg,gpo,gpg]) (by conv=>lhs; simp [jn,jo,gto,gtg,gpo,gpg]) ⟨?_,vE,n2,Ev.valsI vE ed.args,sE,by omega,by omega,hwu,Ev.vals_u64 hwu _,by rw [Ev.vals_len]; omega,hs,hf,by simp [Fr.only,Fr.look],by simp [ownS,runC]⟩;omega
     ·rw [if_neg hyq] at hpk
      cases hpk
      refine bz hjp hmw hy hw1 hw2 hyq ?_
      refine bK hkk hed ?_;refine jK rfl (zS _ (lid S.nx 0) vE ed.args (by simp [jv]) heA (Ev.inR_in hei) _ (Store.sub_refl _)) ?_;rintro X T ⟨rfl,rfl⟩;refine QW ?_
      refine bv hkk hed heto ?_
      refine jT [0,1] (by conv=>lhs; simp [Fr.only]) hwf (by decide) (by simp [jn,jo,gto,gtg,gpo,gpg]) (by conv=>lhs; simp [jn,jo,gto,gtg,gpo,gpg]) (by conv=>lhs; simp [jn,jo,gto,gtg,gpo,gpg]) (by conv=>lhs; simp [jn,jo,gto,gtg,gpo,gpg]) ⟨?_,vE,n2,Ev.valsI vE ed.args,sE,by omega,by omega,hwu,Ev.vals_u64 hwu _,by rw [Ev.vals_len]; omega,hs,hf,by simp [Fr.only,Fr.look],by simp [ownS,runC]⟩;omega
    ·rw [if_neg k3] at hpk
     cases hpk
     refine bJ hjp k4 k5 k2 k3 ?_
     refine bK hkk hed ?_;refine jK rfl (zS _ (lid S.nx 0) vE ed.args (by simp [jv]) heA (Ev.inR_in hei) _ (Store.sub_refl _)) ?_;rintro X T ⟨rfl,rfl⟩;refine QW ?_
     refine bv hkk hed heto ?_
     refine jT [0,1] (by conv=>lhs; simp [Fr.only]) hwf (by decide) (by simp [jn,jo,gto,gtg,gpo,gpg]) (by conv=>lhs; simp [jn,jo,gto,gtg,gpo,gpg]) (by conv=>lhs; simp [jn,jo,gto,gtg,gpo,gpg]) (by conv=>lhs; simp [jn,jo,gto,gtg,gpo,gpg]) ⟨?_,vE,n2,Ev.valsI vE ed.args,sE,by omega,by omega,hwu,Ev.vals_u64 hwu _,by rw [Ev.vals_len]; omega,hs,hf,by simp [Fr.only,Fr.look],by simp [ownS,runC]⟩;omega
theorem vby_closed (l:List Int):(l.map vby).all V.closed1=true:=by
 rw [aD];intro x hx;obtain ⟨y,_,rfl⟩:=bk.1 hx
 rfl
theorem zN {b:Nat} {R:V->Store->Prop} {x x':V} {S S':Store} (h:Ghost x S x' S') (k:Ja b R x' S'):Ja b R x S:=by
 obtain ⟨y,T,hg,hR⟩:=k;exact ⟨y,T,(h.toB b).trans hg,hR⟩
theorem NCopyD_v (s:Ev.State) (h1:s.mem.length<=1048576) (h2:s.globals.length<=1048576) (h3:s.input.length<=1048576) (h4:s.log.length<=1048576) (S:Store) :
  bU 85 [qf s] S (fun x T=>x = .agg [vl vby s.mem,vint s.most, .slice (lid S.nx 0) 0 s.globals.length,vint s.fuel,vl vu s.input, .slice (lid S.nx 1) 0 s.log.length]/\T=St S [] [some (1,s.globals.map vu),some (1,s.log.map vu)]):=by
 obtain ⟨mem,most,glb,fuel,inp,log⟩:=s;simp only at h1 h2 h3 h4 ⊢;have e1:qf ⟨mem,most,glb,fuel,inp,log⟩ = .agg [vl vby mem,vint most,vl vu glb,vint fuel,vl vu inp,vl vu log]:=rfl;rw [e1];have a1:=app_vby mem h1;have a2:=app_vu glb h2;have a3:=app_vu inp h3;have a4:=app_vu log h4;refine qA (c:=jc Tryz.f85) Tryz.func85 rfl (by conv=>lhs; reduce) (by simp [Tryz.ntmps85]) ?_;rw [Tryz.ntmps85];intro hwf;refine QY ?_;refine bM a1 ?_;refine bM a2 ?_;refine bM a3 ?_;refine bM a4 ?_;refine QY ?_
 refine bw ?_
 refine WW (xs:=[.agg [.slice (lid S.nx 2) 0 mem.length,vint most, .slice (lid S.nx 3) 0 glb.length,vint fuel, .slice (lid S.nx 4) 0 inp.length, .slice (lid S.nx 5) 0 log.length]]) (by simp) ?_;rw [tupV_1];refine zN (Jn (GhostArgs.one [] _ (frz1 (k:=2) (by simp) (by rfl) (vby_closed mem) (by simp)))) ?_;refine zN (Jn (GhostArgs.one [_,_,_,_] _ (frz1 (k:=4) (by simp) (by rfl) (jq vu (fun _=>rfl) inp) (by simp)))) ?_;simp only [List.nil_append,List.cons_append,aq,au];refine jcQ [3,5] hwf (by decide) (by simp [jn,jo]) (by first | (simp [jn,jo]; done) | (simp [jn,jo]; rfl)) (by first | (simp; done) | (simp; exact ⟨rfl,rfl⟩)) ⟨rfl,rfl⟩
end Go.Vw
