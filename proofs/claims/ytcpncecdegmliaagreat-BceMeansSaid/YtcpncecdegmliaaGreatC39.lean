import Derived.Test.YtcpncecdegmliaaGreatC38
/- Part of the proof. -/
set_option linter.unusedVariables false
set_option linter.unusedSimpArgs false
set_option maxRecDepth 10000
set_option maxHeartbeats 8000000
namespace Go.Vw
open Go.Proofs Go.RowKit
attribute [-simp] List.map_set
theorem zF (Z:Store) (ov:Nat) (v l:List Int) (hz:Z.get ov=some (1,v.map vu)) (hl:l.length≤1048576) (hi : ∀ i∈l,Ss.InR v.length i):YJ Tryz.prog Z 118 [.slice ov 0 v.length,vl vint l] (vl vu (Ev.valsI v l)):=by
 intro S hZS;have hz:=hZS _ _ hz;refine QB (c:=jc Tryz.f118) Tryz.func118 Tryz.ntmps118 fun hwf=>?_
 have on:=jx hwf hz;have oo:=fun u l => @jm S u l ov on
 have gto:=fun ks=>qy (n:=S.nx) (o:=ov) ks on
 have gpo:=fun ks=>za (n:=S.nx) (o:=ov) ks on
 refine QT ?_;refine QY ?_;refine QT ?_;refine QY ?_;refine zy 5 1 rfl (by conv=>lhs; simp [Fr.set]) ?_
 repeat first|refine QG ?_|refine QY ?_
 refine QT ?_;refine jd [0,1,5,6] rfl (fun c σ S' => ∃ (k:Nat) (out:List Int),k≤l.length∧out=Ev.valsI v (l.take k)∧out.length=k∧c=l.length-k∧σ=[(0, .slice ov 0 v.length),(1,vl vint l),(5, .slice (lid S.nx 0) 0 k),(6,vnat k)]∧S'=St S [] [some (1,out.map vu)]) l.length ?_ ?_
 ·exact ⟨0,[],by omega,rfl,rfl,rfl,by simp [Fr.only,Fr.look],by simp⟩
 ·rintro c σ T ⟨k,out,hk,hout,hol,rfl,rfl,rfl⟩
  by_cases hkt:k<l.length
  ·have hw:=jh hkt (by omega);obtain ⟨h0,h1⟩:=hi _ (List.getElem_mem hkt);obtain ⟨m,hm⟩ : ∃ m:Nat,l[k]=(m:Int):=⟨l[k].toNat,by omega⟩
   rw [hm] at h0 h1;have hmv:m<v.length:=by omega
   have hd1:out++[v[m]]=Ev.valsI v (l.take (k+1)):=by
    rw [List.take_add_one,List.getElem?_eq_getElem hkt,Ev.valsI,List.map_append,hout,Ev.valsI,hm];simp [List.getElem?_eq_getElem hmv]
   obtain ⟨x,hx⟩ : ∃ x,v[m]=x:=⟨_,rfl⟩
   rw [hx] at hd1;subst hol;have hb8:(out.length+1)*8≤140737488355328:=by omega
   have hb1:out.length+1≤140737488355328:=by omega
   repeat first|refine QG ?_|refine QY ?_ (r:=by conv=>lhs;simp[QV,hkt,hm,hmv,hx,hw,hb8,hb1,oo,hz])
   refine qo [2] (by conv=>lhs; simp [Fr.only]) hwf (by decide) (by simp [jk,jn,gto,gpo]) (by conv=>lhs; simp [jk,jn,gto,gpo]) (by conv=>lhs; simp [jk,jn,gto,gpo]) (by conv=>lhs; simp [jk,jn,gto,gpo]) ⟨?_,out.length+1,out++[x],hkt,hd1,by simp,rfl,by simp [Fr.only,Fr.look],by simp⟩;omega
  ·have hke:k=l.length:=by omega
   subst hke;rw [List.take_length] at hout;rw [←hout]
   repeat first|refine QG ?_|refine QY ?_ (r:=by conv=>lhs;simp[QV,hkt])
   exact jf hwf ((frz1 (by simp) (by rfl) (jq vu (fun _=>rfl) _) (by simpa using hol)).toB _) rfl
end Go.Vw
namespace Ev
theorem setAll_step : ∀ (v is xs:List Int) (j:Nat) (h1:j<is.length) (h2:j<xs.length),setAll v (is.take (j+1)) (xs.take (j+1))=(setAll v (is.take j) (xs.take j)).set (is[j]).toNat xs[j]
 | v,[],_,j,h1,_=>absurd h1 (Nat.not_lt_zero _)
 | v,_::_,[],j,_,h2=>absurd h2 (Nat.not_lt_zero _)
 | v,i::is,x::xs,0,_,_=>by simp [setAll]
 | v,i::is,x::xs,j+1,h1,h2=>by
  simp only [List.take_succ_cons,List.getElem_cons_succ];exact setAll_step (v.set i.toNat x) is xs j (by simpa using h1) (by simpa using h2)
theorem setAll_take : ∀ (v is xs:List Int),is.length≤xs.length→setAll v is (xs.take is.length)=setAll v is xs
 | v,[],xs,_=>by cases xs<;>rfl
 | v,i::is,[],h=>absurd h (by simp)
 | v,i::is,x::xs,h=>by
  simp only [List.length_cons,List.take_succ_cons,setAll];exact setAll_take _ is xs (by simpa using h)
theorem inR_at {n:Nat} {l:List Int} (h:inR n l=true) {j:Nat} (hj:j<l.length) : ∃ m:Nat,l[j]=(m:Int)∧m<n:=by
 simp only [inR,List.all_eq_true,Bool.and_eq_true,decide_eq_true_eq] at h;obtain ⟨h1,h2⟩:=h _ (List.getElem_mem hj);exact ⟨l[j].toNat,by omega,by omega⟩
theorem inR_in {n:Nat} {l:List Int} (h:inR n l=true) : ∀ i∈l,Ss.InR n i:=by
 simp only [inR,List.all_eq_true,Bool.and_eq_true,decide_eq_true_eq] at h;exact h
end Ev
namespace Go.Vw
open Go.Proofs Go.RowKit
theorem set_vu (v:List Int) (m:Nat) (y:Int):(v.map vu).set m (.int .u64 y)=(v.set m y).map vu:=by rw [List.map_set]; rfl
theorem look_fix {f:Nat→Nat} {p:Nat→Bool} (h : ∀ o,p o=true→f o=o) : ∀ (σ:Fr),idsF p σ=true → ∀ t,σ.look t=(σ.look t).ren f
 | [],_,t=>by simp [Fr.look,V.ren]
 | (k,x)::r,hx,t=>by
  simp only [idsF,Bool.and_eq_true] at hx;simp only [Fr.look];split
  ·exact (We h x hx.1).symm
  ·exact look_fix h r hx.2 t
theorem own_reach {N:Nat} {σ:Fr} {S:Store} {P:Ev.Prog} {s:Ev.State} {o g l:Nat} {d e:Int} {w:List (Option (Nat × List V))} (hwf:S.Wf) (hr:RunAt S P s o g l d e) (hw : ∀ c∈w, ∀ x,c=some x→V.idsL (fun i=>decide (i<S.nx+w.length)) x.2=true) (hσ:idsF (fun i=>decide (i<S.nx+w.length)) σ=true) :
  Reach N S.nx σ (St S [] w) σ (ownS S P s o g l d e (w++[some (1,s.log.map vu)]) w.length) :=
 Reach.ren (own_ren hwf hr hw) (look_fix (fun o ho=>renP_lt (of_decide_eq_true ho)) σ hσ)
theorem vcall_useE {P:Program} {Z:ZZ} {σ:Fr} {S:Store} {K:Fr→Store→Prop} {d:Option Nat} {f:FuncId} {args:List Arg} {xs:List V} {r:List CO} {X:V} (h:YJ P Z.z0 f xs X) (ha:args.map (ev σ)=xs) (H:jB P (some Z) r K (σ.put d X) S) (he:Z.early d=true:=by rfl) (hw:wrcL Z.es d=false:=by rfl):jB P (some Z) (⟨d,none, .call f args⟩::r) K σ S:=by
 rw [KJ,ha];show zH P (some Z) d f xs S _;simp only [zH];rw [if_neg (by rw [hw]; decide)];refine ⟨X, ?_,H⟩;rw [he];exact h
end Go.Vw
namespace Ev
structure FnB (f:Ss.Fn):Prop where
 types:f.types.length≤2048
 pars : ∀ b∈f.blocks,b.params.length≤256
 code : ∀ b∈f.blocks,b.code.length≤4096
 ins : ∀ b∈f.blocks, ∀ x∈b.code,x.Fits∧x.args.length≤4096∧x.outs.length≤4096∧(x.op=16→x.n<64)
 args : ∀ b∈f.blocks,b.term.args.length≤4096
 to : ∀ b∈f.blocks,b.term.to.length≤4096 ∧ ∀ x∈b.term.to,x.args.length≤4096
 len:f.blocks.length≤256
theorem fn_b {e:Ss.Env} {f:Ss.Fn} (hf:f.Fits) (he:e.right=true) (h:Ss.check e f=true):FnB f:=by
 obtain ⟨ds,hds,hok⟩:=fn_ok hf h;obtain ⟨h1,_⟩:=Ss.check_spec h;simp only [Ss.checkHead,Ss.kinds,Bool.and_eq_true,decide_eq_true_eq,List.all_eq_true] at h1;have hsm:=(Ss.small_iff f).1 h1.1.1.1.1.2;have hB : ∀ b∈f.blocks,b.term.to.length≤4096∧b.term.args.length≤4096∧(∀ x∈b.code,x.args.length≤4096∧x.outs.length≤4096) ∧ ∀ x∈b.term.to,x.args.length≤4096:=fun b hb=>by
  have:=hsm.2.1 b hb;simp only [Ss.Block.small,Ss.Ins.small,Ss.Edge.small,Bool.and_eq_true,decide_eq_true_eq,List.all_eq_true] at this;exact ⟨this.1.1.1.2,this.1.1.2,this.1.2,this.2⟩
 refine ⟨h1.1.1.2.1,fun b hb=>h1.2 b hb,fun b hb => ?_,fun b hb x hx=>⟨(hf.2.2.2 b hb).2.1.2 x hx,((hB b hb).2.2.1 x hx).1,((hB b hb).2.2.1 x hx).2,fun ho => ?_⟩,fun b hb=>(hB b hb).2.1,fun b hb=>⟨(hB b hb).1,(hB b hb).2.2.2⟩,h1.1.1.1.2⟩
 ·obtain ⟨i,hi⟩:=List.mem_iff_getElem?.1 hb;exact (hok.blocks i b hi).len
 ·obtain ⟨i,hi⟩:=List.mem_iff_getElem?.1 hb;obtain ⟨k,hk⟩:=List.mem_iff_getElem?.1 hx;have:=Ss.checkCode_at (hok.blocks i b hi).code hk;simp only [Ss.insOk,Bool.and_eq_true] at this;have hfo:=this.1.1.1;rw [ho] at hfo;simp only [Ss.form] at hfo;simp only [Ss.Env.right,Bool.and_eq_true,decide_eq_true_eq] at he;have:=he.1.1.1.2;split at hfo
  ·omega
  ·split at hfo
   ·omega
   ·split at hfo
    ·omega
    ·simp only [if_true] at hfo;split at hfo
     ·omega
     ·cases hfo
end Ev
namespace Go.Vw
open Go.Proofs Go.RowKit
attribute [-simp] List.map_set
theorem rep_vu (n:Nat):List.replicate n (V.int .u64 0)=(List.replicate n (0:Int)).map vu:=by simp [vu]
theorem NBlocks_v (O:Ev.Ops) (hO:OpsV O) (hOk:Ev.OpsOk O) (P:Ev.Prog) (hP:Ev.RightP P) (N d:Nat) (hd:d≤16) (hcalls : ∀ M<N,CallOk P (Ev.callG P (Ev.blocksF O P M) d) d):BlocksOk P (Ev.blocksF O P N d) d:=by
 intro f args s r S o g l hfm hs ha hal hr hf;have hR:=hr;obtain ⟨i0,hi0⟩:=List.mem_iff_getElem?.1 hfm;obtain ⟨f1,f2,f3⟩:=hP.fns i0 f hi0;obtain ⟨bT,bP,bC,bI,bA,bE,bL⟩:=Ev.fn_b f1 hP.env f2;have hPf : ∀ f∈P.fns,f.Fits:=fun f hf=>by
  obtain ⟨i,hi⟩:=List.mem_iff_getElem?.1 hf;exact (hP.fns i f hi).1
 have hkeep:=fun M=>Ev.callF_keep hOk hPf M d
 have hkeepB:=fun M=>Ev.blocks_keep hOk hPf M d
 clear hi0 f2 f3 hPf;obtain ⟨⟨fi,fo⟩,ts,bs⟩:=f;simp only at bT bP bC bI bA bE bL;have e1:jJ ⟨⟨fi,fo⟩,ts,bs⟩ = .agg [vl vint fi,vl vint fo,vl vint ts,vl je bs]:=rfl;rw [e1];have hb8:ts.length*8≤140737488355328:=by omega
 have hb1:ts.length≤140737488355328:=by omega
 refine QB (c:=jc Tryz.f100) Tryz.func100 Tryz.ntmps100 fun hwf=>?_
 have on:=jx hwf hr.obj;have gn:=jx hwf hr.glob;have ln:=jx hwf hr.log;have h4:=hr.og;have h5:=hr.ol;have h6:=hr.gl;have oo:=fun u l => @jm S u l o on
 have updo:=fun u l c => @qN S u l c o on
 have gto:=fun ks=>qy (n:=S.nx) (o:=o) ks on
 have gtg:=fun ks=>qy (n:=S.nx) (o:=g) ks gn
 have gpo:=fun ks=>za (n:=S.nx) (o:=o) ks on
 have gpg:=fun ks=>za (n:=S.nx) (o:=g) ks gn
 refine QT ?_;refine QY ?_;refine QH 4 0 ?_;refine QT ?_;refine QY ?_ (r:=by conv=>lhs;simp[QV,hb8,hb1]);refine QO [0,2,4,7] ?_;rw [rep_vu];obtain ⟨v0,hv0⟩ : ∃ v0,v0=List.replicate ts.length (0:Int):=⟨_,rfl⟩
 rw [←hv0];refine Zr [1] hwf (by decide) (by simp [jk,jn,gto,gtg,gpo,gpg]) (by conv=>lhs; simp [jk,jn,gto,gtg,gpo,gpg]) (by conv=>lhs; simp [jk,jn,gto,gtg,gpo,gpg]) (by conv=>lhs; simp [jk,jn,gto,gtg,gpo,gpg]) ?_;refine jF (own_reach (w:=[some (1,v0.map vu)]) hwf hR ?_ ?_) ?_
 ·intro c hc x hx;rw [List.mem_singleton] at hc;subst hc
  cases hx
  exact jn _ _
 ·simp [idsF,on,lid];omega
 simp only [List.cons_append,List.nil_append,List.length_cons,List.length_nil]
 repeat first|refine QG ?_|refine QY ?_
 refine QT ?_;refine jd [0,2,4,7,8] rfl (fun c σ S' => ∃ (v:List Int) (k:Nat) (ar:List Int) (s2:Ev.State),c≤N∧v.length=ts.length∧(∀ y∈v,Ev.U64 y)∧(∀ y∈ar,Ev.U64 y)∧ar.length≤4096∧Ok s2∧Ev.blocksF O P c d ⟨⟨fi,fo⟩,ts,bs⟩ v k ar s2=some r∧σ=[(0, .ptr o 0),(2,vl vu ar),(4,(V.agg [vl vint fi,vl vint fo,vl vint ts,vl je bs]).ref),(7, .slice (lid S.nx 0) 0 v.length),(8,vnat k)]∧S'=ownS S P s2 o g l d 0 [some (1,v.map vu),some (1,s2.log.map vu)] 1) N ?_ ?_
 ·exact ⟨v0,0,args,s,Nat.le_refl _,by simp [hv0],(fun y hy=>by rw [hv0] at hy; rw [List.eq_of_mem_replicate hy]; exact Ev.u64_0),ha,hal,hs,by rw [hv0]; exact hf,by simp [Fr.only,Fr.look,hv0],rfl⟩
 clear hs ha hal hr hf;rintro c σ T ⟨v,k,ar,s2,hcN,hvl,hvu,hau,hal,hs,hf,rfl,rfl⟩
 cases c with
 | zero=>cases hf
 | succ M =>
 rw [Ev.blocksF] at hf
 cases hb:bs[k]? with
 | none=>rw [hb] at hf; cases hf
 | some b =>
 rw [hb] at hf;simp only at hf;split at hf
 rotate_left
 ·cases hf
 rename_i hpar;obtain ⟨hpi,hpl⟩:=hpar;obtain ⟨hkl,hbk⟩:=List.getElem?_eq_some_iff.1 hb;have hbm:=List.mem_of_getElem? hb;have hbP:=bP b hbm;have hbC:=bC b hbm;have hbI:=bI b hbm;have hbA:=bA b hbm;have hbE:=bE b hbm;clear hb hbm bP bC bI bA bE hb8 hb1 e1 f1;obtain ⟨ps,code,⟨tk,ta,tt,tz⟩⟩:=b;simp only at hf hpi hpl hbP hbC hbI hbA hbE;simp only [ownS,runC]
 repeat first|refine QG ?_|refine QY ?_ (r:=by conv=>lhs;simp[QV,hkl,hbk])
 refine QH 9 2 ?_;refine QT ?_;refine jd [0,2,4,7,9,10] rfl (fun c σ S' => ∃ (j:Nat) (w:List Int),j≤ps.length∧c=ps.length-j∧w=Ev.setAll v (ps.take j) (ar.take j)∧w.length=v.length∧σ=[(0, .ptr o 0),(2,vl vu ar),(4,(V.agg [vl vint fi,vl vint fo,vl vint ts,vl je bs]).ref),(7, .slice (lid S.nx 0) 0 w.length),(9,(V.agg [vl vint ps,vl jp code,vint tk,vint ta,vl ji tt,vl vint tz]).ref),(10,vnat j)]∧S'=St S [(o,some (14,[vl jl P.env.sigs,vint P.env.imports,vl vint P.env.globals,vl V.bool P.env.muts, .bool P.env.mem,vl jJ P.fns,vl vby s2.mem,vint s2.most, .slice g 0 s2.globals.length,vint s2.fuel,vl vu s2.input, .slice (lid S.nx 1) 0 s2.log.length,vint d,vint 0])),(g,some (1,s2.globals.map vu)),(l,none)] [some (1,w.map vu),some (1,s2.log.map vu),none]) ps.length ?_ ?_
 ·exact ⟨0,v,Nat.zero_le _,rfl,by simp [Ev.setAll],rfl,by simp [Fr.only,Fr.look],by simp⟩
 ·rintro c σ T ⟨j,w,hj,rfl,hw,hwl,rfl,rfl⟩
  by_cases hjp:j<ps.length
  ·have hjw:=jh hjp (by omega);obtain ⟨m,hm,hml⟩:=Ev.inR_at hpi hjp;have hja:j<ar.length:=by omega
   obtain ⟨y,hy⟩ : ∃ y,ar[j]=y:=⟨_,rfl⟩
   have hstep:=Ev.setAll_step v ps ar j hjp hja;rw [←hw,hm,hy,Int.toNat_natCast] at hstep;have hmw:m<w.length:=by omega
   have hsv:=set_vu w m y
   repeat first|refine QG ?_|refine QY ?_ (r:=by conv=>lhs;simp[QV,hjp])
   refine QT ?_;refine QJ (YM) (YM) [34,35,37,38,41,42,43] ?_ (hz:=Jj) (r:=by conv=>lhs; simp [QV,hjp,hm,hja,hy,hmw]);refine Jq rfl (by conv=>lhs; simp [QV,hjp,hm,hja,hy,hmw,hsv]) (Jj) ?_;refine QN ?_
   repeat first|refine QG ?_|refine QY ?_ (r:=by conv=>lhs;simp[QV,hjw])
   show jy _ _ _ _ _ _ _;exact again ⟨Nat.sub_lt_sub_left hjp (Nat.lt_succ_self j),j+1,w.set m y,hjp,rfl,hstep.symm,by simp [hwl],by simp [Fr.only,Fr.look],rfl⟩
  ·have hje:j=ps.length:=by omega
   subst hje;rw [List.take_length,Ev.setAll_take _ _ _ hpl] at hw;rw [←hw] at hf;have hwu : ∀ y∈w,Ev.U64 y:=by rw [hw]; exact Ev.setAll_u64 _ _ _ hvu hau
   clear hw hpi hpl hvu hau hal hbP
   cases hQ:Ev.codeF O (Ev.callG P (Ev.blocksF O P M) d) code w s2 with
   | none=>rw [hQ] at hf; cases hf
   | some q =>
   obtain ⟨vE,sE,er⟩:=q;rw [hQ] at hf;simp only at hf
   repeat first|refine QG ?_|refine QY ?_ (r:=by conv=>lhs;simp[QV,hjp])
   refine QO [0,4,7,9,11] ?_;refine Zr [0,1] hwf (by decide) (by simp [jk,jn,gto,gtg,gpo,gpg]) (by conv=>lhs; simp [jk,jn,gto,gtg,gpo,gpg]) (by conv=>lhs; simp [jk,jn,gto,gtg,gpo,gpg]) (by conv=>lhs; simp [jk,jn,gto,gtg,gpo,gpg]) ?_;refine QT ?_;refine jd [0,4,7,9,11] rfl (fun c σ S' => ∃ (j:Nat) (w:List Int) (s3:Ev.State),j≤code.length∧c=code.length-j∧(∀ y∈w,Ev.U64 y)∧w.length=v.length∧Ok s3∧Ev.codeF O (Ev.callG P (Ev.blocksF O P M) d) (code.drop j) w s3=some (vE,sE,er)∧σ=[(0, .ptr o 0),(4,(V.agg [vl vint fi,vl vint fo,vl vint ts,vl je bs]).ref),(7, .slice (lid S.nx 0) 0 w.length),(9,(V.agg [vl vint ps,vl jp code,vint tk,vint ta,vl ji tt,vl vint tz]).ref),(11,vnat j)]∧S'=St S [(o,some (14,[vl jl P.env.sigs,vint P.env.imports,vl vint P.env.globals,vl V.bool P.env.muts, .bool P.env.mem,vl jJ P.fns,vl vby s3.mem,vint s3.most, .slice g 0 s3.globals.length,vint s3.fuel,vl vu s3.input, .slice (lid S.nx 1) 0 s3.log.length,vint d,vint 0])),(g,some (1,s3.globals.map vu)),(l,none)] [some (1,w.map vu),some (1,s3.log.map vu)]) code.length ?_ ?_
   ·exact ⟨0,w,s2,Nat.zero_le _,rfl,hwu,hwl,hs,hQ,by simp [Fr.only,Fr.look],by simp⟩
   clear hs hwu hwl hQ;rintro c σ T ⟨j,w,s3,hj,rfl,hwu,hwl,hs,hQ,rfl,rfl⟩
   by_cases hjp:j<code.length
   ·have hjw:=jh hjp (by omega);rw [List.drop_eq_getElem_cons hjp,Ev.codeF] at hQ;obtain ⟨x,hx⟩ : ∃ x,code[j]=x:=⟨_,rfl⟩
    rw [hx] at hQ;obtain ⟨xF,xA,xO,xC⟩:=hbI x (by rw [←hx]; exact List.getElem_mem hjp);split at hQ
    rotate_left
    ·cases hQ
    rename_i hin
    cases h1:Ev.oneF O (Ev.callG P (Ev.blocksF O P M) d) x (Ev.valsI w x.args) s3 with
    | none=>rw [h1] at hQ; cases hQ
    | some q =>
    obtain ⟨out,s4,e1⟩:=q;rw [h1] at hQ;simp only at hQ;obtain ⟨hs4,hou⟩:=Ev.one_keep hOk (hkeep M) xF.2.1 (Ev.vals_u64 hwu _) (by rw [Ev.vals_len]; omega) hs h1;simp only at hs4 hou;have hval:=zF (ownS S P s3 o g l d 0 [some (1,w.map vu),some (1,s3.log.map vu),none] 1) (lid S.nx 0) w x.args (by simp [ownS,ju]) (by omega) (Ev.inR_in hin);have hat:RunAt (ownS S P s3 o g l d 0 [some (1,w.map vu),some (1,s3.log.map vu),none] 1) P s3 o g (lid S.nx 1) d 0:=own_at on gn ln h4 h5 h6 rfl;have hone:=NOne_v O hO P _ ⟨⟨fi,fo⟩,ts,bs⟩ x _ s3 o g (lid S.nx 1) d _ _ (hcalls M (by omega)) hs xF (Ev.vals_u64 hwu _) (by rw [Ev.vals_len]; omega) xC hat h1;have hc:=Zb hat (ids_vu out) hone;rw [post_own on gn ln h4 h5 h6] at hc;have hop : ∃ a b c d,x=⟨a,b,c,d⟩:=⟨_,_,_,_,rfl⟩
    repeat first|refine QG ?_|refine QY ?_ (r:=by conv=>lhs;simp[QV,hjp,hx])
    refine QH 12 2 ?_;refine QT ?_;refine QJ (YM) (YM) [57,58,60,61,62,20063] ?_ (hz:=Jj) (r:=by conv=>lhs; simp [QV,hjp]);refine vcall_useE hval rfl ?_;refine QZ ?_;refine jbE rfl (hc) (by rfl) (by rfl) ?_ ?_;exact Jj;simp only [ownS,runC,List.set_cons_succ,List.set_cons_zero,List.cons_append,List.nil_append,List.length_cons,List.length_nil,Nat.zero_add,Nat.reduceAdd];refine QW ?_
    by_cases he1:e1=0
    ·subst he1;rw [if_neg (by decide)] at hQ;split at hQ
     rotate_left
     ·cases hQ
     rename_i hoo;obtain ⟨hoi,hol⟩:=hoo
     repeat first|refine QG ?_|refine QY ?_ (r:=by conv=>lhs;simp[QV,oo])
     refine QT ?_;refine jd [0,4,7,9,11,12,13,14] rfl (fun c σ S' => ∃ (i:Nat) (w2:List Int),i≤x.outs.length∧c=x.outs.length-i∧w2=Ev.setAll w (x.outs.take i) (out.take i)∧w2.length=w.length∧σ=[(0, .ptr o 0),(4,(V.agg [vl vint fi,vl vint fo,vl vint ts,vl je bs]).ref),(7, .slice (lid S.nx 0) 0 w2.length),(9,(V.agg [vl vint ps,vl jp code,vint tk,vint ta,vl ji tt,vl vint tz]).ref),(11,vnat j),(12,(V.agg [vint x.op,vu x.n,vl vint x.args,vl vint x.outs]).ref),(13,vl vu out),(14,vnat i)]∧S'=St S [(o,some (14,[vl jl P.env.sigs,vint P.env.imports,vl vint P.env.globals,vl V.bool P.env.muts, .bool P.env.mem,vl jJ P.fns,vl vby s4.mem,vint s4.most, .slice g 0 s4.globals.length,vint s4.fuel,vl vu s4.input, .slice (lid S.nx 3) 0 s4.log.length,vint d,vint 0])),(g,some (1,s4.globals.map vu)),(l,none)] [some (1,w2.map vu),none,none,some (1,s4.log.map vu)]) x.outs.length ?_ ?_
     ·exact ⟨0,w,Nat.zero_le _,rfl,by simp [Ev.setAll],rfl,by simp [Fr.only,Fr.look],by simp⟩
     ·rintro c σ T ⟨i,w2,hi,rfl,hw,hwl2,rfl,rfl⟩
      by_cases hip:i<x.outs.length
      ·have hiw:=jh hip (by omega);obtain ⟨m,hm,hml⟩:=Ev.inR_at hoi hip;have hia:i<out.length:=by omega
       obtain ⟨y,hy⟩ : ∃ y,out[i]=y:=⟨_,rfl⟩
       have hstep:=Ev.setAll_step w x.outs out i hip hia;rw [←hw,hm,hy,Int.toNat_natCast] at hstep;have hmw:m<w2.length:=by omega
       have hsv:=set_vu w2 m y
       repeat first|refine QG ?_|refine QY ?_ (r:=by conv=>lhs;simp[QV,hip])
       refine QT ?_;refine QJ (YM) (YM) [77,78,80,81,84,85,86] ?_ (hz:=Jj) (r:=by conv=>lhs; simp [QV,hip,hm,hia,hy,hmw]);refine Jq rfl (by conv=>lhs; simp [QV,hip,hm,hia,hy,hmw,hsv]) (Jj) ?_;refine QN ?_
       repeat first|refine QG ?_|refine QY ?_ (r:=by conv=>lhs;simp[QV,hiw])
       show jy _ _ _ _ _ _ _;exact again ⟨Nat.sub_lt_sub_left hip (Nat.lt_succ_self i),i+1,w2.set m y,hip,rfl,hstep.symm,by simp [hwl2],by simp [Fr.only,Fr.look],rfl⟩
      ·have hie:i=x.outs.length:=by omega
       subst hie;rw [List.take_length,Ev.setAll_take _ _ _ hol] at hw;rw [←hw] at hQ;have hwu2 : ∀ y∈w2,Ev.U64 y:=by rw [hw]; exact Ev.setAll_u64 _ _ _ hwu hou
       repeat first|refine QG ?_|refine QY ?_ (r:=by conv=>lhs;simp[QV,hip,hjw])
       refine qo [0,3] (by conv=>lhs; simp [Fr.only]) hwf (by decide) (by simp [jk,jn,gto,gtg,gpo,gpg]) (by conv=>lhs; simp [jk,jn,gto,gtg,gpo,gpg]) (by conv=>lhs; simp [jk,jn,gto,gtg,gpo,gpg]) (by conv=>lhs; simp [jk,jn,gto,gtg,gpo,gpg]) ⟨?_,j+1,w2,s4,hjp,rfl,hwu2,by omega,hs4,hQ,by simp [Fr.only,Fr.look],by simp⟩;omega
    ·rw [if_pos he1] at hQ
     cases hQ
     rw [if_pos he1] at hf
     cases hf
     repeat first|refine QG ?_|refine QY ?_ (r:=by conv=>lhs;simp[QV,oo,he1])
     exact own_nil (P:=P) (d:=d) (e:=er) (w:=[some (1,w.map vu),none,none,some (1,sE.log.map vu)]) (k:=3) (s:=sE) hwf on gn ln h4 h5 h6 rfl
   ·have hje:j=code.length:=by omega
    subst hje;rw [List.drop_length,Ev.codeF] at hQ
    cases hQ
    rw [if_neg (by decide)] at hf;have htt:=hbE.1
    by_cases k4:tk=4
    ·rw [if_pos k4] at hf;split at hf
     rotate_left
     ·cases hf
     rename_i hti
     cases hf
     subst k4
     repeat first|refine QG ?_|refine QY ?_ (r:=by conv=>lhs;simp[QV,hjp])
     refine QT ?_;refine QP ?_;refine jO rfl (zF _ (lid S.nx 0) vE tz (by simp [ju]) (by omega) (Ev.inR_in hti) _ (Store.sub_refl _)) ?_;rintro X T ⟨rfl,rfl⟩;refine QW ?_
     repeat first|refine QG ?_|refine QY ?_
     exact own_end (P:=P) (d:=d) (e:=0) (out:=Ev.valsI vE tz) (w:=[some (1,vE.map vu),some (1,sE.log.map vu),some (4,[vint 4,vint ta,vl ji tt,vl vint tz])]) (k:=1) (s:=sE) hwf on gn ln h4 h5 h6 rfl
    rw [if_neg k4] at hf
    by_cases k5:tk=5
    ·rw [if_pos k5] at hf
     cases hf
     subst k5
     repeat first|refine QG ?_|refine QY ?_ (r:=by conv=>lhs;simp[QV,hjp,oo,updo,h5,h6])
     exact own_nil (P:=P) (d:=d) (e:=32) (w:=[some (1,vE.map vu),some (1,sE.log.map vu),some (4,[vint 5,vint ta,vl ji tt,vl vint tz])]) (k:=1) (s:=sE) hwf on gn ln h4 h5 h6 rfl
    rw [if_neg k5] at hf
    cases hpk:Ev.pickF vE ⟨tk,ta,tt,tz⟩ with
    | none=>rw [hpk] at hf; cases hf
    | some kk =>
    rw [hpk] at hf;simp only at hf
    cases hed0:tt[kk]? with
    | none=>rw [hed0] at hf; cases hf
    | some ed =>
    rw [hed0] at hf;simp only at hf;split at hf
    rotate_left
    ·cases hf
    rename_i hee;obtain ⟨hei,he0⟩:=hee;obtain ⟨hkk,hed⟩:=List.getElem?_eq_some_iff.1 hed0;have heA:=hbE.2 ed (by rw [←hed]; exact List.getElem_mem hkk);have heA:ed.args.length≤1048576:=by omega
    obtain ⟨n2,heto⟩ : ∃ n2:Nat,ed.to=(n2:Int):=⟨ed.to.toNat,by omega⟩
    rw [heto,Int.toNat_natCast] at hf;clear hed0 hbE hbI hbC hbA;simp only [Ev.pickF] at hpk
    by_cases k2:tk=2
    ·rw [if_pos k2] at hpk;split at hpk
     rotate_left
     ·cases hpk
     rename_i hai;obtain ⟨m,hm,hmw⟩:=Ev.inR_at hai (j:=0) (by simp);simp only [List.getElem_cons_zero] at hm;subst hm;obtain ⟨y,hy⟩ : ∃ y,vE[m]=y:=⟨_,rfl⟩
     rw [Int.toNat_natCast,List.getD_eq_getElem?_getD,List.getElem?_eq_getElem hmw,Option.getD_some,hy] at hpk;subst k2
     by_cases hy0:y=0
     ·rw [if_pos hy0] at hpk
      cases hpk
      subst hy0;have hix1 : ∀ S',jD 2 S' (vl ji tt) (.int .i64 1)=some (.ref (ji ed)):=fun S'=>zC (enc:=ji) (l:=tt) (i:=1) rfl (by rw [List.getElem?_eq_getElem hkk,hed])
      repeat first|refine QG ?_|refine QY ?_ (r:=by conv=>lhs;simp[QV,hjp,hmw,hy,hix1])
      refine QT ?_;refine QP ?_ (r:=by conv=>lhs;simp[QV,hkk,hed,hix1]);refine jO rfl (zF _ (lid S.nx 0) vE ed.args (by simp [ju]) heA (Ev.inR_in hei) _ (Store.sub_refl _)) ?_;rintro X T ⟨rfl,rfl⟩;refine QW ?_
      repeat first|refine QG ?_|refine QY ?_ (r:=by conv=>lhs;simp[QV,hkk,hed,heto,hix1])
      refine qo [0,1] (by conv=>lhs; simp [Fr.only]) hwf (by decide) (by simp [jk,jn,gto,gtg,gpo,gpg]) (by conv=>lhs; simp [jk,jn,gto,gtg,gpo,gpg]) (by conv=>lhs; simp [jk,jn,gto,gtg,gpo,gpg]) (by conv=>lhs; simp [jk,jn,gto,gtg,gpo,gpg]) ⟨?_,vE,n2,Ev.valsI vE ed.args,sE,by omega,by omega,hwu,Ev.vals_u64 hwu _,by rw [Ev.vals_len]; omega,hs,hf,by simp [Fr.only,Fr.look],by simp [ownS,runC]⟩;omega
     ·rw [if_neg hy0] at hpk
      cases hpk
      repeat first|refine QG ?_|refine QY ?_ (r:=by conv=>lhs;simp[QV,hjp,hmw,hy,hy0])
      refine QT ?_;refine QP ?_ (r:=by conv=>lhs;simp[QV,hkk,hed]);refine jO rfl (zF _ (lid S.nx 0) vE ed.args (by simp [ju]) heA (Ev.inR_in hei) _ (Store.sub_refl _)) ?_;rintro X T ⟨rfl,rfl⟩;refine QW ?_
      repeat first|refine QG ?_|refine QY ?_ (r:=by conv=>lhs;simp[QV,hkk,hed,heto])
      refine qo [0,1] (by conv=>lhs; simp [Fr.only]) hwf (by decide) (by simp [jk,jn,gto,gtg,gpo,gpg]) (by conv=>lhs; simp [jk,jn,gto,gtg,gpo,gpg]) (by conv=>lhs; simp [jk,jn,gto,gtg,gpo,gpg]) (by conv=>lhs; simp [jk,jn,gto,gtg,gpo,gpg]) ⟨?_,vE,n2,Ev.valsI vE ed.args,sE,by omega,by omega,hwu,Ev.vals_u64 hwu _,by rw [Ev.vals_len]; omega,hs,hf,by simp [Fr.only,Fr.look],by simp [ownS,runC]⟩;omega
    rw [if_neg k2] at hpk
    by_cases k3:tk=3
    ·rw [if_pos k3] at hpk;split at hpk
     rotate_left
     ·cases hpk
     rename_i hai;obtain ⟨hai,hl0⟩:=hai;obtain ⟨m,hm,hmw⟩:=Ev.inR_at hai (j:=0) (by simp);simp only [List.getElem_cons_zero] at hm;subst hm;obtain ⟨y,hy⟩ : ∃ y,vE[m]=y:=⟨_,rfl⟩
     have hyu:Ev.U64 y:=by rw [←hy]; exact hwu _ (List.getElem_mem hmw)
     rw [Int.toNat_natCast,List.getD_eq_getElem?_getD,List.getElem?_eq_getElem hmw,Option.getD_some,hy] at hpk;subst k3;obtain ⟨q,hq⟩ : ∃ q:Nat,tt.length=q+1:=⟨tt.length-1,by omega⟩
     have hw1:IntKind.i64.wrap ((tt.length:Int)-1)=(q:Int):=by rw [hq]; rw [show ((q+1:Nat):Int)-1=(q:Int) by omega]; exact wrap_i64 (by omega) (by omega)
     have hw2:IntKind.u64.wrap (q:Int)=(q:Int):=jr (by omega) (by omega);have hq1:tt.length-1=q:=by omega
     rw [hq1] at hpk
     by_cases hyq:y<(q:Int)
     ·rw [if_pos hyq] at hpk;obtain ⟨z,hz⟩ : ∃ z:Nat,y=(z:Int):=⟨y.toNat,by have:=hyu.1; omega⟩
      subst hz;rw [Int.toNat_natCast] at hpk
      cases hpk
      have hw3:IntKind.i64.wrap (kk:Int)=(kk:Int):=wrap_i64 (by omega) (by omega)
      repeat first|refine QG ?_|refine QY ?_ (r:=by conv=>lhs;simp[QV,hjp,hmw,hy,hw1,hw2,hyq,hw3])
      refine QT ?_;refine QP ?_ (r:=by conv=>lhs;simp[QV,hkk,hed]);refine jO rfl (zF _ (lid S.nx 0) vE ed.args (by simp [ju]) heA (Ev.inR_in hei) _ (Store.sub_refl _)) ?_;rintro X T ⟨rfl,rfl⟩;refine QW ?_
      repeat first|refine QG ?_|refine QY ?_ (r:=by conv=>lhs;simp[QV,hkk,hed,heto])
      refine qo [0,1] (by conv=>lhs; simp [Fr.only]) hwf (by decide) (by simp [jk,jn,gto,gtg,gpo,gpg]) (by conv=>lhs; simp [jk,jn,gto,gtg,gpo,gpg]) (by conv=>lhs; simp [jk,jn,gto,gtg,gpo,gpg]) (by conv=>lhs; simp [jk,jn,gto,gtg,gpo,gpg]) ⟨?_,vE,n2,Ev.valsI vE ed.args,sE,by omega,by omega,hwu,Ev.vals_u64 hwu _,by rw [Ev.vals_len]; omega,hs,hf,by simp [Fr.only,Fr.look],by simp [ownS,runC]⟩;omega
     ·rw [if_neg hyq] at hpk
      cases hpk
      repeat first|refine QG ?_|refine QY ?_ (r:=by conv=>lhs;simp[QV,hjp,hmw,hy,hw1,hw2,hyq])
      refine QT ?_;refine QP ?_ (r:=by conv=>lhs;simp[QV,hkk,hed]);refine jO rfl (zF _ (lid S.nx 0) vE ed.args (by simp [ju]) heA (Ev.inR_in hei) _ (Store.sub_refl _)) ?_;rintro X T ⟨rfl,rfl⟩;refine QW ?_
      repeat first|refine QG ?_|refine QY ?_ (r:=by conv=>lhs;simp[QV,hkk,hed,heto])
      refine qo [0,1] (by conv=>lhs; simp [Fr.only]) hwf (by decide) (by simp [jk,jn,gto,gtg,gpo,gpg]) (by conv=>lhs; simp [jk,jn,gto,gtg,gpo,gpg]) (by conv=>lhs; simp [jk,jn,gto,gtg,gpo,gpg]) (by conv=>lhs; simp [jk,jn,gto,gtg,gpo,gpg]) ⟨?_,vE,n2,Ev.valsI vE ed.args,sE,by omega,by omega,hwu,Ev.vals_u64 hwu _,by rw [Ev.vals_len]; omega,hs,hf,by simp [Fr.only,Fr.look],by simp [ownS,runC]⟩;omega
    ·rw [if_neg k3] at hpk
     cases hpk
     repeat first|refine QG ?_|refine QY ?_ (r:=by conv=>lhs;simp[QV,hjp,k4,k5,k2,k3])
     refine QT ?_;refine QP ?_ (r:=by conv=>lhs;simp[QV,hkk,hed]);refine jO rfl (zF _ (lid S.nx 0) vE ed.args (by simp [ju]) heA (Ev.inR_in hei) _ (Store.sub_refl _)) ?_;rintro X T ⟨rfl,rfl⟩;refine QW ?_
     repeat first|refine QG ?_|refine QY ?_ (r:=by conv=>lhs;simp[QV,hkk,hed,heto])
     refine qo [0,1] (by conv=>lhs; simp [Fr.only]) hwf (by decide) (by simp [jk,jn,gto,gtg,gpo,gpg]) (by conv=>lhs; simp [jk,jn,gto,gtg,gpo,gpg]) (by conv=>lhs; simp [jk,jn,gto,gtg,gpo,gpg]) (by conv=>lhs; simp [jk,jn,gto,gtg,gpo,gpg]) ⟨?_,vE,n2,Ev.valsI vE ed.args,sE,by omega,by omega,hwu,Ev.vals_u64 hwu _,by rw [Ev.vals_len]; omega,hs,hf,by simp [Fr.only,Fr.look],by simp [ownS,runC]⟩;omega
theorem vby_closed (l:List Int):(l.map vby).all V.closed1=true:=by
 rw [List.all_eq_true];intro x hx;obtain ⟨y,_,rfl⟩:=List.mem_map.1 hx
 rfl
theorem zB {b:Nat} {R:V→Store→Prop} {x x':V} {S S':Store} (h:Ghost x S x' S') (k:zO b R x' S'):zO b R x S:=by
 obtain ⟨y,T,hg,hR⟩:=k;exact ⟨y,T,(h.toB b).trans hg,hR⟩
theorem NCopyD_v (s:Ev.State) (h1:s.mem.length≤1048576) (h2:s.globals.length≤1048576) (h3:s.input.length≤1048576) (h4:s.log.length≤1048576) (S:Store) :
  VCalls Tryz.prog 74 [qb s] S (fun x T=>x = .agg [vl vby s.mem,vint s.most, .slice (lid S.nx 0) 0 s.globals.length,vint s.fuel,vl vu s.input, .slice (lid S.nx 1) 0 s.log.length]∧T=St S [] [some (1,s.globals.map vu),some (1,s.log.map vu)]):=by
 obtain ⟨mem,most,glb,fuel,inp,log⟩:=s;simp only at h1 h2 h3 h4 ⊢;have e1:qb ⟨mem,most,glb,fuel,inp,log⟩ = .agg [vl vby mem,vint most,vl vu glb,vint fuel,vl vu inp,vl vu log]:=rfl;rw [e1];have a1:=app_vby mem h1;have a2:=app_vu glb h2;have a3:=app_vu inp h3;have a4:=app_vu log h4;refine qq (c:=jc Tryz.f74) Tryz.func74 rfl (by conv=>lhs; reduce) (by simp [Tryz.ntmps74]) ?_;rw [Tryz.ntmps74];intro hwf;refine QT ?_;refine QY ?_;refine QT ?_;refine QY ?_ (r:=by conv=>lhs;simp[QV,a1]);refine QT ?_;refine QY ?_ (r:=by conv=>lhs;simp[QV,a2]);refine QT ?_;refine QY ?_ (r:=by conv=>lhs;simp[QV,a3]);refine QT ?_;refine QY ?_ (r:=by conv=>lhs;simp[QV,a4]);refine QT ?_;refine QY ?_
 repeat first|refine QG ?_|refine QY ?_
 refine Wx (xs:=[.agg [.slice (lid S.nx 2) 0 mem.length,vint most, .slice (lid S.nx 3) 0 glb.length,vint fuel, .slice (lid S.nx 4) 0 inp.length, .slice (lid S.nx 5) 0 log.length]]) (by simp) ?_;rw [tupV_1];refine zB (Ja (GhostArgs.one [] _ (frz1 (k:=2) (by simp) (by rfl) (vby_closed mem) (by simp)))) ?_;refine zB (Ja (GhostArgs.one [_,_,_,_] _ (frz1 (k:=4) (by simp) (by rfl) (jq vu (fun _=>rfl) inp) (by simp)))) ?_;simp only [List.nil_append,List.cons_append,List.set_cons_succ,List.set_cons_zero];refine done_gc [3,5] hwf (by decide) (by simp [jk,jn]) (by first | (simp [jk,jn]; done) | (simp [jk,jn]; rfl)) (by first | (simp; done) | (simp; exact ⟨rfl,rfl⟩)) ⟨rfl,rfl⟩
theorem calls_ok {O:Ev.Ops} (hO:OpsV O) (hOk:Ev.OpsOk O) {P:Ev.Prog} (hP:Ev.RightP P) (N:Nat) : ∀ d,d≤16→CallOk P (Ev.callG P (Ev.blocksF O P N) d) d:=by
 induction N using Nat.strongRecOn with
 | ind N ih =>
  intro d hd;refine NCall_v P hP _ d hd fun h => ?_
  have:=NBlocks_v O hO hOk P hP N (d+1) (by omega) fun M hM=>ih M hM (d+1) (by omega)
  exact this
def Jn (P:Ev.Prog):V := .agg [vl jl P.env.sigs,vint P.env.imports,vl vint P.env.globals,vl V.bool P.env.muts, .bool P.env.mem,vl jJ P.fns]
theorem post_sink {S:Store} {P:Ev.Prog} {s:Ev.State} {d e:Int} {c0 c1 c2 c3:Option (Nat × List V)} :
  JF (St S [] [c0,c1,c2,c3]) P s (lid S.nx 3) (lid S.nx 1) (lid S.nx 2) d e=St S [] [c0,some (1,s.globals.map vu),none,some (14,runC P s (lid S.nx 1) (lid S.nx 4) d e),some (1,s.log.map vu)]:=by
 have hn:(St S [] [c0,c1,c2,c3]).nx=S.nx+4:=by simp [jP,lid]
 refine Store.ext' (funext fun i => ?_) (by simp only [JF,jP,hn]; simp [lid]);rw [JF,qD,hn,qD,qD];have hl:lid (S.nx+4) 0=lid S.nx 4:=by simp [lid]
 rw [hl]
 by_cases h1:i<S.nx
 ·have g1:i≠lid S.nx 3:=by simp only [lid]; omega
  have g2:i≠lid S.nx 1:=by simp only [lid]; omega
  have g3:i≠lid S.nx 2:=by simp only [lid]; omega
  simp only [if_pos h1,if_pos (show i<S.nx+4 by omega),uGet,if_neg g1,if_neg g2,if_neg g3]
 ·obtain ⟨j,rfl⟩ : ∃ j,i=S.nx+j:=⟨i-S.nx,by omega⟩
  have e1:S.nx+j-S.nx=j:=by omega
  have e2:S.nx+j-(S.nx+4)=j-4:=by omega
  simp only [if_neg h1,uGet,lid,e1,e2]
  match j with
  | 0=>simp
  | 1=>simp
  | 2=>simp
  | 3=>simp
  | 4=>simp
  | j+5=>simp
theorem NGo_v (O:Ev.Ops) (hO:OpsV O) (hOk:Ev.OpsOk O) (P:Ev.Prog) (hP:Ev.RightP P) (N:Nat) (s:Ev.State) (n:Int) (args:List Int) (r:Ev.Res) (hs:Ok s) (h1:s.mem.length≤1048576) (h2:s.globals.length≤1048576) (h3:s.input.length≤1048576) (h4:s.log.length≤1048576)
  (ha : ∀ x∈args,Ev.U64 x) (hal:args.length≤4096) (hn0:0≤n) (hn1:n<64) (hf:Ev.callF O P N 0 n args s=some r):VPure Tryz.prog 37 [Jn P,qb s,vint n,vl vu args] (.tuple [vl vu (if r.2.2=0 then r.1 else []),qb r.2.1,vint r.2.2]):=by
 intro S;have hcall:=calls_ok hO hOk hP N 0 (by omega);have cft:=fun S'=>NCopyD_v s h1 h2 h3 h4 S'
 obtain ⟨mem,most,glb,fuel,inp,log⟩:=s;have e1:qb ⟨mem,most,glb,fuel,inp,log⟩ = .agg [vl vby mem,vint most,vl vu glb,vint fuel,vl vu inp,vl vu log]:=rfl;simp only [e1] at cft;rw [e1];obtain ⟨out,⟨mem',most',glb',fuel',inp',log'⟩,e⟩:=r;have e2:qb ⟨mem',most',glb',fuel',inp',log'⟩ = .agg [vl vby mem',vint most',vl vu glb',vint fuel',vl vu inp',vl vu log']:=rfl;simp only [e2];have e3:Jn P = .agg [vl jl P.env.sigs,vint P.env.imports,vl vint P.env.globals,vl V.bool P.env.muts, .bool P.env.mem,vl jJ P.fns]:=rfl;rw [e3];refine qq (c:=jc Tryz.f37) Tryz.func37 rfl (by conv=>lhs; reduce) (by simp [Tryz.ntmps37]) ?_;rw [Tryz.ntmps37];intro hwf;refine QT ?_;refine QY ?_;refine QH 4 0 ?_;refine QH 5 1 ?_;refine QK [2] ?_;have cft':=cft (St S [] [some (6,[.nils, .int .i64 0, .nils, .int .i64 0, .nils, .nils])]);have cft2:=cft (St S [] [some (6,[.nils, .int .i64 0, .nils, .int .i64 0, .nils, .nils]),some (14,[.nils, .int .i64 0, .nils, .nils, .bool false, .nils, .nils, .int .i64 0, .nils, .int .i64 0, .nils, .nils, .int .i64 0, .int .i64 0])])
 rw [jP,qx,qx, ←Jp] at cft' cft2;simp only [List.cons_append,List.nil_append,List.length_cons,List.length_nil,Nat.zero_add,Nat.add_zero] at cft' cft2;refine QT ?_;refine JB (St S [] []) (St S [] []) [10015] 2 2 4 [2,3,4,5] [4,2,3,5] rfl (by kernel_rfl) (by conv=>lhs; reduce) (by kernel_rfl) (by decide) (by kernel_rfl) (by kernel_rfl) (by kernel_rfl) (by kernel_rfl) (by kernel_rfl) (by kernel_rfl) (by kernel_rfl) rfl rfl (by kernel_rfl) (JW (by simp [subU,shpU,subL,shpL])) (by conv=>lhs; reduce) (by conv=>lhs; reduce) (by conv=>lhs; reduce) ?_;refine QW ?_;refine ⟨?sm, ?Sm, ?H3, ?H1, ?H2⟩
 case H1 =>
  refine KK rfl (cft') (by rfl) (KC (zm _ _ (by simp [subU])) (by simp [subL])) (JW (by simp [subU,shpU,subL,shpL])) ?_;refine QZ ?_;refine QI ?_;refine QZ ?_;refine QI ?_;refine QW ?_;refine zA [2,3,8,9,10,11] (Eq.trans (b := ?_) ?_ rfl)
  rotate_left
  conv=>lhs; simp [Fr.only,Fr.look]
 case H2 =>
  refine QI ?_;refine QZ ?_;refine KK rfl (cft2) (by rfl) (KC (zm _ _ (by simp [subU])) (by simp [subL])) (JW (by simp [subU,shpU,subL,shpL])) ?_;refine QZ ?_;refine QI ?_;refine QW ?_;exact zT [2,3,8,9,10,11] [0,2,3,1] (by conv=>lhs; simp [Fr.only,Fr.look]) hwf (by decide) (by simp [jk,jn]) (by conv=>lhs; simp [jk,jn]) (by conv=>lhs; simp [jk,jn]) (by conv=>lhs; simp [jk,jn])
 have hat:RunAt (St S [] [some (6,[.nils, .int .i64 0, .nils, .int .i64 0, .nils, .nils]),some (1,glb.map vu),some (1,log.map vu),some (14,runC P ⟨mem,most,glb,fuel,inp,log⟩ (lid S.nx 1) (lid S.nx 2) 0 0)]) P ⟨mem,most,glb,fuel,inp,log⟩ (lid S.nx 3) (lid S.nx 1) (lid S.nx 2) 0 0 :=
  ⟨by simp [ju],by simp [ju],by simp [ju],by simp [lid],by simp [lid],by simp [lid]⟩
 have hc:=Zb hat (ids_vu out) (hcall n args _ _ _ _ _ _ hs ha hal hn0 hn1 hat hf);rw [post_sink] at hc;refine QT ?_;refine QP ?_;refine jO rfl hc ?_;rintro X T ⟨rfl,rfl⟩;simp only [runC];refine QW ?_
 by_cases he:e=0
 ·subst he;simp only [if_true]
  repeat first|refine QG ?_|refine QY ?_
  refine QT ?_;refine QJ (St S [] [none,none,none,some (14,[vl jl P.env.sigs,vint P.env.imports,vl vint P.env.globals,vl V.bool P.env.muts, .bool P.env.mem,vl jJ P.fns,vl vby mem',vint most', .slice (lid S.nx 1) 0 glb'.length,vint fuel',vl vu inp', .slice (lid S.nx 4) 0 log'.length,vint 0,vint 0])]) (St S [] [some (6,[.nils, .int .i64 0, .nils, .int .i64 0, .nils, .nils]),none,none,some (14,[vl jl P.env.sigs,vint P.env.imports,vl vint P.env.globals,vl V.bool P.env.muts, .bool P.env.mem,vl jJ P.fns,vl vby mem',vint most', .slice (lid S.nx 1) 0 glb'.length,vint fuel',vl vu inp', .slice (lid S.nx 4) 0 log'.length,vint 0,vint 0])]) [] ?_ (r:=by conv=>lhs; simp [QV]);refine QI ?_;refine QW ?_
  repeat first|refine QG ?_|refine QY ?_
  refine Wx (xs:=[vl vu out, .agg [vl vby mem',vint most', .slice (lid S.nx 1) 0 glb'.length,vint fuel',vl vu inp', .slice (lid S.nx 4) 0 log'.length],vint 0]) (by simp) ?_;show zO _ _ (.tuple _) _;refine zB (Ghost.tuple [_] [_] (Ja (GhostArgs.one [_,_] _ (frz1 (k:=1) (by simp) (by rfl) (jq vu (fun _=>rfl) glb') (by simp))))) ?_;refine zB (Ghost.tuple [_] [_] (Ja (GhostArgs.one [_,_,_,_,_] _ (frz1 (k:=4) (by simp) (by rfl) (jq vu (fun _=>rfl) log') (by simp))))) ?_;exact jf hwf (GhostB.refl _ _ _) rfl
 ·simp only [if_neg he]
  repeat first|refine QG ?_|refine QY ?_ (r:=by conv=>lhs;simp[QV,he])
  refine QT ?_;refine QJ (St S [] [none,none,none,some (14,[vl jl P.env.sigs,vint P.env.imports,vl vint P.env.globals,vl V.bool P.env.muts, .bool P.env.mem,vl jJ P.fns,vl vby mem',vint most', .slice (lid S.nx 1) 0 glb'.length,vint fuel',vl vu inp', .slice (lid S.nx 4) 0 log'.length,vint 0,vint e])]) (St S [] [some (6,[.nils, .int .i64 0, .nils, .int .i64 0, .nils, .nils]),none,none,some (14,[vl jl P.env.sigs,vint P.env.imports,vl vint P.env.globals,vl V.bool P.env.muts, .bool P.env.mem,vl jJ P.fns,vl vby mem',vint most', .slice (lid S.nx 1) 0 glb'.length,vint fuel',vl vu inp', .slice (lid S.nx 4) 0 log'.length,vint 0,vint e])]) [] ?_ (r:=by conv=>lhs; simp [QV]);refine QI ?_;refine QW ?_
  repeat first|refine QG ?_|refine QY ?_
  refine Wx (xs:=[.nils, .agg [vl vby mem',vint most', .slice (lid S.nx 1) 0 glb'.length,vint fuel',vl vu inp', .slice (lid S.nx 4) 0 log'.length],vint e]) (by simp) ?_;show zO _ _ (.tuple _) _;refine zB (Ghost.tuple [_] [_] (Ja (GhostArgs.one [_,_] _ (frz1 (k:=1) (by simp) (by rfl) (jq vu (fun _=>rfl) glb') (by simp))))) ?_;refine zB (Ghost.tuple [_] [_] (Ja (GhostArgs.one [_,_,_,_,_] _ (frz1 (k:=4) (by simp) (by rfl) (jq vu (fun _=>rfl) log') (by simp))))) ?_;exact jf hwf ((Ghost.tuple [] [_,_] (Ghost.nils_list _)).toB _) rfl
end Go.Vw
