import Derived.Test.YtenhhokhkkfgbaaGreatC36
/- Part of the proof. -/
set_option linter.unusedVariables false
set_option linter.unusedSimpArgs false
set_option maxRecDepth 10000
set_option maxHeartbeats 16000000
namespace Go.Vw
open Go.Proofs Go.RowKit
attribute [-simp] List.map_set
theorem calls_ok {O:Ev.Ops} (hO:OpsV O) (hOk:Ev.OpsOk O) {P:Ev.Prog} (hP:Ev.RightP P) (N:Nat) : ∀ d,d<=16->CallOk P (Ev.callG P (Ev.blocksF O P N) d) d:=by
 induction N using Nat.strongRecOn with
 | ind N ih =>
  intro d hd;refine NCall_v P hP _ d hd fun h => ?_
  have:=NBlocks_v O hO hOk P hP N (d+1) (by omega) fun M hM=>ih M hM (d+1) (by omega)
  exact this
def JD (P:Ev.Prog):V := .agg [vl jm P.env.sigs,vint P.env.imports,vl vint P.env.globals,vl V.bool P.env.muts, .bool P.env.mem,vl jI P.fns]
theorem post_sink {S:Store} {P:Ev.Prog} {s:Ev.State} {d e:Int} {c0 c1 c2 c3:Option (Nat × List V)} :
  JV (St S [] [c0,c1,c2,c3]) P s (lid S.nx 3) (lid S.nx 1) (lid S.nx 2) d e=St S [] [c0,some (1,s.globals.map vu),none,some (14,runC P s (lid S.nx 1) (lid S.nx 4) d e),some (1,s.log.map vu)]:=by
 have hn:(St S [] [c0,c1,c2,c3]).nx=S.nx+4:=by simp [jL,lid]
 refine Store.ext' (funext fun i => ?_) (by simp only [JV,jL,hn]; simp [lid]);rw [JV,qI,hn,qI,qI];have hl:lid (S.nx+4) 0=lid S.nx 4:=by simp [lid]
 rw [hl]
 by_cases h1:i<S.nx
 ·have g1:i≠lid S.nx 3:=by simp only [lid]; omega
  have g2:i≠lid S.nx 1:=by simp only [lid]; omega
  have g3:i≠lid S.nx 2:=by simp only [lid]; omega
  simp only [if_pos h1,if_pos (show i<S.nx+4 by omega),uGet,if_neg g1,if_neg g2,if_neg g3]
 ·obtain ⟨j,rfl⟩ : ∃ j,i=S.nx+j:=⟨i-S.nx,by omega⟩
  have e1:S.nx+j-S.nx=j:=by omega
  have e2:S.nx+j-(S.nx+4)=j-4:=by omega
  simp only [if_neg h1,uGet,lid,e1,e2]
  match j with
  | 0=>simp
  | 1=>simp
  | 2=>simp
  | 3=>simp
  | 4=>simp
  | j+5=>simp
theorem NGo_v (O:Ev.Ops) (hO:OpsV O) (hOk:Ev.OpsOk O) (P:Ev.Prog) (hP:Ev.RightP P) (N:Nat) (s:Ev.State) (n:Int) (args:List Int) (r:Ev.Res) (hs:Ok s) (h1:s.mem.length<=1048576) (h2:s.globals.length<=1048576) (h3:s.input.length<=1048576) (h4:s.log.length<=1048576)
  (ha : ∀ x∈args,Ev.U64 x) (hal:args.length<=4096) (hn0:0<=n) (hn1:n<64) (hf:Ev.callF O P N 0 n args s=some r):bS 53 [JD P,qf s,vint n,vl vu args] (.tuple [vl vu (if r.2.2=0 then r.1 else []),qf r.2.1,vint r.2.2]):=by
 intro S;have hcall:=calls_ok hO hOk hP N 0 (by omega);have cft:=fun S'=>NCopyD_v s h1 h2 h3 h4 S'
 obtain ⟨mem,most,glb,fuel,inp,log⟩:=s;have e1:qf ⟨mem,most,glb,fuel,inp,log⟩ = .agg [vl vby mem,vint most,vl vu glb,vint fuel,vl vu inp,vl vu log]:=rfl;simp only [e1] at cft;rw [e1];obtain ⟨out,⟨mem',most',glb',fuel',inp',log'⟩,e⟩:=r;have e2:qf ⟨mem',most',glb',fuel',inp',log'⟩ = .agg [vl vby mem',vint most',vl vu glb',vint fuel',vl vu inp',vl vu log']:=rfl;simp only [e2];have e3:JD P = .agg [vl jm P.env.sigs,vint P.env.imports,vl vint P.env.globals,vl V.bool P.env.muts, .bool P.env.mem,vl jI P.fns]:=rfl;rw [e3];refine qA (c:=jc Tryz.f53) Tryz.func53 rfl (by conv=>lhs; reduce) (by simp [Tryz.ntmps53]) ?_;rw [Tryz.ntmps53];intro hwf;refine QY ?_;refine QH 4 0 ?_;refine QH 5 1 ?_;refine QK [2] ?_;have cft':=cft (St S [] [some (6,[.nils, .int .i64 0, .nils, .int .i64 0, .nils, .nils])]);have cft2:=cft (St S [] [some (6,[.nils, .int .i64 0, .nils, .int .i64 0, .nils, .nils]),some (14,[.nils, .int .i64 0, .nils, .nils, .bool false, .nils, .nils, .int .i64 0, .nils, .int .i64 0, .nils, .nils, .int .i64 0, .int .i64 0])])
 rw [jL,qG,qG, <-JF] at cft' cft2;simp only [List.cons_append,List.nil_append,aC,aM,bd,Nat.add_zero] at cft' cft2;refine QT ?_;refine JR (St S [] []) (St S [] []) [10015] 2 2 4 [2,3,4,5] [4,2,3,5] rfl (by kernel_rfl) (by conv=>lhs; reduce) (by kernel_rfl) (by decide) (by kernel_rfl) (by kernel_rfl) (by kernel_rfl) (by kernel_rfl) (by kernel_rfl) (by kernel_rfl) (by kernel_rfl) rfl rfl (by kernel_rfl) (Kl (by simp [subU,shpU,subL,shpL])) (by conv=>lhs; reduce) (by conv=>lhs; reduce) (by conv=>lhs; reduce) ?_;refine QW ?_;refine ⟨?sm, ?Sm, ?H3, ?H1, ?H2⟩
 case H1 =>
  refine Kp rfl (cft') (by rfl) (Ks (zl _ _ (by simp [subU])) (by simp [subL])) (Kl (by simp [subU,shpU,subL,shpL])) ?_;refine QZ ?_;refine QI ?_;refine QZ ?_;refine QI ?_;refine QW ?_;refine zM [2,3,8,9,10,11] (Eq.trans (b := ?_) ?_ rfl)
  rotate_left
  conv=>lhs; simp [Fr.only,Fr.look]
 case H2 =>
  refine QI ?_;refine QZ ?_;refine Kp rfl (cft2) (by rfl) (Ks (zl _ _ (by simp [subU])) (by simp [subL])) (Kl (by simp [subU,shpU,subL,shpL])) ?_;refine QZ ?_;refine QI ?_;refine QW ?_;exact Jf [2,3,8,9,10,11] [0,2,3,1] (by conv=>lhs; simp [Fr.only,Fr.look]) hwf (by decide) (by simp [jn,jo]) (by conv=>lhs; simp [jn,jo]) (by conv=>lhs; simp [jn,jo]) (by conv=>lhs; simp [jn,jo])
 have hat:RunAt (St S [] [some (6,[.nils, .int .i64 0, .nils, .int .i64 0, .nils, .nils]),some (1,glb.map vu),some (1,log.map vu),some (14,runC P ⟨mem,most,glb,fuel,inp,log⟩ (lid S.nx 1) (lid S.nx 2) 0 0)]) P ⟨mem,most,glb,fuel,inp,log⟩ (lid S.nx 3) (lid S.nx 1) (lid S.nx 2) 0 0 :=
  ⟨by simp [jv],by simp [jv],by simp [jv],by simp [lid],by simp [lid],by simp [lid]⟩
 have hc:=ZB hat (ids_vu out) (hcall n args _ _ _ _ _ _ hs ha hal hn0 hn1 hat hf);rw [post_sink] at hc;refine QP ?_;refine jK rfl hc ?_;rintro X T ⟨rfl,rfl⟩;simp only [runC];refine QW ?_
 by_cases he:e=0
 ·subst he;simp only [if_true]
  refine bw ?_
  refine QT ?_;refine QJ (St S [] [none,none,none,some (14,[vl jm P.env.sigs,vint P.env.imports,vl vint P.env.globals,vl V.bool P.env.muts, .bool P.env.mem,vl jI P.fns,vl vby mem',vint most', .slice (lid S.nx 1) 0 glb'.length,vint fuel',vl vu inp', .slice (lid S.nx 4) 0 log'.length,vint 0,vint 0])]) (St S [] [some (6,[.nils, .int .i64 0, .nils, .int .i64 0, .nils, .nils]),none,none,some (14,[vl jm P.env.sigs,vint P.env.imports,vl vint P.env.globals,vl V.bool P.env.muts, .bool P.env.mem,vl jI P.fns,vl vby mem',vint most', .slice (lid S.nx 1) 0 glb'.length,vint fuel',vl vu inp', .slice (lid S.nx 4) 0 log'.length,vint 0,vint 0])]) [] ?_ (r:=by conv=>lhs; simp [QV]);refine QI ?_;refine bQ ?_
  refine WW (xs:=[vl vu out, .agg [vl vby mem',vint most', .slice (lid S.nx 1) 0 glb'.length,vint fuel',vl vu inp', .slice (lid S.nx 4) 0 log'.length],vint 0]) (by simp) ?_;show Ja _ _ (.tuple _) _;refine zN (Ghost.tuple [_] [_] (Jn (GhostArgs.one [_,_] _ (frz1 (k:=1) (by simp) (by rfl) (jq vu (fun _=>rfl) glb') (by simp))))) ?_;refine zN (Ghost.tuple [_] [_] (Jn (GhostArgs.one [_,_,_,_,_] _ (frz1 (k:=4) (by simp) (by rfl) (jq vu (fun _=>rfl) log') (by simp))))) ?_;exact jf hwf (GhostB.refl _ _ _) rfl
 ·simp only [if_neg he]
  refine bx he ?_
  refine QT ?_;refine QJ (St S [] [none,none,none,some (14,[vl jm P.env.sigs,vint P.env.imports,vl vint P.env.globals,vl V.bool P.env.muts, .bool P.env.mem,vl jI P.fns,vl vby mem',vint most', .slice (lid S.nx 1) 0 glb'.length,vint fuel',vl vu inp', .slice (lid S.nx 4) 0 log'.length,vint 0,vint e])]) (St S [] [some (6,[.nils, .int .i64 0, .nils, .int .i64 0, .nils, .nils]),none,none,some (14,[vl jm P.env.sigs,vint P.env.imports,vl vint P.env.globals,vl V.bool P.env.muts, .bool P.env.mem,vl jI P.fns,vl vby mem',vint most', .slice (lid S.nx 1) 0 glb'.length,vint fuel',vl vu inp', .slice (lid S.nx 4) 0 log'.length,vint 0,vint e])]) [] ?_ (r:=by conv=>lhs; simp [QV]);refine QI ?_;refine bQ ?_
  refine WW (xs:=[.nils, .agg [vl vby mem',vint most', .slice (lid S.nx 1) 0 glb'.length,vint fuel',vl vu inp', .slice (lid S.nx 4) 0 log'.length],vint e]) (by simp) ?_;show Ja _ _ (.tuple _) _;refine zN (Ghost.tuple [_] [_] (Jn (GhostArgs.one [_,_] _ (frz1 (k:=1) (by simp) (by rfl) (jq vu (fun _=>rfl) glb') (by simp))))) ?_;refine zN (Ghost.tuple [_] [_] (Jn (GhostArgs.one [_,_,_,_,_] _ (frz1 (k:=4) (by simp) (by rfl) (jq vu (fun _=>rfl) log') (by simp))))) ?_;exact jf hwf ((Ghost.tuple [] [_,_] (Ghost.nils_list _)).toB _) rfl
theorem jbg {e:Ss.Env} {f:Ss.Fn} {ds:List Ss.Def} {near:List Int} {i:Int} {k:Nat} {l:List Ss.Ins} (h:k<l.length):Ss.rcheckCode e f ds near i k (l.drop k)=(Ss.rinsOk e f ds near i k l[k]&&Ss.rcheckCode e f ds near i (k+1) (l.drop (k+1))):=by
 rw [am h,Ss.rcheckCode]
theorem Zp {e:Ss.Env} {f:Ss.Fn} {ds:List Ss.Def} {near:List Int} {i:Nat} {l:List Ss.Block} (h:i<l.length):Ss.rcheckBlocks e f ds near i (l.drop i)=(Ss.rcheckBlock e f ds near i l[i]&&Ss.rcheckBlocks e f ds near (i+1) (l.drop (i+1))):=by
 rw [am h,Ss.rcheckBlocks]
theorem RCheck_v (e:Ss.Env) (f:Ss.Fn) (he:e.Fits) (hf:f.Fits):bS 14 [qL e,jI f] (.bool (Ss.rcheck e f)):=by
 intro S;have cer:=Ww e he;have csm:=RSmall_v f hf;have hsb := @zt f;have csu:=fun h=>RSucc_v f hf h
 have cdf:=Defs_v f hf;have cci:=circlesP_v f hf;have ckt:bS 39 [vl vint f.types, .int .i64 2048] (.bool (Ss.kinds 2048 f.types)):=Zx 2048 f.types (by have:=hf.2.1.1; omega);have csr:=rsig_v f.sig hf.1;have hH:Ss.checkHead e f=(e.right&&f.small&&decide (f.blocks.length<=256)&&Ss.kinds 2048 f.types&&f.sig.right&&f.blocks.all fun b=>decide (b.params.length<=256)):=rfl;have hX:Ss.rcheck e f=(Ss.checkHead e f&&decide (1<=f.blocks.length)&&match Ss.defsOf f with
  | none=>false
  | some ds=>G.right (Ss.succs f.blocks)&&((G.without (G.nats (Ss.succs f.blocks)) none).all id&&(Ss.rshape f&&Ss.rcheckBlocks e f ds (G.nearI (Ss.succs f.blocks)) 0 f.blocks))):=rfl
 have hks:Ss.kinds 2048 f.types=true->f.types.length<=2048:=by
  intro h; simp only [Ss.kinds,af,aj] at h; exact h.1
 have her:e.right=true->e.muts.length=e.globals.length:=by
  intro h; simp only [Ss.Env.right,af,aj] at h; exact h.1.1.2
 rw [hX,hH];clear hX hH;generalize e.right=er at *
 generalize hsm:f.small=sm at *
 generalize Ss.kinds 2048 f.types=kt at *
 generalize f.sig.right=sr at *
 have hsl:=he.1.1;have hgl:=he.2.2.1.1;obtain ⟨sg,im,gl,mu,me⟩:=e;obtain ⟨⟨fi,fo⟩,ts,bs⟩:=f;simp only at *
 have cer':bS 38 [.agg [vl jm sg, .int .i64 im,vl vint gl,vl V.bool mu, .bool me]] (.bool er):=cer;have csm':bS 33 [.agg [vl vint fi,vl vint fo,vl vint ts,vl je bs]] (.bool sm):=csm;have csr':bS 40 [.agg [vl vint fi,vl vint fo]] (.bool sr):=csr;generalize hZ:(match Ss.defsOf ⟨⟨fi,fo⟩,ts,bs⟩ with
  | none=>false
  | some ds=>G.right (Ss.succs bs)&&((G.without (G.nats (Ss.succs bs)) none).all id&&(Ss.rshape ⟨⟨fi,fo⟩,ts,bs⟩&&Ss.rcheckBlocks ⟨sg,im,gl,mu,me⟩ ⟨⟨fi,fo⟩,ts,bs⟩ ds (G.nearI (Ss.succs bs)) 0 bs)))=Z
 generalize hP:(fun b:Ss.Block=>decide (b.params.length<=256))=P;refine QB (c:=jc Tryz.f14) Tryz.func14 Tryz.ntmps14 fun hwf=>?_
 refine bw ?_
 refine QP ?_;refine QL (cer') ?_
 by_cases h1:er=true
 case neg =>
  have h1':er=false:=by simpa using h1
  refine bB h1' ?_;refine bR ?_
  exact ja hwf (by simp [h1']) rfl
 refine bB h1 ?_;refine QL (csm') ?_
 by_cases h2:sm=true
 case neg =>
  have h2':sm=false:=by simpa using h2
  refine bB h2' ?_;refine bR ?_
  exact ja hwf (by simp [h2']) rfl
 by_cases h3:(bs.length:Int)<1
 ·refine bF h2 h3 ?_;refine bR ?_
  exact ja hwf (by rw [decide_eq_false (show ¬ 1<=bs.length by omega)]; simp) rfl
 by_cases h3b:(256:Int)<(bs.length:Int)
 ·refine bG h2 h3 h3b ?_;refine bR ?_
  exact ja hwf (by rw [show decide (bs.length<=256)=false by simp; omega]; simp) rfl
 have h3':bs.length<=256:=by omega
 have h3n:1<=bs.length:=by omega
 refine bG h2 h3 h3b ?_;refine QL (ckt) ?_
 by_cases h4:kt=true
 case neg =>
  have h4':kt=false:=by simpa using h4
  refine bB h4' ?_;refine bR ?_
  exact ja hwf (by simp [h4']) rfl
 refine bB h4 ?_;refine QL (csr') ?_
 by_cases h5:sr=true
 case neg =>
  have h5':sr=false:=by simpa using h5
  refine bB h5' ?_;refine bR ?_
  exact ja hwf (by simp [h5']) rfl
 rw [h1,h2,h4,h5,decide_eq_true h3',decide_eq_true h3n];simp only [aE,Bool.and_true];have htl:=hks h4;obtain ⟨_,_,hsf,_⟩:=hsb h2;refine bB h5 ?_;refine bR ?_
 refine QT ?_;refine jd [2,3,5] rfl (fun c σ S' => ∃ (k:Nat),k<=bs.length/\c=bs.length-k/\(bs.drop k).all P=bs.all P/\σ=[(2, .ptr (lid S.nx 0) 0),(3, .ptr (lid S.nx 1) 0),(5,vnat k)]/\S'=St S [] [some (5,[vl jm sg,vint im,vl vint gl,vl V.bool mu, .bool me]),some (4,[vl vint fi,vl vint fo,vl vint ts,vl je bs])]) bs.length ?_ ?_
 ·exact ⟨0,by omega,rfl,rfl,by simp [Fr.only],rfl⟩
 ·rintro c σ T ⟨k,hk,rfl,hd,rfl,rfl⟩
  by_cases hkt:k<bs.length
  ·have hw:=jg hkt (by omega);have hst:=Ss.drop_all P hkt;obtain ⟨⟨ps,code,⟨tk,ta,to,az⟩⟩,hx⟩ : ∃ b,bs[k]=b:=⟨_,rfl⟩
   have hPx:P ⟨ps,code,⟨tk,ta,to,az⟩⟩=decide (ps.length<=256):=by rw [<-hP]
   rw [hx,hPx] at hst
   by_cases h6:(256:Int)<(ps.length:Int)
   ·rw [decide_eq_false (by omega),aX,hd] at hst;rw [hst]
    refine bv hkt hx h6 ?_
    exact ja hwf (by simp) rfl
   ·rw [decide_eq_true (by omega),aE,hd] at hst
    refine bD hkt hx h6 hw ?_
    show js _ _ _ _ _ _ _;exact again ⟨by omega,k+1,by omega,rfl,hst.symm,by simp [Fr.only],rfl⟩
  rw [Ss.drop_all_end _ hkt] at hd;rw [<-hd,aE];have hke:k=bs.length:=by omega
  subst hke;have csu':bS 41 [.agg [vl vint fi,vl vint fo,vl vint ts,vl je bs]] (vl (vl vint) (Ss.succs bs)):=csu h2;have cdf':bS 42 [.agg [vl vint fi,vl vint fo,vl vint ts,vl je bs]] (rdefsV (Ss.defsOf ⟨⟨fi,fo⟩,ts,bs⟩)):=cdf (by omega)
  cases hdf:Ss.defsOf ⟨⟨fi,fo⟩,ts,bs⟩ with
  | none =>
   rw [hdf] at hZ cdf';simp only at hZ;subst hZ;obtain ⟨z,hz⟩ : ∃ z,z=false:=⟨_,rfl⟩
   have cdf2:bS 42 [.agg [vl vint fi,vl vint fo,vl vint ts,vl je bs]] (.tuple [.list [], .bool z]):=by rw [hz]; exact cdf'
   refine bx hkt ?_
   refine QP ?_;refine QL (csu') ?_;refine QW ?_;refine QP ?_;refine QL (cdf2) ?_;refine bB hz ?_;refine QN ?_
   refine bx hz ?_
   exact bN
  | some ds =>
   rw [hdf] at hZ cdf';simp only at hZ;obtain ⟨hdl,hdin⟩:=Ss.defs_in hdf;have hnn:=Ss.defs_nn hdf;simp only at hdl hdin;obtain ⟨z,hz⟩ : ∃ z,z=true:=⟨_,rfl⟩
   have cdf2:bS 42 [.agg [vl vint fi,vl vint fo,vl vint ts,vl je bs]] (.tuple [vl qe ds, .bool z]):=by rw [hz]; exact cdf'
   have hgl63:(Ss.succs bs).length<2^63:=by simp [Ss.succs]; omega
   have hgr63 : ∀ r∈Ss.succs bs,r.length<2^62:=by
    intro r hr;obtain ⟨b,hb,rfl⟩:=bk.1 hr;have:=(hsf b hb).2.1;simp [Ss.rowOf]; omega
   have crt:=RRight_v (Ss.succs bs) hgl63 (fun r hr=>by have:=hgr63 r hr; omega);have cwo:=WithoutI_v (Ss.succs bs);have cne:=RNearI_v (Ss.succs bs) hgl63 (fun r hr=>by have:=hgr63 r hr; omega)
   refine bx hkt ?_
   refine QP ?_;refine QL (csu') ?_;refine QW ?_;refine QP ?_;refine QL (cdf2) ?_;refine QW ?_;refine bH hz ?_;refine QL (crt) ?_
   by_cases h6:G.right (Ss.succs bs)=true
   case neg =>
    have h6':G.right (Ss.succs bs)=false:=by simpa using h6
    rw [h6',aX] at hZ;subst hZ;refine bB h6' ?_;refine bR ?_
    exact bN
   have cwo':=cwo h6;have cne':=cne h6;rw [h6,aE] at hZ;generalize hrd:G.without (G.nats (Ss.succs bs)) none=reached at *
   refine bB h6 ?_;refine bR ?_
   refine QP ?_;refine jb rfl cwo' ?_;refine bQ ?_
   have hrl:reached.length<2^63:=by
    have:=G.without_length (G.right_ok h6) none;rw [hrd] at this;rw [this]; simpa [G.nats] using hgl63
   refine QT ?_;refine jd [2,3,6,7,9,10] rfl (fun c σ S' => ∃ (k:Nat),k<=reached.length/\c=reached.length-k/\(reached.drop k).all id=reached.all id/\σ=[(2, .ptr (lid S.nx 0) 0),(3, .ptr (lid S.nx 1) 0),(6,vl (vl vint) (Ss.succs bs)),(7,vl qe ds),(9,vl V.bool reached),(10,vnat k)]/\S'=St S [] [some (5,[vl jm sg,vint im,vl vint gl,vl V.bool mu, .bool me]),some (4,[vl vint fi,vl vint fo,vl vint ts,vl je bs])]) reached.length ?_ ?_
   ·exact ⟨0,by omega,rfl,rfl,by simp [Fr.only],rfl⟩
   ·rintro c σ T ⟨k,hk,rfl,hd,rfl,rfl⟩
    by_cases hkt:k<reached.length
    ·have hw:=jg hkt (by omega);have hst:=Ss.drop_all id hkt;obtain ⟨y,hy⟩ : ∃ y,reached[k]=y:=⟨_,rfl⟩
     rw [hy] at hst
     by_cases h7:y=true
     ·rw [h7,id,aE,hd] at hst
      refine bD hkt hy h7 hw ?_
      show js _ _ _ _ _ _ _;exact again ⟨by omega,k+1,by omega,rfl,hst.symm,by simp [Fr.only],rfl⟩
     ·have h7':y=false:=by simpa using h7
      rw [h7',id,aX,hd] at hst;rw [hst,aX] at hZ;subst hZ
      refine bv hkt hy h7' ?_
      exact bN
    rw [Ss.drop_all_end _ hkt] at hd;rw [<-hd,aE] at hZ;have hke:k=reached.length:=by omega
    subst hke;have hGok:=G.right_ok h6;have hGe:(Ss.succs bs).map (vl vint)=(G.nats (Ss.succs bs)).map (vl vnat):=by
     have:=G.right_enc h6;simpa only [vl,V.list.injEq] using this
    have hcirc:=cci h2 _ hGe (fun r hr=>⟨by have:=hGok.row r hr; omega,hGok.elt r hr⟩);have cci':bS 47 [.agg [vl vint fi,vl vint fo,vl vint ts,vl je bs]] (.bool (Ss.circ (Ss.msk bs (G.nats (Ss.succs bs))))):=hcirc;have hto:=Ss.right_to (f:=⟨⟨fi,fo⟩,ts,bs⟩) h6;simp only at hto;have hnl:=G.nearI_len (Ss.succs bs);have h0:0<bs.length:=by omega
    obtain ⟨⟨ps,code,⟨tk,ta,to,az⟩⟩,hx0⟩ : ∃ b,bs[0]=b:=⟨_,rfl⟩
    have hm0:=ah h0;rw [hx0] at hm0;have hb0:=hsf _ hm0;have hin0:=(hdin _ hm0).1;simp only at hb0 hin0;have hrs:Ss.rshape ⟨⟨fi,fo⟩,ts,bs⟩=(decide (Ss.typesOf ts ps=fi)&&(Ss.firstTick code && !Ss.circ (Ss.msk bs (G.nats (Ss.succs bs))))):=by
     have e:bs.getD 0 default=⟨ps,code,⟨tk,ta,to,az⟩⟩:=by simp [h0,hx0]
     simp only [Ss.rshape,e]
    rw [hrs] at hZ;generalize Ss.circ (Ss.msk bs (G.nats (Ss.succs bs)))=ci at *
    generalize hnr:G.nearI (Ss.succs bs)=near at *
    have cty:=jck ⟨sg,im,gl,mu,me⟩ ⟨⟨fi,fo⟩,ts,bs⟩ ds near ps (by omega) hin0;simp only at cty;have htl0:(Ss.typesOf ts ps).length<2^63:=by simp [Ss.typesOf]; omega
    generalize Ss.typesOf ts ps=tq at *
    have cin:=jdb tq fi htl0
    refine bx hkt ?_
    refine QP ?_;refine QL (cne') ?_;refine bQ ?_
    refine QH 13 2 ?_;refine QT ?_;refine QD (r:=by conv=>lhs;simp[QV,h0,hx0]) (k:=?_);refine QL (cty) ?_;refine QZ ?_;refine QL (cin) ?_
    by_cases h8:tq=fi
    case neg =>
     rw [decide_eq_false h8,aX,aX] at hZ;subst hZ;refine bB h8 ?_;refine bR ?_
     exact bN
    rw [decide_eq_true h8,aE] at hZ
    cases code with
    | nil =>
     have hft:Ss.firstTick []=false:=rfl;rw [hft,aX,aX] at hZ;subst hZ;refine bG h8 h0 hx0 ?_;refine bR ?_
     exact bN
    | cons x0 cr =>
    obtain ⟨xo,xn,xa,xu⟩:=x0;have hft:Ss.firstTick (⟨xo,xn,xa,xu⟩::cr)=decide (xo=258):=rfl;rw [hft] at hZ;have hcpos : ¬ (cr.length:Int)+1=0:=by omega
    by_cases h9:xo=258
    case neg =>
     rw [decide_eq_false h9,aX,aX] at hZ;subst hZ;refine QM (by conv=>lhs;simp[QV,h8,h0,hx0,h9,hcpos]) ?_;refine bR ?_
     exact bN
    rw [decide_eq_true h9,aE] at hZ;refine QM (by conv=>lhs;simp[QV,h8,h0,hx0,h9,hcpos]) ?_;refine QL (cci') ?_
    by_cases h10:ci=true
    ·rw [h10,Bool.not_true,aX] at hZ;subst hZ;refine bB h10 ?_;refine bR ?_
     exact bN
    have h10':ci=false:=by simpa using h10
    rw [h10',Bool.not_false,aE] at hZ;refine bB h10' ?_;refine bR ?_
    refine QO [2,3,13,14] ?_;refine QK [0,1] ?_;clear cwo cne cne' cci' cdf2 cdf' csu' cdf cci cer' csm' csr' crt cty cin;have hbF:=hf.2.2.2;simp only at hbF;have cns : ∀ (i k:Nat) (b:Ss.Block) (x:Ss.Ins),bs[i]? = some b->b.code[k]? = some x->bS 48 [ckR ⟨sg,im,gl,mu,me⟩ ⟨⟨fi,fo⟩,ts,bs⟩ ds near,vnat i,vnat k] (.bool (Ss.rinsOk ⟨sg,im,gl,mu,me⟩ ⟨⟨fi,fo⟩,ts,bs⟩ ds near i k x)):=by
     intro i k b x hb hx;have hbm:=aA hb;have hxm:=aA hx;have hsmb:=((Ss.small_iff _).1 (hsm.trans h2)).2.1 b hbm;simp only [Ss.Block.small,af,aD,Ss.Ins.small,aj] at hsmb;have hxl:=(hsmb.1.2 x hxm).2;exact rins_v ⟨sg,im,gl,mu,me⟩ ⟨⟨fi,fo⟩,ts,bs⟩ ds near i k b x hsl hgl (her h1) hdl (by simp only; omega) (by omega) hnn hb hx ((hbF b hbm).2.1.2 x hxm) (by omega) ((hdin b hbm).2 x hxm)
    have ctm : ∀ (i:Nat) (b:Ss.Block),bs[i]? = some b->bS 49 [ckR ⟨sg,im,gl,mu,me⟩ ⟨⟨fi,fo⟩,ts,bs⟩ ds near,vnat i] (.bool (Ss.rtermOk ⟨⟨fi,fo⟩,ts,bs⟩ ds near i b.code.length b.term)):=fun i b hb =>
     rterm_v ⟨sg,im,gl,mu,me⟩ ⟨⟨fi,fo⟩,ts,bs⟩ ds near i b hdl (by simp only; omega) (by omega) hnn hb (hbF b (aA hb))
    have ced : ∀ (i:Nat) (b:Ss.Block),bs[i]? = some b->bS 50 [ckR ⟨sg,im,gl,mu,me⟩ ⟨⟨fi,fo⟩,ts,bs⟩ ds near,vnat i] (.bool (b.term.to.all (Ss.redgeOk ⟨⟨fi,fo⟩,ts,bs⟩ ds near i b.code.length))):=fun i b hb =>
     redges_v ⟨sg,im,gl,mu,me⟩ ⟨⟨fi,fo⟩,ts,bs⟩ ds near i b hdl (by simp only; omega) (by omega) hnn hb (hbF b (aA hb)) (by simp only; omega) (hto b (aA hb)) (fun b hb=>⟨by have:=(hsf b hb).1; omega,(hdin b hb).1⟩)
    clear h0 hx0 hm0 hb0 hin0 hrs hcirc;refine QT ?_;refine jd [2,3,13,14] rfl (fun c σ S' => ∃ (k:Nat),k<=bs.length/\c=bs.length-k/\Ss.rcheckBlocks ⟨sg,im,gl,mu,me⟩ ⟨⟨fi,fo⟩,ts,bs⟩ ds near k (bs.drop k)=Z/\σ=[(2, .ptr (lid S.nx 0) 0),(3, .ptr (lid S.nx 1) 0),(13,ckR ⟨sg,im,gl,mu,me⟩ ⟨⟨fi,fo⟩,ts,bs⟩ ds near),(14,vnat k)]/\S'=St S [] [some (5,[vl jm sg,vint im,vl vint gl,vl V.bool mu, .bool me]),some (4,[vl vint fi,vl vint fo,vl vint ts,vl je bs])]) bs.length ?_ ?_
    ·exact ⟨0,by omega,rfl,hZ,by simp [Fr.only],rfl⟩
    ·rintro c σ T ⟨k,hk,rfl,hcb,rfl,rfl⟩
     by_cases hkt:k<bs.length
     case neg =>
      have e1:bs.drop k=[]:=by rw [aH]; omega
      rw [e1,Ss.rcheckBlocks] at hcb
      refine bx hkt ?_
      exact ja hwf (by simp [<-hcb]) rfl
     have hw:=jg hkt (by omega);have hst:=Zp (e:=⟨sg,im,gl,mu,me⟩) (f:=⟨⟨fi,fo⟩,ts,bs⟩) (ds:=ds) (near:=near) hkt;have hsome:bs[k]? = some bs[k]:=ac hkt;have hcl:=(hsf _ (ah hkt)).2.2.2;have cti:=ctm k _ hsome;have cei:=ced k _ hsome;have cii:=fun j x=>cns k j _ x hsome
     obtain ⟨⟨ps,code,⟨tk,ta,to,az⟩⟩,hx⟩ : ∃ b,bs[k]=b:=⟨_,rfl⟩
     rw [hx] at hst hcl cti cii cei;simp only at hst hcl cii cti cei;have hrb:Ss.rcheckBlock ⟨sg,im,gl,mu,me⟩ ⟨⟨fi,fo⟩,ts,bs⟩ ds near k ⟨ps,code,⟨tk,ta,to,az⟩⟩=(Ss.rcheckCode ⟨sg,im,gl,mu,me⟩ ⟨⟨fi,fo⟩,ts,bs⟩ ds near k 0 code&&(Ss.rtermOk ⟨⟨fi,fo⟩,ts,bs⟩ ds near k code.length ⟨tk,ta,to,az⟩&&to.all (Ss.redgeOk ⟨⟨fi,fo⟩,ts,bs⟩ ds near k code.length))):=rfl;rw [hst,hrb] at hcb;clear hst hrb;generalize Ss.rtermOk ⟨⟨fi,fo⟩,ts,bs⟩ ds near k code.length ⟨tk,ta,to,az⟩=tm at *
     generalize to.all (Ss.redgeOk ⟨⟨fi,fo⟩,ts,bs⟩ ds near k code.length)=ed at *
     refine bt hkt hx ?_
     refine QT ?_;refine jd [2,3,13,14,15] rfl (fun c σ S' => ∃ (j:Nat),j<=code.length/\c=code.length-j/\Ss.rcheckCode ⟨sg,im,gl,mu,me⟩ ⟨⟨fi,fo⟩,ts,bs⟩ ds near k j (code.drop j)=Ss.rcheckCode ⟨sg,im,gl,mu,me⟩ ⟨⟨fi,fo⟩,ts,bs⟩ ds near k 0 code/\σ=[(2, .ptr (lid S.nx 0) 0),(3, .ptr (lid S.nx 1) 0),(13,ckR ⟨sg,im,gl,mu,me⟩ ⟨⟨fi,fo⟩,ts,bs⟩ ds near),(14,vnat k),(15,vnat j)]/\S'=St S [] [some (5,[vl jm sg,vint im,vl vint gl,vl V.bool mu, .bool me]),some (4,[vl vint fi,vl vint fo,vl vint ts,vl je bs])]) code.length ?_ ?_
     ·exact ⟨0,by omega,rfl,rfl,by simp [Fr.only],rfl⟩
     ·rintro c σ T ⟨j,hj,rfl,hcc,rfl,rfl⟩
      by_cases hjt:j<code.length
      ·have hwj:=jg hjt (by omega);have hsc:=jbg (e:=⟨sg,im,gl,mu,me⟩) (f:=⟨⟨fi,fo⟩,ts,bs⟩) (ds:=ds) (near:=near) (i:=k) hjt;have cij:=cii j _ (ac hjt);generalize Ss.rinsOk ⟨sg,im,gl,mu,me⟩ ⟨⟨fi,fo⟩,ts,bs⟩ ds near k j code[j]=io at *
       refine bv hkt hx hjt ?_
       refine QP ?_;refine QL (cij) ?_
       by_cases hio:io=true
       ·refine bB hio ?_;refine QN ?_
        refine bx hwj ?_
        show js _ _ _ _ _ _ _;exact again ⟨by omega,j+1,by omega,rfl,by rw [<-hcc,hsc,hio,aE],by simp [Fr.only,hwj],by simp⟩
       ·have hio':io=false:=by simpa using hio
        refine bB hio' ?_;refine bR ?_
        exact ja hwf (by rw [<-hcb, <-hcc,hsc,hio']; simp) rfl
      ·have e1:code.drop j=[]:=by rw [aH]; omega
       rw [e1,Ss.rcheckCode] at hcc;rw [<-hcc,aE] at hcb
       refine bv hkt hx hjt ?_
       refine QP ?_;refine QL (cti) ?_
       by_cases htm:tm=true
       ·refine bB htm ?_;refine QL (cei) ?_
        by_cases hed:ed=true
        ·refine bB hed ?_;refine QN ?_
         refine bx hw ?_
         show js _ _ _ _ _ _ _;exact again ⟨by omega,k+1,by omega,rfl,by rw [<-hcb,htm,hed,aE,aE],by simp [Fr.only,hw],by simp⟩
        ·have hed':ed=false:=by simpa using hed
         refine bB hed' ?_;refine bR ?_
         exact ja hwf (by rw [<-hcb,htm,hed']; simp) rfl
       ·have htm':tm=false:=by simpa using htm
        refine bB htm' ?_;refine bR ?_
        exact ja hwf (by rw [<-hcb,htm']; simp) rfl
end Go.Vw
namespace Ev
def rightFrom (e:Ss.Env):Nat->List Ss.Fn->Bool
 | _,[]=>true
 | i,f::r=>(Ss.check e f&&decide (f.sig=e.sigs.getD (e.imports+i).toNat default))&&rightFrom e (i+1) r
def rightB (P:Prog):Bool:=P.env.right&&(decide ((P.fns.length:Int)=P.env.sigs.length-P.env.imports)&&rightFrom P.env 0 P.fns)
structure PFits (P:Prog):Prop where
 env:P.env.Fits
 len:P.fns.length<=140737488355328
 fns : ∀ f∈P.fns,f.Fits
theorem YV {e:Ss.Env} : ∀ {l:List Ss.Fn} {i k:Nat} {f:Ss.Fn},rightFrom e i l=true->l[k]? = some f->Ss.check e f=true/\f.sig=e.sigs.getD (e.imports+(i+k:Nat)).toNat default
 | [],i,k,f,_,h=>by simp at h
 | x::r,i,0,f,h,hf=>by
  simp only [rightFrom,af,aj] at h;simp only [aK,ay] at hf;subst hf;exact h.1
 | x::r,i,k+1,f,h,hf=>by
  simp only [rightFrom,af] at h;have:=YV h.2 (by simpa using hf);rw [show i+1+k=i+(k+1) by omega] at this;exact this
theorem rightB_P {P:Prog} (hf:PFits P) (h:rightB P=true):RightP P:=by
 simp only [rightB,af,aj] at h;obtain ⟨h1,h2,h3⟩:=h;refine ⟨h1,h2,fun i f hi => ?_⟩;obtain ⟨k1,k2⟩:=YV h3 hi;have hil:=(ae.1 hi).1;simp only [Ss.Env.right,af,aj] at h1;have h0:=h1.1.1.1.1.1;have hk:(P.env.imports+i).toNat<P.env.sigs.length:=by omega
 refine ⟨hf.fns f (aA hi),k1, ?_⟩;rw [bd] at k2;rw [k2,ag,ac hk]; rfl
theorem YU {e:Ss.Env} : ∀ {l:List Ss.Fn} {i:Nat},(∀ (k:Nat) f,l[k]? = some f->Ss.check e f=true/\e.sigs[(e.imports+(i+k:Nat)).toNat]? = some f.sig)->rightFrom e i l=true
 | [],i,_=>rfl
 | x::r,i,h=>by
  obtain ⟨h1,h2⟩:=h 0 x rfl;rw [Nat.add_zero] at h2;rw [rightFrom,h1,YU (l:=r) fun k f hf=>by
   have:=h (k+1) f hf;rw [show i+(k+1)=i+1+k by omega] at this;exact this]
  rw [ag,h2]; simp
theorem rightP_B {P:Prog} (h:RightP P):rightB P=true:=by
 simp only [rightB,af,aj];refine ⟨h.env,h.len,YU fun k f hf => ?_⟩;obtain ⟨_,h2,h3⟩:=h.fns k f hf;rw [bd];exact ⟨h2,h3⟩
end Ev
namespace Go.Vw
open Go.Proofs Go.RowKit
attribute [-simp] List.map_set
theorem NRight_v (P:Ev.Prog) (hP:Ev.PFits P):bS 15 [JD P] (.bool (Ev.rightB P)):=by
 intro S;obtain ⟨he,hfl,hff⟩:=hP;have ce:=Ww P.env he;have hsl:=he.1.1;have hsF:=he.1.2;have hck : ∀ f∈P.fns,bS 14 [qL P.env,jI f] (.bool (Ss.check P.env f)):=fun f hf=>by
  have:=RCheck_v P.env f he (hff f hf)
  rwa [Ss.check_agrees (hff f hf)] at this
 have hri:P.env.right=true->0<=P.env.imports/\P.env.imports<=P.env.sigs.length:=fun h=>by
  simp only [Ss.Env.right,af,aj] at h;exact ⟨h.1.1.1.1.1,h.1.1.1.1.2⟩
 have hrb:Ev.rightB P=(P.env.right&&(decide ((P.fns.length:Int)=P.env.sigs.length-P.env.imports)&&Ev.rightFrom P.env 0 P.fns)):=rfl;rw [hrb];clear hrb;have him:=he.2.1;generalize hea:P.env.right=ea at *
 clear he;obtain ⟨⟨sg,im,gl,mu,me⟩,fns⟩:=P;simp only at hfl hff hsl hsF hck hri him ce ⊢;have ce:bS 38 [.agg [vl jm sg,vint im,vl vint gl,vl V.bool mu, .bool me]] (.bool ea):=ce;have hck : ∀ f∈fns,bS 14 [.agg [vl jm sg,vint im,vl vint gl,vl V.bool mu, .bool me],jI f] (.bool (Ss.check ⟨sg,im,gl,mu,me⟩ f)):=hck
 have e1:JD ⟨⟨sg,im,gl,mu,me⟩,fns⟩ = .agg [vl jm sg,vint im,vl vint gl,vl V.bool mu, .bool me,vl jI fns]:=rfl;rw [e1];refine QB (c:=jc Tryz.f15) Tryz.func15 Tryz.ntmps15 fun hwf=>?_
 refine QY ?_;refine QH 1 0 ?_;refine QP ?_;refine QL (ce) ?_
 by_cases ha:ea=true
 rotate_left
 ·have ha:ea=false:=by simpa using ha
  refine bB ha ?_;refine bR ?_
  exact ja hwf (by simp [ha]) rfl
 obtain ⟨hi0,hi1⟩:=hri ha;obtain ⟨m,rfl⟩ : ∃ m:Nat,im=(m:Int):=⟨im.toNat,by omega⟩
 have hw1:IntKind.i64.wrap ((sg.length:Int)-m)=(sg.length:Int)-m:=wrap_i64 (by omega) (by omega)
 by_cases hl:(fns.length:Int)=(sg.length:Int)-m
 rotate_left
 ·refine bG ha hw1 hl ?_;refine bR ?_
  exact ja hwf (by simp [hl]) rfl
 refine bG ha hw1 hl ?_;refine bR ?_
 rw [ha,hl,decide_eq_true rfl,aE,aE];obtain ⟨Z,hZ⟩ : ∃ Z,Ev.rightFrom ⟨sg,m,gl,mu,me⟩ 0 fns=Z:=⟨_,rfl⟩
 rw [hZ];refine QT ?_;refine jd [1,3] rfl (fun c σ S' => ∃ (k:Nat),k<=fns.length/\c=fns.length-k/\Ev.rightFrom ⟨sg,m,gl,mu,me⟩ k (fns.drop k)=Z/\σ=[(1,(V.agg [vl jm sg,vint m,vl vint gl,vl V.bool mu, .bool me,vl jI fns]).ref),(3,vnat k)]/\S'=St S [] [none]) fns.length ?_ ?_
 ·exact ⟨0,Nat.zero_le _,rfl,hZ,by simp [Fr.only,Fr.look],by simp⟩
 ·rintro c σ T ⟨k,hk,rfl,hd,rfl,rfl⟩
  by_cases hkt:k<fns.length
  ·have hw:=jg hkt (by omega);have hms:m+k<sg.length:=by omega
   have hw2:IntKind.i64.wrap ((m:Int)+(k:Int))=(m:Int)+(k:Int):=wrap_i64 (by omega) (by omega);have ck:=hck _ (ah hkt);have hfF:=hff _ (ah hkt);rw [am hkt,Ev.rightFrom] at hd;have e2:((m:Int)+(k:Int)).toNat=m+k:=by omega
   simp only [e2] at hd;rw [ag,ac hms,aS] at hd;obtain ⟨⟨⟨fi,fo⟩,ts,bs⟩,hx⟩ : ∃ f,fns[k]=f:=⟨_,rfl⟩
   have htF:=hsF _ (ah hms);obtain ⟨⟨ti,to⟩,ht⟩ : ∃ t,sg[m+k]=t:=⟨_,rfl⟩
   rw [hx] at hd ck hfF;rw [ht] at hd htF;have cs:=SameSig_v ⟨fi,fo⟩ ⟨ti,to⟩ (show fi.length<2^63 by have:fi.length<=140737488355328:=hfF.1.1.1; omega) (show fo.length<2^63 by have:fo.length<=140737488355328:=hfF.1.2.1; omega);have hidx : ∀ S',jB 2 S' (vl jm sg) (.int .i64 ((m:Int)+(k:Int)))=some (.ref (.agg [vl vint ti,vl vint to])):=fun S'=>zO (s:=2) (S:=S') (enc:=jm) (l:=sg) (k := .i64) (i:=m+k) (x:=⟨ti,to⟩) rfl (by rw [ac hms,ht])
   obtain ⟨b1,hb1⟩ : ∃ b,Ss.check ⟨sg,m,gl,mu,me⟩ ⟨⟨fi,fo⟩,ts,bs⟩=b:=⟨_,rfl⟩
   obtain ⟨b2,hb2⟩ : ∃ b,decide ((⟨fi,fo⟩:Ss.Sig)=⟨ti,to⟩)=b:=⟨_,rfl⟩
   rw [hb1] at hd ck;rw [hb2] at cs;simp only [hb2] at hd;have ck:bS 14 [.agg [vl jm sg,vint m,vl vint gl,vl V.bool mu, .bool me], .agg [vl vint fi,vl vint fo,vl vint ts,vl je bs]] (.bool b1):=ck;have cs:bS 34 [.agg [vl vint fi,vl vint fo], .agg [vl vint ti,vl vint to]] (.bool b2):=cs
   by_cases q1:b1=true
   ·by_cases q2:b2=true
    ·rw [q1,q2] at hd
     refine bx hkt ?_
     refine QT ?_;refine QD (r:=by conv=>lhs;simp[QV,hkt,hx]) (k:=?_);refine QL (ck) ?_;refine QM (by conv=>lhs;simp[QV,q1,hkt,hx,hw2,hidx]) ?_;refine QL (cs) ?_;refine bB q2 ?_;refine QN ?_
     refine bx hw ?_
     show js _ _ _ _ _ _ _;exact again ⟨ao hkt (aY k),k+1,hkt,rfl,by simpa using hd,by simp [Fr.only,Fr.look],rfl⟩
    ·have q2:b2=false:=by simpa using q2
     rw [q1,q2] at hd
     refine bx hkt ?_
     refine QT ?_;refine QD (r:=by conv=>lhs;simp[QV,hkt,hx]) (k:=?_);refine QL (ck) ?_;refine QM (by conv=>lhs;simp[QV,q1,hkt,hx,hw2,hidx]) ?_;refine QL (cs) ?_;refine bB q2 ?_;refine bR ?_
     exact ja hwf (by simp [<-hd]) rfl
   ·have q1:b1=false:=by simpa using q1
    rw [q1] at hd
    refine bx hkt ?_
    refine QT ?_;refine QD (r:=by conv=>lhs;simp[QV,hkt,hx]) (k:=?_);refine QL (ck) ?_;refine bB q1 ?_;refine bR ?_
    exact ja hwf (by simp [<-hd]) rfl
  ·have hke:k=fns.length:=by omega
   subst hke;rw [List.drop_length,Ev.rightFrom] at hd
   refine bx hkt ?_
   exact ja hwf (by simp [<-hd]) rfl
end Go.Vw
namespace Ev
def runR (O:Ops) (P:Prog) (s:State) (n:Int) (args:List Int):Res :=
 if holds P.env.globals P.env.mem s=true then
  (if 0<=n/\n<P.env.sigs.length/\fitsL (P.env.sigs.getD n.toNat default).inn args=true then
   (match callF O P 4800000 0 n args s with
   | some r=>(if r.2.2=0 then r.1 else [],r.2.1,r.2.2)
   | none=>([],s,0))
  else ([],s,1))
 else ([],s,6)
theorem good_of {e:Ss.Env} {s:State} (hs:StFits s) (h:holds e.globals e.mem s=true):Good e s/\s.mem.length<=4096/\s.input.length<=4096/\s.log.length<=4096:=by
 simp only [holds,af,Bool.not_eq_true',Bool.or_eq_false_iff,decide_eq_false_iff_not] at h;obtain ⟨⟨⟨⟨h1,h2⟩,h3⟩,h4⟩,⟨⟨⟨⟨⟨h5,h6⟩,h7⟩,h8⟩,h9⟩,h10⟩⟩:=h;simp only [Bool.not_eq_false',aj] at h5;exact ⟨⟨hs,⟨by omega,by omega⟩,h5⟩,by omega,by omega,by omega⟩
end Ev
namespace Go.Vw
open Go.Proofs Go.RowKit
attribute [-simp] List.map_set
theorem NRun_v (O:Ev.Ops) (hO:OpsV O) (hOk:Ev.OpsOk O) (P:Ev.Prog) (hPF:Ev.PFits P) (hP:Ev.RightP P) (s:Ev.State) (hs:Ev.StFits s) (n:Int) (hn:Ss.I64 n) (args:List Int) (ha:Ev.words args):bS 16 [JD P,qf s,vint n,vl vu args] (.tuple [vl vu (Ev.runR O P s n args).1,qf (Ev.runR O P s n args).2.1,vint (Ev.runR O P s n args).2.2]):=by
 intro S;have c1:=NRight_v P hPF;rw [Ev.rightP_B hP] at c1;have c2:=Nfits_v P.env s hPF.env hs;have hen:=hP.env;rw [hen,aE] at c2;have c3:=fun (t:Ss.Sig)=>Ngiven_v t.inn args
 have hgood := @Ev.good_of P.env s hs;have hsr := @Ev.sig_right P.env hen;have hsl:P.env.sigs.length<=64/\P.env.globals.length<=140737488355328:=by
  simp only [Ss.Env.right,af,aj] at hen;exact ⟨hen.1.1.1.2,hPF.env.2.2.1.1⟩
 have hgl:P.env.globals.length<=32:=by
  simp only [Ss.Env.right,Ss.kinds,af,aj] at hen;exact hen.1.2.1
 have cgo:=fun r h1 h2 h3 h4 h5 h6 h7 h8=>NGo_v O hO hOk P hP 4800000 s n args r h1 h2 h3 h4 h5 ha.2 h6 h7 h8
 have hends:=fun t h0 ht hl hg hlog=>Ev.call_ends hOk hP (n:=n) (args:=args) (s:=s) (t:=t) h0 ht hl ha.2 hg hlog
 obtain ⟨hb,hhb⟩ : ∃ b,Ev.holds P.env.globals P.env.mem s=b:=⟨_,rfl⟩
 rw [hhb] at c2 hgood;simp only [Ev.runR,hhb];have hal:=ha.1;clear hen ha hP hPF hs;obtain ⟨⟨sg,im,gl,mu,me⟩,fns⟩:=P;obtain ⟨mem,most,glb,fuel,inp,log⟩:=s;simp only at hsr hsl hgl hgood hends ⊢;have e1:JD ⟨⟨sg,im,gl,mu,me⟩,fns⟩ = .agg [vl jm sg,vint im,vl vint gl,vl V.bool mu, .bool me,vl jI fns]:=rfl;have e2:qf ⟨mem,most,glb,fuel,inp,log⟩ = .agg [vl vby mem,vint most,vl vu glb,vint fuel,vl vu inp,vl vu log]:=rfl;have e3:qL ⟨sg,im,gl,mu,me⟩ = .agg [vl jm sg,vint im,vl vint gl,vl V.bool mu, .bool me]:=rfl;rw [e1] at c1 cgo ⊢;rw [e2] at c2 cgo ⊢;simp only [e3] at c2;refine qA (c:=jc Tryz.f16) Tryz.func16 rfl (by conv=>lhs; reduce) (by simp [Tryz.ntmps16]) ?_;rw [Tryz.ntmps16];intro hwf;refine QY ?_;refine QH 4 0 ?_;refine QH 5 1 ?_;refine QK [2] ?_;refine QP ?_
 refine QL (c1) ?_;refine QZ ?_;refine QL (c2) ?_
 by_cases hq:hb=true
 rotate_left
 ·have hq:hb=false:=by simpa using hq
  simp only [hq,aF,if_false,e2];refine bB hq ?_;refine bR ?_
  refine QT ?_;refine QJ (St S [] [none]) (St S [] [none]) [] ?_ (r:=by conv=>lhs; simp [QV]);refine QI ?_;refine bQ ?_
  refine WW (xs:=[.nils, .agg [vl vby mem,vint most,vl vu glb,vint fuel,vl vu inp,vl vu log],vint 6]) (by simp) ?_;exact jf hwf ((Ghost.tuple [] [_,_] (Ghost.nils_list _)).toB _) rfl
 obtain ⟨hg,hm1,hi1,hl1⟩:=hgood hq;simp only [hq,if_true];refine bB hq ?_;refine QN ?_;obtain ⟨n0,n1⟩:=hn
 by_cases h0:n<0
 ·rw [if_neg (show ¬ (0<=n/\n<(sg.length:Int)/\Ev.fitsL (sg.getD n.toNat default).inn args=true) by omega)];simp only [e2]
  refine bx h0 ?_
  refine QT ?_;refine QJ (St S [] [none]) (St S [] [none]) [] ?_ (r:=by conv=>lhs; simp [QV]);refine QI ?_;refine bQ ?_
  refine WW (xs:=[.nils, .agg [vl vby mem,vint most,vl vu glb,vint fuel,vl vu inp,vl vu log],vint 1]) (by simp) ?_;exact jf hwf ((Ghost.tuple [] [_,_] (Ghost.nils_list _)).toB _) rfl
 by_cases h1:n<(sg.length:Int)
 rotate_left
 ·rw [if_neg (show ¬ (0<=n/\n<(sg.length:Int)/\Ev.fitsL (sg.getD n.toNat default).inn args=true) by omega)];simp only [e2];have h2:(sg.length:Int)<=n:=by omega
  refine bv h0 h1 h2 ?_
  refine QT ?_;refine QJ (St S [] [none]) (St S [] [none]) [] ?_ (r:=by conv=>lhs; simp [QV]);refine QI ?_;refine bQ ?_
  refine WW (xs:=[.nils, .agg [vl vby mem,vint most,vl vu glb,vint fuel,vl vu inp,vl vu log],vint 1]) (by simp) ?_;exact jf hwf ((Ghost.tuple [] [_,_] (Ghost.nils_list _)).toB _) rfl
 obtain ⟨m,rfl⟩ : ∃ m:Nat,n=(m:Int):=⟨n.toNat,by omega⟩
 have hm:m<sg.length:=by omega
 have hm2 : ¬ sg.length<=m:=by omega
 have hmi : ¬ (m:Int)<0:=by omega
 have hmj : ¬ (sg.length:Int)<=(m:Int):=by omega
 obtain ⟨⟨ti,to⟩,ht⟩ : ∃ t,sg[m]=t:=⟨_,rfl⟩
 have hsg:sg[(m:Int).toNat]? = some ⟨ti,to⟩:=by rw [Int.toNat_natCast,ac hm,ht]
 have htl:=(hsr (i:=m) (t:=⟨ti,to⟩) (by rw [ac hm,ht])).1;have e4:(sg.getD (m:Int).toNat default).inn=ti:=by rw [ag,hsg]; rfl
 have c3:=c3 ⟨ti,to⟩ (by omega);simp only at c3 htl;rw [e4]
 by_cases hfi:Ev.fitsL ti args=true
 ·rw [if_pos ⟨by omega,h1,hfi⟩];rw [hfi] at c3;have hle:=Ev.fitsL_len hfi;obtain ⟨r,hr,hE⟩:=hends ⟨ti,to⟩ (by omega) hsg hle.symm hg hl1;rw [hr];have cg:=cgo r ⟨hg.fit,hg.fuel.1⟩ (by simp only; omega) (by have:=hg.glob; simp only at this ⊢; omega) (by simp only; omega) (by simp only; omega) (by omega) (by omega) (by omega) hr;obtain ⟨out,⟨mem',most',glb',fuel',inp',log'⟩,e⟩:=r;have e5:qf ⟨mem',most',glb',fuel',inp',log'⟩ = .agg [vl vby mem',vint most',vl vu glb',vint fuel',vl vu inp',vl vu log']:=rfl;simp only [e5] at cg ⊢;generalize (if e=0 then out else [])=o2 at *
  refine QT ?_;refine jG rfl rfl rfl ?_;refine QT ?_;refine jF rfl ?_;refine QP ?_ (r:=by conv=>lhs;simp[QV,hm,hmi,hmj,ht,hm2]);refine QL (c3) ?_;refine bQ ?_
  refine QP ?_;refine QL (cg) ?_;refine bQ ?_
  refine WW (xs:=[vl vu o2, .agg [vl vby mem',vint most',vl vu glb',vint fuel',vl vu inp',vl vu log'],vint e]) (by simp) ?_;exact jf hwf (GhostB.refl _ _ _) rfl
 ·rw [if_neg (fun h=>hfi h.2.2)];have hfi:Ev.fitsL ti args=false:=by simpa using hfi
  rw [hfi] at c3;simp only [e2];refine QT ?_;refine jG rfl rfl rfl ?_;refine QT ?_;refine jF rfl ?_;refine QP ?_ (r:=by conv=>lhs;simp[QV,hm,hmi,hmj,ht,hm2]);refine QL (c3) ?_;refine bQ ?_
  refine QT ?_;refine QJ (St S [] [none]) (St S [] [none]) [] ?_ (r:=by conv=>lhs; simp [QV]);refine QI ?_;refine bQ ?_
  refine WW (xs:=[.nils, .agg [vl vby mem,vint most,vl vu glb,vint fuel,vl vu inp,vl vu log],vint 1]) (by simp) ?_;exact jf hwf ((Ghost.tuple [] [_,_] (Ghost.nils_list _)).toB _) rfl
end Go.Vw
