import Derived.Test.YtkfllaokjaldnaaGreatC13
/- Part of the proof. -/
set_option linter.unusedVariables false
set_option linter.unusedSimpArgs false
set_option maxRecDepth 10000
set_option maxHeartbeats 8000000
namespace Go.Vw
open Go.Proofs Go.RowKit
attribute [-simp] List.map_set
abbrev insD:List Ty:=[.c, .c, .s [.c], .s [.c]]
abbrev KZ:List Ty:=[.c, .s [.c]]
abbrev blkD:List Ty:=[.s [.c], .s insD, .c, .c, .s KZ, .c]
def CopiedD (S:Store) (g:Ss.Fn) (r:V) (T:Store):Prop:=Agree S T/\T.Wf /\ ∃ (ot ob:Nat) (cells:List V) (ids:List Nat),r = .agg [vl cj g.sig.inn,vl cj g.sig.out, .slice ot 0 g.types.length, .slice ob 0 g.blocks.length]/\T.get ot=some (1,g.types.map cj)/\T.get ob=some (6,cells)/\OwL T (reps g.blocks.length blkD) cells (jq je g.blocks) ids/\(ot::ob::ids).Nodup /\ ∀ o∈ot::ob::ids,S.nx<=o/\o<T.nx
theorem akz (S:Store) (f:Ss.Fn) (to:List Int) (hf:f.Fits) (hs:f.small=true) (hto:to.length<2^63):b9 24 [jM f,vl cj to] S (CopiedD S (Ss.replace f to)):=by
 have csm:=jcx f hf;rw [hs] at csm;obtain ⟨hh,hbk,hcnt⟩:=(Ss.aao f).1 hs;simp only [Ss.Fn.heads,af,aj] at hh;obtain ⟨sm,hsm⟩ : ∃ sm,sm=true:=⟨_,rfl⟩
 rw [<-hsm] at csm;have cfi:=ajm f.sig.inn (by omega);have cfo:=ajm f.sig.out (by omega);have cft:=fun S=>jad S f.types (by omega)
 have hX:Ss.replace f to=⟨f.sig,f.types,f.blocks.map (Ss.repBlock to)⟩:=rfl;rw [hX];clear hX;obtain ⟨⟨fi,fo⟩,ts,bs⟩:=f;simp only at hh hbk hcnt cfi cfo cft ⊢;have csm':b8 64 [.agg [vl cj fi,vl cj fo,vl cj ts,vl je bs]] (.bool sm):=csm;refine qB (c:=jc Tryz.f24) Tryz.func24 rfl (by conv=>lhs; reduce) (by simp [Tryz.ntmps24]) ?_;rw [Tryz.ntmps24];intro hwf
 refine bz ?_
 refine QH 2 0 ?_;refine jy 3 rfl ((acr (k:=1) (by simp) (by rfl) (by rfl))) (by conv=>lhs; simp [Fr.set]) ?_;simp only [aq,au];refine QP ?_;refine QL (csm') ?_;refine bJ hsm ?_;refine QN ?_
 refine bD hsm ?_
 refine QO [2,4,5,6] ?_;refine QK [3,2] ?_;have cft':=cft (St S [] [some (1,[.func 73 [.ref (vl cj to)]]),some (4,[.nils, .nils, .nils, .nils])]);have cft2:=cft (St S [] [some (1,[.func 73 [.ref (vl cj to)]]),some (4,[.nils, .nils, .nils, .nils]),some (4,[.nils, .nils, .nils, .nils])]);rw [jR,qH, <-JI] at cft' cft2;simp only [bl,bm,aC,aM,a8,Nat.add_zero] at cft' cft2;refine QT ?_;refine JP (St S [] []) (St S [] []) [10032] 11 11 13 [11,12,13,14] [13,11,12,14] rfl (by kernel_rfl) (by conv=>lhs; reduce) (by kernel_rfl) (by decide) (by kernel_rfl) (by kernel_rfl) (by kernel_rfl) (by kernel_rfl) (by kernel_rfl) (by kernel_rfl) (by kernel_rfl) rfl rfl (by kernel_rfl) (Ky (by simp [subU,shpU,subL,shpL])) (by conv=>lhs; reduce) (by conv=>lhs; reduce) (by conv=>lhs; reduce) ?_;refine QZ ?_;refine QL (cfi) ?_
 refine QZ ?_;refine QL (cfo) ?_;refine QW ?_;refine ⟨?sm, ?Sm, ?H3, ?H1, ?H2⟩
 case H1 =>
  refine Wk rfl (cft') (by rfl) (Wc (zu _ _ (by simp [subU])) (by simp [subL])) (Ky (by simp [subU,shpU,subL,shpL])) ?_;refine QZ ?_;refine QI ?_;refine QZ ?_;refine QI ?_;refine QW ?_;refine zI [2,4,5,6,7] (Eq.trans (b := ?_) ?_ rfl)
  rotate_left
  conv=>lhs; simp [Fr.oy,Fr.lk]
 case H2 =>
  refine QI ?_;refine QZ ?_;refine Wk rfl (cft2) (by rfl) (Wc (zu _ _ (by simp [subU])) (by simp [subL])) (Ky (by simp [subU,shpU,subL,shpL])) ?_;refine QZ ?_;refine QI ?_;refine QW ?_;exact Jj [2,4,5,6,7] [0,1,3,2] (by conv=>lhs; simp [Fr.oy,Fr.lk]) hwf (by decide) (by simp) (by conv=>lhs; simp) (by conv=>lhs; simp) (by conv=>lhs; simp)
 refine bz ?_
 apply jv
 .exact Reach.voidCell 6 (k:=3) (i:=3) (by simp) (by rfl) (by rfl)
 simp only [bl,bm,aC,aM,aq,au];refine QO [4,5,6,7,35,36,37] ?_;refine QK [0,2,1,3,4] ?_;obtain ⟨pc,hpc⟩ : ∃ pc,pc=lid S.nx 0:=⟨_,rfl⟩
 obtain ⟨ot,hot⟩ : ∃ ot,ot=lid S.nx 1:=⟨_,rfl⟩
 rw [<-hpc, <-hot];refine bX [4,5,6,7,35,36,37] (fun c σ S' => ∃ (B:Store) (k:Nat) (out:List Ss.Block) (cells:List V) (ids:List Nat),Agree S B/\B.Wf/\(B.get pc=some (1,[.func 73 [.ref (vl cj to)]])/\pc<B.nx)/\(B.get ot=some (1,ts.map cj)/\S.nx<=ot/\ot<B.nx/\ot∉ids)/\k<=bs.length/\c=bs.length-k/\out=(bs.take k).map (Ss.repBlock to)/\out.length=k/\OwL B (reps k blkD) cells (jq je out) ids/\ids.Nodup/\(∀ o∈ids,S.nx<=o/\o<B.nx)/\σ=[(4, .ptr (lid B.nx 0) 0),(5, .ptr pc 0),(6, .func 74 [.ptr pc 0]),(7, .ptr (lid B.nx 1) 0),(35,vl je bs),(36,cu bs.length),(37,cu k)]/\S'=St B [] [some (4,[.nils, .nils, .nils, .nils]),some (4,[vl cj fi,vl cj fo, .slice ot 0 ts.length, .slice (lid B.nx 2) 0 k]),some (6,cells)]) bs.length ?_ ?_
 .refine ⟨St S [] [some (1,[.func 73 [.ref (vl cj to)]]),some (1,ts.map cj)],0,[],[],[],zE,acp hwf (by simp),⟨by rw [hpc,jB]; rfl,by rw [hpc,jR]; simp [lid]⟩,⟨by rw [hot,jB]; rfl,by rw [hot,lid]; omega,by rw [hot,jR]; simp [lid],by simp⟩,by omega,rfl,by simp,rfl, .nil,by simp,by simp,by simp [Fr.oy,jR,qH], ?_⟩;refine (JI (l:=[_,_])).trans ?_;simp [jR,qH]
 .rintro c σ T ⟨B,k,out,cells,ids,hag,hwfB,⟨hpg,hpB⟩,⟨hotg,hots,hotB,hotn⟩,hk,rfl,ho,hol,how,hnd,hids,rfl,rfl⟩;have hwfS:=hwf;clear hwf;have hwf:=hwfB;refine jal hag.1 ?_;have hci:=fun ks=>(how.old (fun o ho=>(hids o ho).2) ks).1
  have hcr:=fun ks=>(how.old (fun o ho=>(hids o ho).2) ks).2
  have gtP:=fun ks=>qW (n:=B.nx) ks hotB
  have gtT:=fun ks=>qu (n:=B.nx) ks hotB
  have gpP:=fun ks=>qW (n:=B.nx) ks hpB
  have gpT:=fun ks=>qu (n:=B.nx) ks hpB
  by_cases hkt:k<bs.length
  case neg =>
   have hke:k=bs.length:=by omega
   subst hke;rw [List.take_length] at ho
   refine bD hkt ?_
   refine Ye (xs:=[.agg [vl cj fi,vl cj fo, .slice ot 0 ts.length, .slice (lid B.nx 2) 0 bs.length]]) (by simp) ?_;rw [agd];have hlb:(bs.map (Ss.repBlock to)).length=bs.length:=aI _;have hcw:V.idsL (fun o=>decide (o<lid B.nx 3)) cells=true:=how.ids_lt fun o ho=>bv (aS (hids o ho).2 (by rw [lid]; omega))
   have hotw:ot<lid B.nx 3:=aS hotB (by rw [lid]; omega);refine zM ⟨hag.St,acp hwf (by simp [hcw,ayz,hotw]),ot,lid B.nx 2,cells,ids,by rw [hlb],by rw [jk hotB]; exact hotg,by rw [jB]; rfl, ?_, ?_, ?_⟩
   .rw [hlb, <-ho];exact how.mono fun o ho=>by rw [jk (hids o ho).2]; rfl
   .refine List.nodup_cons.2 ⟨fun hm => ?_,List.nodup_cons.2 ⟨fun hm => ?_,hnd⟩⟩
    .rcases aL.1 hm with e | hm
     .rw [e,lid] at hotB; omega
     .exact hotn hm
    .have:=(hids _ hm).2;simp only [lid] at this; omega
   .intro o ho;have hle:=hag.1;rw [jR];rcases aL.1 ho with rfl | ho
    .simp only [lid,aC,aM]; omega
    rcases aL.1 ho with rfl | ho
    .simp only [lid,aC,aM]; omega
    .have:=hids o ho;simp only [lid,aC,aM]; omega
  have hw:=jg hkt (by omega);have hbk':=hbk _ (ah hkt);have hcb:=abb (ah hkt);have htk:(bs.take (k+1)).map (Ss.repBlock to)=(bs.take k).map (Ss.repBlock to)++[Ss.repBlock to bs[k]]:=by rw [List.take_add_one,ac hkt,List.map_append]; rfl
  obtain ⟨⟨ps,code,⟨tk,ta,tt,az⟩⟩,hx⟩ : ∃ b,bs[k]=b:=⟨_,rfl⟩
  rw [hx] at hbk' htk hcb;simp only [Ss.Block.small,af,aD,Ss.Ins.small,Ss.Edge.small,aj] at hbk';obtain ⟨⟨⟨⟨hps,htt⟩,haz⟩,hcode⟩,hto2⟩:=hbk';simp only at hcb;have hcl:code.length<=4096:=by omega
  have cps:=fun S=>jad S ps (by omega)
  refine bF hkt hx ?_
  refine QH 9 3 ?_;refine QO [4,5,6,7,9,35,36,37] ?_;refine Yq [0,1,2] hwf (by decide) (by simp [gpP,gpT,gtP,gtT,hci,hcr]) (by conv=>lhs; simp [gpP,gpT,gtP,gtT,hci,hcr]) (by conv=>lhs; simp [gpP,gpT,gtP,gtT,hci,hcr]) (by conv=>lhs; simp [gpP,gpT,gtP,gtT,hci,hcr]) ?_;have cps':=cps (St B [] [some (4,[.nils, .nils, .nils, .nils]),some (4,[vl cj fi,vl cj fo, .slice ot 0 ts.length, .slice (lid B.nx 2) 0 k]),some (6,cells)]);have cps2:=cps (St B [] [some (4,[.nils, .nils, .nils, .nils]),some (4,[vl cj fi,vl cj fo, .slice ot 0 ts.length, .slice (lid B.nx 2) 0 k]),some (6,cells),some (6,[.nils, .nils, .int .i64 0, .int .i64 0, .nils, .nils])]);rw [jR,qH, <-JI] at cps' cps2;simp only [bl,bm,aC,aM,a8,Nat.add_zero] at cps' cps2;refine QT ?_;refine JP (St B [] []) (St B [] []) [10043] 2 2 6 [2,3,4,5,6,7] [6,2,3,4,5,7] rfl (by kernel_rfl) (by conv=>lhs; reduce) (by kernel_rfl) (by decide) (by kernel_rfl) (by kernel_rfl) (by kernel_rfl) (by kernel_rfl) (by kernel_rfl) (by kernel_rfl) (by kernel_rfl) rfl rfl (by kernel_rfl) (Ky (by simp [subU,shpU,subL,shpL])) (by conv=>lhs; reduce) (by conv=>lhs; reduce) (by conv=>lhs; reduce) ?_
  refine QW ?_;refine ⟨?sm2, ?Sm2, ?H3b, ?H1b, ?H2b⟩
  case H1b =>
   refine Wk rfl (cps') (by rfl) (Wc (zu _ _ (by simp [subU])) (by simp [subL])) (Ky (by simp [subU,shpU,subL,shpL])) ?_;refine QZ ?_;refine QI ?_;refine QZ ?_;refine QI ?_;refine QW ?_;refine zI [4,5,6,7,9,10,35,36,37] (Eq.trans (b := ?_) ?_ rfl)
   rotate_left
   conv=>lhs; simp [Fr.oy,Fr.lk]
  case H2b =>
   refine QI ?_;refine QZ ?_;refine Wk rfl (cps2) (by rfl) (Wc (zu _ _ (by simp [subU])) (by simp [subL])) (Ky (by simp [subU,shpU,subL,shpL])) ?_;refine QZ ?_;refine QI ?_;refine QW ?_;exact Jj [4,5,6,7,9,10,35,36,37] [0,1,2,4,3] (by conv=>lhs; simp [Fr.oy,Fr.lk]) hwf (by decide) (by simp [gpP,gpT,gtP,gtT,hci,hcr]) (by conv=>lhs; simp [gpP,gpT,gtP,gtT,hci,hcr]) (by conv=>lhs; simp [gpP,gpT,gtP,gtT,hci,hcr]) (by conv=>lhs; simp [gpP,gpT,gtP,gtT,hci,hcr])
  refine bz ?_
  apply jv
  .exact Reach.voidCell 4 (k:=4) (i:=1) (by simp) (by rfl) (by rfl)
  simp only [bl,bm,aC,aM,aq,au];refine bX [4,5,6,7,9,10,35,36,37,48,49,50] (fun c σ S' => ∃ (B2:Store) (j:Nat) (co:List Ss.Ins) (cc:List V) (ci:List Nat),Agree B B2/\B2.Wf/\j<=code.length/\c=code.length-j/\co=(code.take j).map (Ss.repIns to)/\co.length=j/\OwL B2 (reps j insD) cc (jq js co) ci/\ci.Nodup/\(∀ o∈ci,B.nx<=o/\o<B2.nx)/\σ=[(4, .ptr (lid B2.nx 0) 0),(5, .ptr pc 0),(6, .func 74 [.ptr pc 0]),(7, .ptr (lid B2.nx 1) 0),(9, .ref (.agg [vl cj ps,vl js code, .int .i64 tk, .int .i64 ta,vl ji tt,vl cj az])),(10, .ptr (lid B2.nx 4) 0),(35,vl je bs),(36,cu bs.length),(37,cu k),(48,vl js code),(49,cu code.length),(50,cu j)]/\S'=St B2 [] [some (4,[.nils, .nils, .nils, .nils]),some (4,[vl cj fi,vl cj fo, .slice ot 0 ts.length, .slice (lid B2.nx 2) 0 k]),some (6,cells),some (1,ps.map cj),some (6,[.slice (lid B2.nx 3) 0 ps.length, .slice (lid B2.nx 5) 0 j, .int .i64 tk, .int .i64 ta,vl ji tt,vl cj az]),some (4,cc)]) code.length ?_ ?_
  .exact ⟨B,0,[],[],[],⟨a9 _,fun _ _=>rfl⟩,hwf,by omega,rfl,by simp,rfl, .nil,by simp,by simp,by simp [Fr.oy],by simp⟩
  .rintro c σ T ⟨B2,j,co,cc,ci,hag2,hwfB2,hj,rfl,hco,hcol,hwc,hcnd,hcid,rfl,rfl⟩;have hwfB1:=hwf;clear hwf;have hwf:=hwfB2;refine jal hag2.1 ?_;have hle2:=hag2.1;have hci2:=fun ks=>(how.old (n:=B2.nx) (fun o ho=>aS (hids o ho).2 hle2) ks).1
   have hcr2:=fun ks=>(how.old (n:=B2.nx) (fun o ho=>aS (hids o ho).2 hle2) ks).2
   have hcc2:=fun ks=>(hwc.old (fun o ho=>(hcid o ho).2) ks).1
   have hcw2:=fun ks=>(hwc.old (fun o ho=>(hcid o ho).2) ks).2
   have gtP2:=fun ks=>qW (n:=B2.nx) ks (aS hotB hle2)
   have gtT2:=fun ks=>qu (n:=B2.nx) ks (aS hotB hle2)
   have gpP2:=fun ks=>qW (n:=B2.nx) ks (aS hpB hle2)
   have gpT2:=fun ks=>qu (n:=B2.nx) ks (aS hpB hle2)
   have hpg2:B2.get pc=some (1,[.func 73 [.ref (vl cj to)]]):=(hag2.2 pc hpB).trans hpg;have hpc2 : ∀ l,(St B2 [] l).get pc=some (1,[.func 73 [.ref (vl cj to)]]):=fun l=>by rw [jk (aS hpB hle2)]; exact hpg2
   by_cases hjt:j<code.length
   case neg =>
    have hje:j=code.length:=by omega
    subst hje;rw [List.take_length] at hco;have cbr:=jci ⟨tk,ta,tt,az⟩;obtain ⟨br,hbr⟩ : ∃ br,Ss.branches ⟨tk,ta,tt,az⟩=br:=⟨_,rfl⟩
    rw [hbr] at cbr;have cbr':b8 76 [.agg [.int .i64 tk, .int .i64 ta,vl ji tt,vl cj az]] (.bool br):=cbr;have hbr2:br=true↔(tk=2\/tk=3):=by rw [<-hbr]; simp [Ss.branches]
    have cone:=auq ta to hto;generalize hgt:Ss.putv to ta=gt at *
    refine bR hjt ?_;refine QT ?_;refine jD rfl rfl rfl ?_;refine QT ?_;refine jP 2 rfl rfl ?_;refine JO rfl ?_;refine jaj (fun σ S'=>σ=[(4, .ptr (lid B2.nx 0) 0),(5, .ptr pc 0),(6, .func 74 [.ptr pc 0]),(7, .ptr (lid B2.nx 1) 0),(9, .ref (.agg [vl cj ps,vl js code, .int .i64 tk, .int .i64 ta,vl ji tt,vl cj az])),(10, .ptr (lid B2.nx 4) 0),(35,vl je bs),(36,cu bs.length),(37,cu k)]/\S'=St B2 [] [some (4,[.nils, .nils, .nils, .nils]),some (4,[vl cj fi,vl cj fo, .slice ot 0 ts.length, .slice (lid B2.nx 2) 0 k]),some (6,cells),some (1,ps.map cj),some (6,[.slice (lid B2.nx 3) 0 ps.length, .slice (lid B2.nx 5) 0 code.length, .int .i64 tk, .int .i64 (if tk=2\/tk=3 then gt else ta),vl ji tt,vl cj az]),some (4,cc)]) [4,5,6,7,9,10,35,36,37] ?_ ?_
    .refine QP ?_;refine QL (cbr') ?_
     by_cases h:br=true
     .have h2:=hbr2.1 h;refine bJ h ?_;refine bW ?_
      refine bN hpc2 ?_;refine jao (cone) (by rfl) (by rfl) (by rfl) ?_;refine QW ?_;exact ⟨by simp [Fr.oy],by simp [h2]⟩
     .have h':br=false:=by simpa using h
      have h2 : ¬ (tk=2\/tk=3):=fun e=>h (hbr2.2 e)
      refine bJ h' ?_;refine bW ?_
      exact ⟨by simp [Fr.oy],by simp [h2]⟩
    rintro σ S' ⟨rfl,rfl⟩;refine jal hag2.1 ?_;generalize hgg:(if tk=2\/tk=3 then gt else ta)=gg;have cza:=ae1 (St B2 [] [some (4,[.nils, .nils, .nils, .nils]),some (4,[vl cj fi,vl cj fo, .slice ot 0 ts.length, .slice (lid B2.nx 2) 0 k]),some (6,cells),some (1,ps.map cj),some (6,[.slice (lid B2.nx 3) 0 ps.length, .slice (lid B2.nx 5) 0 code.length, .int .i64 tk, .int .i64 gg,vl ji tt,vl cj az]),some (4,cc)]) az to pc (hpc2 _) (by omega) hto;have hgzl:(az.map (Ss.putv to)).length=az.length:=aI _;generalize hgz:az.map (Ss.putv to)=gz at *
    rw [jR,qH, <-JI] at cza;simp only [bl,bm,aC,aM,a8,Nat.add_zero] at cza;refine QP ?_;refine zH (by rfl) (by rfl) (by rfl) cza ?_;rintro X T' ⟨rfl,rfl⟩;refine QW ?_
    apply jv
    .exact Reach.frzCell (k:=4) (j:=6) (i:=5) (n:=az.length) (cells':=gz.map cj) (by decide) (by simp) (by simp) rfl rfl rfl (jo cj (fun _=>rfl) _) (by simp [hgzl])
    simp only [aq,au]
    refine bz ?_
    apply jv
    .exact Reach.voidCell 2 (k:=4) (i:=4) (by simp) (by rfl) (by rfl)
    simp only [bl,bm,aC,aM,aq,au];refine QO [4,5,6,7,10,35,36,37,91,92,93] ?_;refine Yq [0,1,2,3,4,5,7] hwf (by decide) (by simp [gpP2,gpT2,gtP2,gtT2,hci2,hcr2,hcc2,hcw2]) (by conv=>lhs; simp [gpP2,gpT2,gtP2,gtT2,hci2,hcr2,hcc2,hcw2]) (by conv=>lhs; simp [gpP2,gpT2,gtP2,gtT2,hci2,hcr2,hcc2,hcw2]) (by conv=>lhs; simp [gpP2,gpT2,gtP2,gtT2,hci2,hcr2,hcc2,hcw2]) ?_;refine bX [4,5,6,7,10,35,36,37,91,92,93] (fun c σ S' => ∃ (B3:Store) (q:Nat) (eo:List Ss.Edge) (ec:List V) (ei:List Nat),Agree B2 B3/\B3.Wf/\q<=tt.length/\c=tt.length-q/\eo=(tt.take q).map (Ss.repEdge to)/\eo.length=q/\OwL B3 (reps q KZ) ec (jq ji eo) ei/\ei.Nodup/\(∀ o∈ei,B2.nx<=o/\o<B3.nx)/\σ=[(4, .ptr (lid B3.nx 0) 0),(5, .ptr pc 0),(6, .func 74 [.ptr pc 0]),(7, .ptr (lid B3.nx 1) 0),(10, .ptr (lid B3.nx 4) 0),(35,vl je bs),(36,cu bs.length),(37,cu k),(91,vl ji tt),(92,cu tt.length),(93,cu q)]/\S'=St B3 [] [some (4,[.nils, .nils, .nils, .nils]),some (4,[vl cj fi,vl cj fo, .slice ot 0 ts.length, .slice (lid B3.nx 2) 0 k]),some (6,cells),some (1,ps.map cj),some (6,[.slice (lid B3.nx 3) 0 ps.length, .slice (lid B3.nx 5) 0 code.length, .int .i64 tk, .int .i64 gg, .slice (lid B3.nx 6) 0 q,vl cj gz]),some (4,cc),some (2,ec)]) tt.length ?_ ?_
    .exact ⟨B2,0,[],[],[],⟨a9 _,fun _ _=>rfl⟩,hwf,by omega,rfl,by simp,rfl, .nil,by simp,by simp,by simp [Fr.oy],by simp [vl]⟩
    .rintro c σ T ⟨B3,q,eo,ec,ei,hag3,hwfB3,hq,rfl,heo,heol,hwe,hend,heid,rfl,rfl⟩;have hwfB2':=hwf;clear hwf;have hwf:=hwfB3;refine jal hag3.1 ?_;have hle3:=hag3.1;have hci3:=fun ks=>(how.old (n:=B3.nx) (fun o ho=>aS (hids o ho).2 (bd hle2 hle3)) ks).1
     have hcr3:=fun ks=>(how.old (n:=B3.nx) (fun o ho=>aS (hids o ho).2 (bd hle2 hle3)) ks).2
     have hcc3:=fun ks=>(hwc.old (n:=B3.nx) (fun o ho=>aS (hcid o ho).2 hle3) ks).1
     have hcw3:=fun ks=>(hwc.old (n:=B3.nx) (fun o ho=>aS (hcid o ho).2 hle3) ks).2
     have hce3:=fun ks=>(hwe.old (fun o ho=>(heid o ho).2) ks).1
     have hcx3:=fun ks=>(hwe.old (fun o ho=>(heid o ho).2) ks).2
     have hotB3:=aS hotB (bd hle2 hle3);have hpB3:=aS hpB (bd hle2 hle3);have gtP3:=fun ks=>qW (n:=B3.nx) ks hotB3
     have gtT3:=fun ks=>qu (n:=B3.nx) ks hotB3
     have gpP3:=fun ks=>qW (n:=B3.nx) ks hpB3
     have gpT3:=fun ks=>qu (n:=B3.nx) ks hpB3
     have hpc3 : ∀ l,(St B3 [] l).get pc=some (1,[.func 73 [.ref (vl cj to)]]):=fun l=>by rw [jk hpB3]; exact (hag3.2 pc (aS hpB hle2)).trans hpg2
     by_cases hqt:q<tt.length
     case neg =>
      have hqe:q=tt.length:=by omega
      subst hqe;rw [List.take_length] at heo;have hcel:cells.length=k*6:=by rw [how.len.1,Jw]; rfl
      have hb:(k+1)*112<=140737488355328:=by omega
      have hb':k+1<=140737488355328:=by omega
      repeat first|refine QG ?_|refine QY ?_ (r:=by conv=>lhs;simp[QV,hqt,hb,hb',hcel,rep0,hw])
      show jx _ _ _ _ _ _ _;refine Zg (b':=B3.nx) (bd hag.1 (bd hle2 hle3)) ?_;have hblk:Ss.repBlock to ⟨ps,code,⟨tk,ta,tt,az⟩⟩=⟨ps,co,⟨tk,gg,eo,gz⟩⟩:=by
       simp only [Ss.repBlock,Ss.repTerm,hgt,hgz,hgg,hco,heo]
      have hagB:Agree S B3:=(hag.trans hag2).trans hag3;have hB4 : ∀ o,o<B3.nx->(St B3 [] [some (1,ps.map cj),some (4,cc),some (2,ec)]).get o=B3.get o:=fun o ho=>by rw [jk ho]; rfl
      have hgB : ∀ o,o<B.nx->(St B3 [] [some (1,ps.map cj),some (4,cc),some (2,ec)]).get o=B.get o:=fun o ho=>by
       rw [hB4 o (by omega),hag3.2 o (by omega),hag2.2 o ho]
      have hgB2 : ∀ o,o<B2.nx->(St B3 [] [some (1,ps.map cj),some (4,cc),some (2,ec)]).get o=B2.get o:=fun o ho=>by
       rw [hB4 o (by omega),hag3.2 o ho]
      have hnew:OwL (St B3 [] [some (1,ps.map cj),some (4,cc),some (2,ec)]) blkD [.slice (lid B3.nx 0) 0 ps.length, .slice (lid B3.nx 1) 0 code.length, .int .i64 tk, .int .i64 gg, .slice (lid B3.nx 2) 0 tt.length,vl cj gz] (je ⟨ps,co,⟨tk,gg,eo,gz⟩⟩).cells (lid B3.nx 0::(lid B3.nx 1::(ci++(lid B3.nx 2::(ei++[]))))):=by
       rw [zk];refine OwL.slice (enc:=cj) (fun _=>rfl) (fun _=>rfl) ps (by rw [jB,qA]; rfl) ?_;have h1:=OwL.s (S:=St B3 [] [some (1,ps.map cj),some (4,cc),some (2,ec)]) (o:=lid B3.nx 1) (tys:=insD) (cells:=cc) (ys:=co.map js) (by rw [jB]; rfl) (fun y hy=>(by
        obtain ⟨b,_,rfl⟩:=bi.1 hy;exact ⟨by rw [zr]; rfl,Jg b⟩)) (by rw [aI,zj,hcol]; exact hwc.mono fun o ho=>hgB2 o (hcid o ho).2)
        (.c (x := .int .i64 tk) rfl (.c (x := .int .i64 gg) rfl (OwL.s (S:=St B3 [] [some (1,ps.map cj),some (4,cc),some (2,ec)]) (o:=lid B3.nx 2) (tys:=KZ) (cells:=ec) (ys:=eo.map ji) (by rw [jB]; rfl) (fun y hy=>(by
         obtain ⟨b,_,rfl⟩:=bi.1 hy;exact ⟨by rw [zB]; rfl,zT b⟩)) (by rw [aI,zj,heol]; exact hwe.mono fun o ho=>hB4 o (heid o ho).2) (.c (x:=vl cj gz) rfl .nil))))
       rw [aI,aI,hcol,heol] at h1;exact h1
      have hown:OwL (St B3 [] [some (1,ps.map cj),some (4,cc),some (2,ec)]) (reps (k+1) blkD) (cells++[.slice (lid B3.nx 0) 0 ps.length, .slice (lid B3.nx 1) 0 code.length, .int .i64 tk, .int .i64 gg, .slice (lid B3.nx 2) 0 tt.length,vl cj gz]) (jq je (out++[⟨ps,co,⟨tk,gg,eo,gz⟩⟩])) (ids++lid B3.nx 0::(lid B3.nx 1::(ci++(lid B3.nx 2::(ei++[]))))):=by
       rw [jax,Jl];exact (how.mono fun o ho=>hgB o (hids o ho).2).append hnew
      have hmem : ∀ o,o∈lid B3.nx 0::(lid B3.nx 1::(ci++(lid B3.nx 2::(ei++[]))))->(o=lid B3.nx 0\/o=lid B3.nx 1\/o=lid B3.nx 2)\/(B.nx<=o/\o<B2.nx/\o∈ci)\/(B2.nx<=o/\o<B3.nx/\o∈ei):=by
       intro o ho;simp only [aL,aG,List.not_mem_nil,or_false] at ho;rcases ho with h | h | h | h | h
       .exact .inl (.inl h)
       .exact .inl (.inr (.inl h))
       .exact .inr (.inl ⟨(hcid o h).1,(hcid o h).2,h⟩)
       .exact .inl (.inr (.inr h))
       .exact .inr (.inr ⟨(heid o h).1,(heid o h).2,h⟩)
      have hge : ∀ o,o∈lid B3.nx 0::(lid B3.nx 1::(ci++(lid B3.nx 2::(ei++[]))))->B.nx<=o/\o<(St B3 [] [some (1,ps.map cj),some (4,cc),some (2,ec)]).nx:=by
       intro o ho;rw [jR];rcases hmem o ho with (h | h | h) | h | h
       .rw [h]; simp only [lid,aC,aM]; omega
       .rw [h]; simp only [lid,aC,aM]; omega
       .rw [h]; simp only [lid,aC,aM]; omega
       .simp only [lid,aC,aM]; omega
       .simp only [lid,aC,aM]; omega
      have hndI:(lid B3.nx 0::(lid B3.nx 1::(ci++(lid B3.nx 2::(ei++[]))))).Nodup:=by
       have nci : ∀ q,lid B3.nx q∉ci:=fun q h=>by have:=(hcid _ h).2; simp only [lid] at this; omega
       have nei : ∀ q,lid B3.nx q∉ei:=fun q h=>by have:=(heid _ h).2; simp only [lid] at this; omega
       rw [List.append_nil];refine List.nodup_cons.2 ⟨?_,List.nodup_cons.2 ⟨?_,List.nodup_append.2 ⟨hcnd,List.nodup_cons.2 ⟨nei 2,hend⟩, ?_⟩⟩⟩
       .simp only [aL,aG,not_or];exact ⟨by simp [lid],nci 0,by simp [lid],nei 0⟩
       .simp only [aL,aG,not_or];exact ⟨nci 1,by simp [lid],nei 1⟩
       .intro a ha b hb e;rcases aL.1 hb with rfl | hb
        .exact nci 2 (e▸ha)
        .have h1:=(hcid a ha).2;have h2:=(heid b hb).1;omega
      have hndN:(ids++lid B3.nx 0::(lid B3.nx 1::(ci++(lid B3.nx 2::(ei++[]))))).Nodup:=by
       refine List.nodup_append.2 ⟨hnd,hndI,fun a ha b hb e => ?_⟩;have h1:=(hids a ha).2;have h2:=(hge b hb).1;omega
      have hidN : ∀ o∈ids++lid B3.nx 0::(lid B3.nx 1::(ci++(lid B3.nx 2::(ei++[])))),S.nx<=o/\o<(St B3 [] [some (1,ps.map cj),some (4,cc),some (2,ec)]).nx:=by
       intro o ho;have hle:=hag.1;rcases aG.1 ho with ho | ho
       .have:=hids o ho;rw [jR]; simp only [lid,aC,aM]; omega
       .have:=hge o ho;omega
      have hotN:(St B3 [] [some (1,ps.map cj),some (4,cc),some (2,ec)]).get ot=some (1,ts.map cj)/\S.nx<=ot/\ot<(St B3 [] [some (1,ps.map cj),some (4,cc),some (2,ec)]).nx/\ot∉ids++lid B3.nx 0::(lid B3.nx 1::(ci++(lid B3.nx 2::(ei++[])))):=by
       refine ⟨by rw [hgB ot hotB]; exact hotg,hots,by rw [jR]; simp only [lid,aC,aM]; omega,fun hm => ?_⟩;rcases aG.1 hm with hm | hm
       .exact hotn hm
       .have:=(hge ot hm).1; omega
      have hpN:(St B3 [] [some (1,ps.map cj),some (4,cc),some (2,ec)]).get pc=some (1,[.func 73 [.ref (vl cj to)]])/\pc<(St B3 [] [some (1,ps.map cj),some (4,cc),some (2,ec)]).nx:=⟨by rw [hgB pc hpB]; exact hpg,by rw [jR]; simp only [lid,aC,aM]; omega⟩
      have hcw':V.idsL (fun o=>decide (o<lid B3.nx 3)) cc=true:=hwc.ids_lt fun o ho=>bv (by have:=(hcid o ho).2; simp only [lid]; omega)
      have hew':V.idsL (fun o=>decide (o<lid B3.nx 3)) ec=true:=hwe.ids_lt fun o ho=>bv (by have:=(heid o ho).2; simp only [lid]; omega)
      refine qh [3,5,6,0,1,8] (by conv=>lhs; simp [Fr.oy]) hwf (by decide) (by simp [gpP3,gpT3,gtP3,gtT3,hci3,hcr3,hcc3,hcw3,hce3,hcx3]) (by conv=>lhs; simp [gpP3,gpT3,gtP3,gtT3,hci3,hcr3,hcc3,hcw3,hce3,hcx3]) (by conv=>lhs; simp [gpP3,gpT3,gtP3,gtT3,hci3,hcr3,hcc3,hcw3,hce3,hcx3]) (by conv=>lhs; simp [gpP3,gpT3,gtP3,gtT3,hci3,hcr3,hcc3,hcw3,hce3,hcx3]) ⟨?_,St B3 [] [some (1,ps.map cj),some (4,cc),some (2,ec)],k+1,out++[⟨ps,co,⟨tk,gg,eo,gz⟩⟩],cells++[.slice (lid B3.nx 0) 0 ps.length, .slice (lid B3.nx 1) 0 code.length, .int .i64 tk, .int .i64 gg, .slice (lid B3.nx 2) 0 tt.length,vl cj gz],ids++lid B3.nx 0::(lid B3.nx 1::(ci++(lid B3.nx 2::(ei++[])))),hagB.St,acp hwf (by simp [hcw',hew']),hpN,hotN,hkt,rfl,by rw [htk,hblk,ho],by simp [hol],hown,hndN,hidN,by simp [jR,qH],(by refine (JI (l:=[_,_,_])).trans ?_; simp [jR,qH])⟩
      omega
     have hwq:=jg hqt (by omega);have heq:=hto2 _ (ah hqt);have hcq:(tt.take (q+1)).map (Ss.repEdge to)=(tt.take q).map (Ss.repEdge to)++[Ss.repEdge to tt[q]]:=by rw [List.take_add_one,ac hqt,List.map_append]; rfl
     obtain ⟨⟨xt,xa⟩,hx2⟩ : ∃ x,tt[q]=x:=⟨_,rfl⟩
     rw [hx2] at hcq heq;simp only at heq;have hecl:ec.length=q*2:=by rw [hwe.len.1,Jw]; rfl
     have hb:(q+1)*32<=140737488355328:=by omega
     have hb':q+1<=140737488355328:=by omega
     have cea:=ae1 (St B3 [] [some (4,[.nils, .nils, .nils, .nils]),some (4,[vl cj fi,vl cj fo, .slice ot 0 ts.length, .slice (lid B3.nx 2) 0 k]),some (6,cells),some (1,ps.map cj),some (6,[.slice (lid B3.nx 3) 0 ps.length, .slice (lid B3.nx 5) 0 code.length, .int .i64 tk, .int .i64 gg, .slice (lid B3.nx 6) 0 q,vl cj gz]),some (4,cc),some (2,ec),none]) xa to pc (hpc3 _) (by omega) hto;have hgal:(xa.map (Ss.putv to)).length=xa.length:=aI _;generalize hga:xa.map (Ss.putv to)=ga at *
     rw [jR,qH, <-JI] at cea;simp only [bl,bm,aC,aM,a8,Nat.add_zero] at cea
     refine bF hqt hx2 ?_
     refine QH 14 7 ?_;refine bZ (St B3 [] []) (St B3 [] [none,none,none,none,some (6,[])]) [99,10105] ?_ (r:=by conv=>lhs; simp [QV]);refine ael (by rfl) (by rfl) (by rfl) (cea) (by rfl) (Wc (zu _ _ (by simp [subU])) (by simp [subL])) (Ky (by simp [subU,shpU,subL,shpL])) ?_;refine QZ ?_;refine QI ?_ (r:=by conv=>lhs;simp[QV,rep0]);refine QZ ?_;refine QI ?_ (r:=by conv=>lhs;simp[QV,hb,hb',hecl]);refine QZ ?_;refine QI ?_;refine QW ?_
     refine bD hwq ?_
     show jx _ _ _ _ _ _ _;refine Zg hag3.1 ?_;have hB4 : ∀ o,o<B3.nx->(St B3 [] [some (1,ga.map cj)]).get o=B3.get o:=fun o ho=>by rw [jk ho]; rfl
     have hnew:OwL (St B3 [] [some (1,ga.map cj)]) KZ [.int .i64 xt, .slice (lid B3.nx 0) 0 xa.length] (ji ⟨xt,ga⟩).cells [lid B3.nx 0]:=by
      rw [zB, <-hgal];exact .c rfl (OwL.slice (enc:=cj) (fun _=>rfl) (fun _=>rfl) ga (by rw [jB,qA]; rfl) .nil)
     have hown:OwL (St B3 [] [some (1,ga.map cj)]) (reps (q+1) KZ) (ec++[.int .i64 xt, .slice (lid B3.nx 0) 0 xa.length]) (jq ji (eo++[⟨xt,ga⟩])) (ei++[lid B3.nx 0]):=by
      rw [jax,Jl];exact (hwe.mono fun o ho=>hB4 o (heid o ho).2).append hnew
     have hri:Ss.repEdge to ⟨xt,xa⟩=⟨xt,ga⟩:=by simp only [Ss.repEdge,hga]
     have hndN:(ei++[lid B3.nx 0]).Nodup:=by
      refine List.nodup_append.2 ⟨hend,by simp,fun a ha b hb e => ?_⟩;have:=(heid a ha).2;simp only [aU] at hb;rw [e,hb,lid] at this; omega
     have hidN : ∀ o∈ei++[lid B3.nx 0],B2.nx<=o/\o<(St B3 [] [some (1,ga.map cj)]).nx:=by
      intro o ho;rw [jR];rcases aG.1 ho with ho | ho
      .have:=heid o ho;simp only [lid,aC,aM]; omega
      .simp only [aU] at ho;rw [ho]; simp only [lid,aC,aM]; omega
     refine qh [8,0,1,2,3,4,5,10] (by conv=>lhs; simp [Fr.oy]) hwf (by decide) (by simp [gpP3,gpT3,gtP3,gtT3,hci3,hcr3,hcc3,hcw3,hce3,hcx3]) (by conv=>lhs; simp [gpP3,gpT3,gtP3,gtT3,hci3,hcr3,hcc3,hcw3,hce3,hcx3]) (by conv=>lhs; simp [gpP3,gpT3,gtP3,gtT3,hci3,hcr3,hcc3,hcw3,hce3,hcx3]) (by conv=>lhs; simp [gpP3,gpT3,gtP3,gtT3,hci3,hcr3,hcc3,hcw3,hce3,hcx3]) ⟨?_,St B3 [] [some (1,ga.map cj)],q+1,eo++[⟨xt,ga⟩],ec++[.int .i64 xt, .slice (lid B3.nx 0) 0 xa.length],ei++[lid B3.nx 0],hag3.St,acp hwf (by simp),hqt,rfl,by rw [hcq,hri,heo],by simp [heol],hown,hndN,hidN,by simp [jR,qH],(by refine (at7).trans ?_; simp [jR,qH])⟩;omega
   have hwj:=jg hjt (by omega);have hcj:(code.take (j+1)).map (Ss.repIns to)=(code.take j).map (Ss.repIns to)++[Ss.repIns to code[j]]:=by rw [List.take_add_one,ac hjt,List.map_append]; rfl
   have hsj:=hcode _ (ah hjt);obtain ⟨⟨xo,xn,xa,xu⟩,hx2⟩ : ∃ x,code[j]=x:=⟨_,rfl⟩
   rw [hx2] at hcj hsj;simp only at hsj;have hccl:cc.length=j*4:=by rw [hwc.len.1,Jw]; rfl
   have hb:(j+1)*64<=140737488355328:=by omega
   have hb':j+1<=140737488355328:=by omega
   obtain ⟨LL,hLL⟩ : ∃ LL,LL=([some (4,[.nils, .nils, .nils, .nils]),some (4,[vl cj fi,vl cj fo, .slice ot 0 ts.length, .slice (lid B2.nx 2) 0 k]),some (6,cells),some (1,ps.map cj),some (6,[.slice (lid B2.nx 3) 0 ps.length, .slice (lid B2.nx 5) 0 j, .int .i64 tk, .int .i64 ta,vl ji tt,vl cj az]),some (4,cc),some (4,[.int .i64 xo, .int .u64 xn,vl cj xa,vl cj xu])]:List (Option (Nat × List V))):=⟨_,rfl⟩
   have ca1:=ae1 (St B2 [] LL) xa to pc (hpc2 _) (by omega) hto;have cc1:=jad (St B2 [] (LL++[some (1,(xa.map (Ss.putv to)).map cj)])) xu (by omega);have hgal:(xa.map (Ss.putv to)).length=xa.length:=aI _;generalize hga:xa.map (Ss.putv to)=ga at *
   rw [jR,qH, <-JI,hLL] at ca1 cc1;simp only [bl,bm,aC,aM,a8,Nat.add_zero] at ca1 cc1
   refine bF hjt hx2 ?_
   refine bZ (St B2 [] []) (St B2 [] [none,none,none,none,none,none,some (4,[])]) [56,59,10057,10060] ?_ (r:=by conv=>lhs; simp [QV]);refine ael (by rfl) (by rfl) (by rfl) (ca1) (by rfl) (Wc (zu _ _ (by simp [subU])) (by simp [subL])) (Ky (by simp [subU,shpU,subL,shpL])) ?_;refine QZ ?_;refine Wk rfl (cc1) (by rfl) (Wc (zu _ _ (by simp [subU])) (by simp [subL])) (Ky (by simp [subU,shpU,subL,shpL])) ?_;refine QZ ?_;refine QI ?_;refine QZ ?_;refine QI ?_;refine QW ?_
   repeat first|refine QG ?_|refine QY ?_ (r:=by conv=>lhs;simp[QV,hb,hb',hccl,rep0,hwj])
   show jx _ _ _ _ _ _ _;refine Zg hag2.1 ?_;have hB3 : ∀ o,o<B2.nx->(St B2 [] [some (1,ga.map cj),some (1,xu.map cj)]).get o=B2.get o:=fun o ho=>by rw [jk ho]; rfl
   have hnew:OwL (St B2 [] [some (1,ga.map cj),some (1,xu.map cj)]) insD [.int .i64 xo, .int .u64 xn, .slice (lid B2.nx 0) 0 xa.length, .slice (lid B2.nx 1) 0 xu.length] (js ⟨xo,xn,ga,xu⟩).cells [lid B2.nx 0,lid B2.nx 1]:=by
    rw [zr, <-hgal];exact .c rfl (.c rfl (OwL.slice (enc:=cj) (fun _=>rfl) (fun _=>rfl) ga (by rw [jB,qA]; rfl) (OwL.slice (enc:=cj) (fun _=>rfl) (fun _=>rfl) xu (by rw [jB,qA]; rfl) .nil)))
   have hown:OwL (St B2 [] [some (1,ga.map cj),some (1,xu.map cj)]) (reps (j+1) insD) (cc++[.int .i64 xo, .int .u64 xn, .slice (lid B2.nx 0) 0 xa.length, .slice (lid B2.nx 1) 0 xu.length]) (jq js (co++[⟨xo,xn,ga,xu⟩])) (ci++[lid B2.nx 0,lid B2.nx 1]):=by
    rw [jax,Jl];exact (hwc.mono fun o ho=>hB3 o (hcid o ho).2).append hnew
   have hri:Ss.repIns to ⟨xo,xn,xa,xu⟩=⟨xo,xn,ga,xu⟩:=by simp only [Ss.repIns,hga]
   have hndN:(ci++[lid B2.nx 0,lid B2.nx 1]).Nodup:=by
    refine List.nodup_append.2 ⟨hcnd,by simp [lid],fun a ha b hb e => ?_⟩;have:=(hcid a ha).2;simp only [aL,List.not_mem_nil,or_false] at hb;rcases hb with rfl | rfl<;>(rw [e,lid] at this; omega)
   have hidN : ∀ o∈ci++[lid B2.nx 0,lid B2.nx 1],B.nx<=o/\o<(St B2 [] [some (1,ga.map cj),some (1,xu.map cj)]).nx:=by
    intro o ho;rw [jR];rcases aG.1 ho with ho | ho
    .have:=hcid o ho;simp only [lid,aC,aM]; omega
    .simp only [aL,List.not_mem_nil,or_false] at ho;rcases ho with rfl | rfl<;>(simp only [lid,aC,aM]; omega)
   refine qh [7,8,0,1,2,3,4,10] (by conv=>lhs; simp [Fr.oy]) hwf (by decide) (by simp [gpP2,gpT2,gtP2,gtT2,hci2,hcr2,hcc2,hcw2]) (by conv=>lhs; simp [gpP2,gpT2,gtP2,gtT2,hci2,hcr2,hcc2,hcw2]) (by conv=>lhs; simp [gpP2,gpT2,gtP2,gtT2,hci2,hcr2,hcc2,hcw2]) (by conv=>lhs; simp [gpP2,gpT2,gtP2,gtT2,hci2,hcr2,hcc2,hcw2]) ⟨?_,St B2 [] [some (1,ga.map cj),some (1,xu.map cj)],j+1,co++[⟨xo,xn,ga,xu⟩],cc++[.int .i64 xo, .int .u64 xn, .slice (lid B2.nx 0) 0 xa.length, .slice (lid B2.nx 1) 0 xu.length],ci++[lid B2.nx 0,lid B2.nx 1],hag2.St,acp hwf (by simp),hjt,rfl,by rw [hcj,hri,hco],by simp [hcol],hown,hndN,hidN,by simp [jR,qH],(by refine (JI (l:=[_,_])).trans ?_; simp [jR,qH])⟩;omega
end Go.Vw
/-
 Pure calls on what is owned: it stays owned. What is owned may be written to.
-/
namespace Go.Vw
open Go.RowKit
theorem VPure.thaw {P:Program} {f:FuncId} {xs xs':List V} {S S':Store} {b:Bool} (h:VPure P f xs' (.bool b)) (hg:GhostArgs xs S xs' S') (hcl : ∀ x∈xs',x.closed=true):VCalls P f xs S fun r T=>r = .bool b/\T=S:=by
 intro m β w vs hS hr;obtain ⟨m1,β1,h1,h2,h3⟩:=hg m β w vs hS hr;have h0:Holds ⟨fun _=>none,0⟩ m1 (fun _ => .fresh) w :=
  ⟨h1.imm,fun o b hb=>by simp [Loc.block?] at hb,fun o o' b hb=>by simp [Loc.block?] at hb,fun o=>by simp,fun o _=>rfl,fun o ho=>absurd ho (Nat.not_lt_zero _),fun o c hc=>by cases hc⟩
 have hr0:RepL m1 (fun _ => .fresh) xs' vs:=⟨h3.1,fun i x v hx hv => .imm ((h3.2 i x v hx hv).closed (hcl x (aA hx)))⟩
 refine (h ⟨fun _=>none,0⟩ m1 _ w vs h0 hr0).mono ?_;rintro e w' ⟨v,x,S2,m2,β2,he,⟨rfl,rfl⟩,k1,k2,k3⟩;have hheap : ∀ b,b<w.heap.size->w'.heap[b]? = w.heap[b]? := by
  intro b hb
  cases hm:m1 b with
  | some ob=>rw [h1.imm b ob hm,k2.imm b ob (k3.imm b ob hm)]
  | none=>exact (k3.keep b hb hm fun o=>by simp [Loc.block?]).1
 have hsome : ∀ {b:Nat} {ob:Obj},w.heap[b]? = some ob->w'.heap[b]? = some ob:=by
  intro b ob hb;have hlt:b<w.heap.size:=by
   rcases bt b w.heap.size with h | h
   .exact h
   .rw [Array.getElem?_eq_none h] at hb; cases hb
  rw [hheap b hlt,hb]
 have hbool:v = .bool b:=k1.inv_bool;refine ⟨v, .bool b,S,m,β,he,⟨rfl,rfl⟩,by rw [hbool]; exact .imm (.bool _),⟨fun b o hb=>hsome (hS.imm b o hb),hS.apart,hS.inj,hS.fresh,hS.gone,hS.dead,fun o c hc => ?_⟩,⟨fun _ _ h=>h,fun o _ => .inl rfl,k3.size,fun b hb hm hβ=>⟨hheap b hb,hm,hβ⟩,k3.os.trans (by rfl),k3.tape,k3.output⟩⟩;have hl:=hS.live o c hc
 cases hβ:β o with
 | fresh=>rw [hβ] at hl; exact hl.elim
 | dead=>rw [hβ] at hl; exact hl.elim
 | void=>rw [hβ] at hl; exact hl
 | lies b base s n =>
  rw [hβ] at hl;obtain ⟨e0,arr,T,e1,e2,e3,e4⟩:=hl;exact ⟨e0,arr,T,hsome e1,e2,e3,e4⟩
 | mp b =>
  rw [hβ] at hl;obtain ⟨es,clock,e1,e2,e3⟩:=hl;exact ⟨es,clock,hsome e1,e2,e3⟩
theorem OwL.elem {S:Store} {tys:List Ty} {cells xs:List V} {ids:List Nat} {n i:Nat} (h:OwL S (reps n tys) cells xs ids) (hi:i<n) : ∃ (c1 r c2 x1 x x2:List V) (i1 ii i2:List Nat),cells=c1++(r++c2)/\c1.length=i*tys.length/\xs=x1++(x++x2)/\ids=i1++(ii++i2)/\OwL S (reps i tys) c1 x1 i1/\OwL S tys r x ii/\OwL S (reps (n-i-1) tys) c2 x2 i2:=by
 have e1:reps n tys=reps i tys++(tys++reps (n-i-1) tys):=by
  rw [<-Jo, <-aqt]; congr 1; omega
 rw [e1] at h;obtain ⟨r1,r2,x1,x2,i1,i2,rfl,rfl,rfl,k1,k2⟩:=h.split;obtain ⟨r3,r4,x3,x4,i3,i4,rfl,rfl,rfl,k3,k4⟩:=k2.split;exact ⟨r1,r3,r4,x1,x3,x4,i1,i3,i4,rfl,by rw [k1.len.1,Jw],rfl,rfl,k1,k3,k4⟩
end Go.Vw
namespace Go.Vw
open Go.Proofs Go.RowKit
def At (T:Store) (o p:Nat) (w:V):Prop := ∃ s cs,T.get o=some (s,cs)/\cs[p]? = some w
inductive Lim:V->Prop
 | c {x:V} (h : ∀ ys,x ≠ .list ys):Lim x
 | l {ys:List V} (h:ys.length<=140737488355328) (k : ∀ y∈ys, ∀ z∈y.cells,Lim z):Lim (.list ys)
def LimO (T:Store) (ids:List Nat):Prop := ∀ o∈ids, ∀ w cs,T.get o=some (w,cs)->cs.length<=140737488355328*w
theorem OwL.lim {T:Store} {us:List Ty} {cs zs:List V} {ii:List Nat} (h:OwL T us cs zs ii):(∀ z∈zs,Lim z)->LimO T ii:=by
 induction h with
 | nil=>intro _ o ho; simp at ho
 | c _ _ ih=>exact fun hz=>ih fun z hz'=>hz z (by simp [hz'])
 | @s tys ts rs xs cells ys i j o ho hs d t ihd iht =>
  intro hz;have h1:Lim (.list ys):=hz _ (by simp)
  cases h1 with
  | c h=>exact absurd rfl (h ys)
  | l hl hk =>
   intro o' ho' w cs hg;rcases aL.1 ho' with rfl | h2
   .rw [ho] at hg
    cases hg
    rw [d.len.1,Jw];exact Nat.mul_le_mul_right _ hl
   .rcases aG.1 h2 with h2 | h2
    .refine ihd (fun z hz' => ?_) o' h2 w cs hg;obtain ⟨y,hy,hzy⟩:=bh.1 hz';exact hk y hy z hzy
    .exact iht (fun z hz'=>hz z (by simp [hz'])) o' h2 w cs hg
structure Shp (S T0:Store) (ob n:Nat) (ids:List Nat) (T1:Store):Prop where
 nx:T1.nx=T0.nx
 wf:T1.Wf
 old : ∀ o,o<S.nx->T1.get o=S.get o
 own : ∃ cells xs,T1.get ob=some (6,cells)/\OwL T1 (reps n blkD) cells xs ids
 lim:LimO T1 ids
theorem aqx {T:Store} {r x:List V} {ii:List Nat} (h:OwL T insD r x ii) : ∃ (u v:V) (oa na ou nu:Nat) (ca:List V),r=[u,v, .slice oa 0 na, .slice ou 0 nu]/\u.cG=true/\oa∈ii/\T.get oa=some (1,ca)/\ca.length=na /\ ∀ c∈ca,c.cG=true:=by
 cases h with
 | c h1 h=>cases h with
  | c h2 h=>cases h with
   | @s _ _ _ _ ca ys i j oa ho hs d h=>cases h with
    | s ho2 hs2 d2 h=>cases h with
     | nil =>
      have hl:ca.length=ys.length:=by rw [d.len.1,Jw]; simp
      have e:=Jk (n:=ys.length*1) (by rw [<-jbR]; exact d);exact ⟨_,_,oa,_,_,_,ca,rfl,h1,by simp,ho,hl,by rw [e.1]; exact d.closed⟩
theorem aov {T:Store} {r x:List V} {ii:List Nat} (h:OwL T KZ r x ii) : ∃ (u:V) (oa na:Nat),r=[u, .slice oa 0 na]/\u.cG=true:=by
 cases h with
 | c h1 h=>cases h with
  | s ho hs d h=>cases h with
   | nil=>exact ⟨_,_,_,rfl,h1⟩
theorem atf {T:Store} {r x:List V} {ii:List Nat} (h:OwL T blkD r x ii) : ∃ (op np oc nc oe ne:Nat) (u a z:V) (cc ce xi xe:List V) (ci ei:List Nat),r=[.slice op 0 np, .slice oc 0 nc,u,a, .slice oe 0 ne,z]/\u.cG=true/\oc∈ii/\T.get oc=some (4,cc)/\OwL T (reps nc insD) cc xi ci/\(∀ o∈ci,o∈ii) /\
  oe∈ii/\T.get oe=some (2,ce)/\OwL T (reps ne KZ) ce xe ei:=by
 cases h with
 | s ho hs d h=>cases h with
  | s ho2 hs2 d2 h=>cases h with
   | c h1 h=>cases h with
    | c h2 h=>cases h with
     | s ho3 hs3 d3 h=>cases h with
      | c h3 h=>cases h with
       | nil=>exact ⟨_,_,_,_,_,_,_,_,_,_,_,_,_,_,_,rfl,h1,by simp,ho2,d2,fun o ho=>by simp [ho],by simp,ho3,d3⟩
theorem YL {c1 r c2:List V} {i m p:Nat} {w:V} (hc:c1.length=i*m) (hr:r[p]? = some w):(c1++(r++c2))[i*m+p]? = some w:=by
 have hp:p<r.length:=(ae.1 hr).1;rw [<-hc,bf (by omega),Nat.add_sub_cancel_left,aT hp];exact hr
theorem Shp.block {S T0 T1:Store} {ob n k:Nat} {ids:List Nat} (h:Shp S T0 ob n ids T1) (hk:k<n) : ∃ (cells:List V) (oc nc oe ne:Nat) (u:V) (cc ce:List V),T1.get ob=some (6,cells)/\cells[k*6+1]? = some (.slice oc 0 nc)/\cells[k*6+2]? = some u/\u.cG=true/\cells[k*6+4]? = some (.slice oe 0 ne) /\
  oc∈ids/\T1.get oc=some (4,cc)/\oe∈ids/\T1.get oe=some (2,ce)/\nc<=140737488355328/\ne<=140737488355328/\(∀ j<nc, ∃ (u:V) (oa na:Nat) (ca:List V),cc[j*4]? = some u/\u.cG=true/\cc[j*4+2]? = some (.slice oa 0 na)/\oa∈ids/\T1.get oa=some (1,ca)/\ca.length=na/\na<=140737488355328 /\ ∀ c∈ca,c.cG=true) /\ ∀ q<ne, ∃ u:V,ce[q*2]? = some u/\u.cG=true:=by
 obtain ⟨cells,xs,h4,h5⟩:=h.own;obtain ⟨c1,r,c2,x1,x,x2,i1,ii,i2,rfl,hl,rfl,rfl,k1,k2,k3⟩:=h5.elem hk;obtain ⟨op,np,oc,nc,oe,ne,u,a,z,cc,ce,xi,xe,ci,ei,rfl,hu,hoc,hcc,hci,hcs,hoe,hce,hei⟩:=atf k2;refine ⟨_,oc,nc,oe,ne,u,cc,ce,h4,YL (m:=6) (p:=1) hl rfl,YL (m:=6) (p:=2) hl rfl,hu,YL (m:=6) (p:=4) hl rfl,by simp [hoc],hcc,by simp [hoe],hce, ?_, ?_,fun j hj => ?_,fun q hq => ?_⟩
 .have h8:=h.lim oc (by simp [hoc]) _ _ hcc;have h9:cc.length=nc*4:=by rw [hci.len.1,Jw]; rfl
  omega
 .have h8:=h.lim oe (by simp [hoe]) _ _ hce;have h9:ce.length=ne*2:=by rw [hei.len.1,Jw]; rfl
  omega
 .obtain ⟨d1,s,d2,y1,y,y2,j1,jj,j2,rfl,hl2,rfl,rfl,m1,m2,m3⟩:=hci.elem hj;obtain ⟨u',v',oa,na,ou,nu,ca,rfl,hu',hoa,hca,hcl,hcc'⟩:=aqx m2;exact ⟨u',oa,na,ca,by have:=YL (m:=4) (p:=0) (c2:=d2) hl2 (r:=[u',v', .slice oa 0 na, .slice ou 0 nu]) rfl; simpa using this,hu',YL (m:=4) (p:=2) hl2 rfl,by have:=hcs oa (by simp [hoa]); simp [this],hca,hcl,by have:=h.lim oa (by have:=hcs oa (by simp [hoa]); simp [this]) _ _ hca; omega,hcc'⟩
 .obtain ⟨d1,s,d2,y1,y,y2,j1,jj,j2,rfl,hl2,rfl,rfl,m1,m2,m3⟩:=hei.elem hq;obtain ⟨u',oa,na,rfl,hu'⟩:=aov m2;exact ⟨u',by have:=YL (m:=2) (p:=0) (c2:=d2) hl2 (r:=[u', .slice oa 0 na]) rfl; simpa using this,hu'⟩
end Go.Vw
namespace Ss
open Go.Vw.G
def UpEnds (near:List Int):Nat->Int->Prop
 | 0,b=>b<0
 | k+1,b=>b<0\/(okIx near b/\UpEnds near k (near.getD b.toNat 0))
end Ss
namespace Go.Vw
open Go.Proofs Go.RowKit
end Go.Vw
namespace Ss
open Go.Vw Go.Vw.G
theorem eqF_len {α:Type} {p:α->α->Bool} : ∀ {l m:List α},eqF p l m=true->l.length=m.length
 | [],[],_=>rfl
 | [],_::_,h=>by simp [eqF] at h
 | _::_,[],h=>by simp [eqF] at h
 | x::l,y::m,h=>by
  have:eqF p l m=true:=by
   simp only [eqF,af] at h
   first | exact h.2 | exact h.2.2
  simp [eqF_len this]
theorem ajp {g:List (List Nat)} (hg:Ok g) {near:List Int} (hN:NearOk g near) : ∀ (k:Nat) (b:Nat),b∈order g->rk g (order g) b<k->UpEnds near k b
 | 0,b,_,h=>by omega
 | k+1,b,hb,h=>by
  have ho:=aah hg;have hbl:=ho.lt b hb;have hok:okIx near (b:Int):=⟨by omega,by rw [hN.len]; omega⟩
  refine .inr ⟨hok, ?_⟩;rw [bq]
  by_cases hb0:b=0
  .subst hb0;have:near.getD 0 0 = -1:=hN.zero;rw [this]
   cases k with
   | zero=>show (-1:Int)<0; omega
   | succ k=>exact .inl (by omega)
  .obtain ⟨p,q1,q2,q3,q4,q5⟩:=hN.near b hb hb0;have hnd:near.getD b 0=(p:Int):=q1;rw [hnd];have hr:=q4.rk ho q2 hb q3;exact ajp hg hN k p q2 (by omega)
structure Graphic (f:Fn):Prop where
 ok:Ok (nats (succs f.blocks))
 right:G.right (succs f.blocks)=true
 ord:G.ordI (succs f.blocks)=order (nats (succs f.blocks))
 near:G.cD (succs f.blocks)=rNear (nats (succs f.blocks))
 len:(order (nats (succs f.blocks))).length=f.blocks.length
 lt : ∀ n∈order (nats (succs f.blocks)),n<f.blocks.length
 nlen:(rNear (nats (succs f.blocks))).length=f.blocks.length
 ends : ∀ n∈order (nats (succs f.blocks)),UpEnds (rNear (nats (succs f.blocks))) 256 n
 blocks:f.blocks.length<=256
theorem aa7 (bs:List Block):(nats (succs bs)).length=bs.length:=by rw [aa1,succs,aI]
theorem graphic {e:Env} {f:Fn} (h:check e f=true):Graphic f:=by
 obtain ⟨h1,ds,hds,hsh,hB⟩:=aae h;have hr:G.right (succs f.blocks)=true:=by
  unfold shapeOk at hsh;simp only [af] at hsh;exact hsh.1.1.1.1
 have hol:(G.ordI (succs f.blocks)).length=f.blocks.length:=by
  unfold shapeOk at hsh;simp only [af,aj] at hsh;exact hsh.1.1.1.2
 have hok:=aag hr;have e1:G.ordI (succs f.blocks)=order (nats (succs f.blocks)):=by simp [G.ordI,hr]
 have e2:G.cD (succs f.blocks)=rNear (nats (succs f.blocks)):=by simp [G.cD,hr]
 have hN:=aa8 hok;have ho:=aah hok;have hl:=aa7 f.blocks;rw [e1] at hol;have hmx:=hok.max;rw [hl] at hmx;exact ⟨hok,hr,e1,e2,hol,fun n hn=>by rw [<-hl]; exact ho.lt n hn,by rw [hN.len,hl],fun n hn=>ajp hok hN 256 n hn (by have:=abu ho hn; omega),hmx⟩
theorem aa0 {e:Env} {f:Fn} (h:check e f=true):f.small=true:=by
 have:=(aae h).1;unfold checkHead at this;simp only [af] at this;exact this.1.1.1.1.2
end Ss
namespace Go.Vw.G
open Go.Vw
section
variable {g:List (List Nat)} {l:List Nat} {hd p:Nat} {nodes:List Nat}
theorem apg (hpred : ∀ n∈nodes,n≠hd -> ∀ q,n∈g.getD q []->q∈nodes) (hp : ∀ j,j∉nodes->hd∈g.getD j []->j=p) (h0:0∉nodes) : ∀ n∈nodes,Dom g l p n:=by
 intro n hn k hw;have step : ∀ {a n:Nat},n∈g.getD a []->n∈nodes->a≠p->(a∈nodes->False)->False:=fun {a n} he hn hap ih=>by
  by_cases e:n=hd
  .subst e
   by_cases ha:a∈nodes
   .exact ih ha
   .exact hap (hp a ha he)
  .exact ih (hpred n hn e a he)
 induction hw with
 | start k h=>exact h0 hn
 | on ha he hr hy ih=>exact step he hn ha.ne ih
 | back ha he hy ih=>exact step he hn ha.ne ih
theorem avi (hpred : ∀ n∈nodes,n≠hd -> ∀ q,n∈g.getD q []->q∈nodes) (hhd:hd∈nodes) (hpe:hd∈g.getD p []) (h0:0∉nodes) {h n:Nat} (hh:h∉nodes) (hn:n∈nodes) (hr:R g n) (hdom:Dom g l h n):Dom g l h p:=by
 intro k hw;have hwh:Way g l h (k+1) hd := .back hw hpe fun e=>hh (e▸hhd)
 have key : ∀ m,R g m->m∈nodes -> ∃ k,Way g l h k m:=by
  intro m hm
  induction hm with
  | start _=>exact fun h=>absurd h h0
  | @step a m ha he _ ih =>
   intro hmn
   by_cases e:m=hd
   .subst e; exact ⟨_,hwh⟩
   .obtain ⟨k',hk⟩:=ih (hpred m hmn e a he);exact ⟨k'+1, .back hk he fun e2=>hh (e2▸hmn)⟩
 obtain ⟨k',hk⟩:=key n hr hn;exact hdom k' hk
end
theorem Ws {near:List Int} {fr:List (List Nat)} {N:Nat} : ∀ k, ∀ x∈loopsTo near fr N k, ∃ t,t∈fr.getD x.1 []
 | 0,x,hx=>by simp [loopsTo] at hx
 | h+1,x,hx=>by
  simp only [loopsTo] at hx;split at hx
  .exact Ws h x hx
  .rename_i hc;rcases aG.1 hx with hx | hx
   .exact Ws h x hx
   .rw [aU] at hx;subst hx
    cases hb:backs near h (fr.getD h []) with
    | nil=>exact absurd (.inr hb) hc
    | cons t r =>
     have:t∈backs near h (fr.getD h []):=by rw [hb]; simp
     exact ⟨t,(List.mem_filter.1 this).1⟩
theorem amw {g:List (List Nat)} (hg:Ok g) (hz : ∀ q,0∉g.getD q []) {x:Nat × List Nat} (hx:x∈loopsTo (rNear g) (froms g) g.length g.length):0∉x.2:=by
 intro h0;have ho:=aah hg;obtain ⟨q1,q2,q3,q4,q5⟩:=heads hg g.length (a9 _) x hx;have h1:=q4 0 h0 ((aak hg 0).2 (ZJ ho));have hx0:x.1=0:=by
  rcases (zg hg (aa8 hg) q1 hg.pos).1 h1 with h | h
  .by_cases e:x.1=0
   .exact e
   .exact absurd (Way.start 0 (Ne.symm e)) (h.2.2 0)
  .exact h
 obtain ⟨t,ht⟩:=Ws g.length x hx;rw [hx0] at ht;exact hz t ((aar hg 0 t hg.pos).1 ht).2
theorem ad4 (inn:List Bool) : ∀ k, ∀ x∈picked inn k,x<k
 | 0,x,h=>by simp [picked] at h
 | k+1,x,h=>by
  have ih:=ad4 inn k;simp only [picked] at h;split at h
  .rcases aG.1 h with h | h
   .have:=ih x h; omega
   .rw [aU] at h; omega
  .have:=ih x h; omega
theorem WO (inn:List Bool) : ∀ k,(picked inn k).Pairwise (· < ·)
 | 0=>by simp [picked]
 | k+1=>by
  have ih:=WO inn k;simp only [picked];split
  .refine List.pairwise_append.2 ⟨ih,by simp,fun a ha b hb => ?_⟩;rw [aU] at hb;have:=ad4 inn k a ha; omega
  .exact ih
theorem abi {near:List Int} {fr:List (List Nat)} {N:Nat} : ∀ k, ∀ x∈loopsTo near fr N k,x.2.Pairwise (· < ·)
 | 0,x,hx=>by simp [loopsTo] at hx
 | h+1,x,hx=>by
  simp only [loopsTo] at hx;split at hx
  .exact abi h x hx
  .rcases aG.1 hx with hx | hx
   .exact abi h x hx
   .rw [aU] at hx;subst hx;exact WO _ _
end Go.Vw.G
namespace Ss
abbrev on (need:List Bool) (v:Int):Bool:=need.getD v.toNat false
def off (need:List Bool):Nat:=need.countP fun b => !b
def InR (n:Nat) (v:Int):Prop:=0<=v/\v<n
structure DOk (f:Fn):Prop where
 ne:f.blocks≠[]
 outs : ∀ b∈f.blocks, ∀ x∈b.code, ∀ v∈x.outs,InR f.types.length v
 one : ∀ b∈f.blocks, ∀ x∈b.code,pure x.op=true -> ∃ o,x.outs=[o]
 args : ∀ b∈f.blocks, ∀ x∈b.code, ∀ v∈x.args,InR f.types.length v
 pars : ∀ b∈f.blocks, ∀ v∈b.params,InR f.types.length v
 targs : ∀ b∈f.blocks, ∀ v∈b.term.args,InR f.types.length v
 targ : ∀ b∈f.blocks,branches b.term=true->InR f.types.length b.term.arg
 eargs : ∀ b∈f.blocks, ∀ e∈b.term.to, ∀ v∈e.args,InR f.types.length v
 etos : ∀ b∈f.blocks, ∀ e∈b.term.to,0<=e.to/\e.to<f.blocks.length/\e.args.length=(f.blocks.getD e.to.toNat default).params.length
 u1 : ∀ b∈f.blocks, ∀ c∈f.blocks, ∀ x∈b.code, ∀ y∈c.code,pure x.op=true->pure y.op=true->x.outs=y.outs->x.args=y.args
 u2 : ∀ b∈f.blocks, ∀ c∈f.blocks, ∀ p∈b.params, ∀ y∈c.code,p∉y.outs
def Inc (a b:List Bool):Prop:=a.length=b.length /\ ∀ i:Nat,a[i]? = some true->b[i]? = some true
theorem Inc.trans {a b c:List Bool} (h:Inc a b) (k:Inc b c):Inc a c:=⟨h.1.trans k.1,fun i hi=>k.2 i (h.2 i hi)⟩
def rootsB (b:Block):List Int:=(b.code.flatMap fun x=>if pure x.op then [] else x.args++x.outs)++(b.term.args++if branches b.term then [b.term.arg] else [])
def roots (f:Fn):List Int:=(f.blocks.getD 0 default).params++f.blocks.flatMap rootsB
/-! ### An instruction more -/
def moreX (ts:List Int) (b:Block):Ins:=b.params.foldl (fun (x:Ins) (p:Int)=>if 0<=p/\p<(ts.length:Int)/\ts.getD p.toNat 0=126 then ⟨124,0,[p,p],[(ts.length:Int)]⟩ else x) ⟨256,9,[],[(ts.length:Int)]⟩
def addB (b:Block) (x:Ins):Block:=⟨b.params,b.code++[x],b.term⟩
def more (f:Fn) (j:Nat):Fn:=⟨f.sig,f.types++[126],f.blocks.set j (addB (f.blocks.getD j default) (moreX f.types (f.blocks.getD j default)))⟩
theorem afg {i:Int} : ∀ {l:List Ins} {k:Nat} {ds d:List Def},putCode i k ds l=some d->d.length=ds.length:=fun h=>(YD h).1
theorem jN : ∀ {l:List Block} {i:Nat} {ds d:List Def},cI i ds l=some d -> ∀ (j:Nat) (b:Block),l[j]? = some b -> ∀ v∈b.params,dAt d v=⟨true,((i+j:Nat):Int), -1⟩
 | [],i,ds,d,h=>by simp
 | b::l,i,ds,d,h=>by
  simp only [cI] at h;obtain ⟨d2,h1,h2⟩:=aN.1 h;obtain ⟨d1,h3,h4⟩:=aN.1 h1;obtain ⟨p1,q1⟩:=KP h3;obtain ⟨p2,_⟩:=Jx h4;obtain ⟨p3,_⟩:=JC h2;intro j y hj v hv
  cases j with
  | zero =>
   simp only [aK,ay] at hj;subst hj;have n2:v∉zK b.code:=fun hm=>by
    have:=p2.new v hm;rw [p1.made v hv] at this; cases this
   have e2:dAt d2 v=dAt d1 v:=p2.keep v (p1.pos v hv) n2;have n3:v∉allL l:=fun hm=>by
    have:=p3.new v hm;rw [e2,p1.made v hv] at this; cases this
   rw [p3.keep v (p1.pos v hv) n3,e2,q1 v hv]; simp
  | succ j =>
   have:=jN h2 j y (by simpa using hj) v hv;rw [this]; congr 2; omega
theorem ZY {α:Type} {p q:α->α->Bool} : ∀ {l m:List α},(∀ x∈l, ∀ y,p x y=true->q x y=true)->Go.Vw.eqF p l m=true->Go.Vw.eqF q l m=true
 | [],[],_,_=>rfl
 | [],_::_,_,h=>by simp [Go.Vw.eqF] at h
 | _::_,[],_,h=>by simp [Go.Vw.eqF] at h
 | a::l,b::m,hp,h=>by
  simp only [Go.Vw.eqF,af] at h ⊢;exact ⟨hp a (by simp) b h.1,ZY (fun x hx=>hp x (by simp [hx])) h.2⟩
theorem apj {e:Env} {op n out:Int} (h:total op=true) : ∃ t,(form e op n out).outs=[t]:=by
 have h1:op≠258:=fun e=>by subst e; revert h; decide
 have h2:op≠16:=fun e=>by subst e; revert h; decide
 have h3:op≠35:=fun e=>by subst e; revert h; decide
 have h4:op≠36:=fun e=>by subst e; revert h; decide
 have h5:op≠256:=fun e=>by subst e; revert h; decide
 have h6:op≠27:=fun e=>by subst e; revert h; decide
 have e0:form e op n out=formNum e op:=by simp [form,h1,h2,h3,h4,h5,h6]
 rw [e0];unfold total at h;unfold formNum cB
 cases hf:find op with
 | none=>rw [hf] at h; simp at h
 | some g=>exact ⟨_,rfl⟩
theorem pure_one {e:Env} {op n out:Int} (h:pure op=true) : ∃ t,(form e op n out).outs=[t]:=by
 simp only [pure,bk,aj] at h;rcases h with (rfl | rfl) | h
 .by_cases ho:out=127<;>simp [form,ho]
 .simp [form]
 .exact apj h
theorem asks_in {ts:List Int} {ds:List Def} {near:List Int} {block pos:Int} {l types:List Int} (h:asks ts ds near block pos l types=true) {v:Int} (hv:v∈l):InR ds.length v:=by
 obtain ⟨t,ht⟩:=abd h v hv;simp only [askOk,af,aj] at ht;exact ⟨ht.1.1.1.1,ht.1.1.1.2⟩
theorem aa3 {e:Env} {f:Fn} (h:check e f=true):DOk f:=by
 obtain ⟨hh,ds,hds,hsh,hB⟩:=aae h;obtain ⟨hlen,hin⟩:=defs_in hds;obtain ⟨hnd,hmade,hat⟩:=qR hds;have hpar:=jN hds;have hr:Go.Vw.G.right (succs f.blocks)=true:=by
  simp only [shapeOk,af] at hsh;exact hsh.1.1.1.1
 have hto:=right_to hr;have hblk : ∀ b∈f.blocks, ∃ j:Nat,f.blocks[j]? = some b/\cx e f ds (Go.Vw.G.cD (succs f.blocks)) (j:Int) 0 b.code=true/\termOk f ds (Go.Vw.G.cD (succs f.blocks)) (j:Int) b=true:=fun b hb=>by
  obtain ⟨j,hj⟩:=aB.1 hb;have:=aad hB hj;rw [a8] at this;exact ⟨j,hj,this⟩
 have hins : ∀ b∈f.blocks, ∀ x∈b.code, ∃ j k:Nat,f.blocks[j]? = some b/\b.code[k]? = some x/\insOk e f ds (Go.Vw.G.cD (succs f.blocks)) (j:Int) (k:Int) x=true:=fun b hb x hx=>by
  obtain ⟨j,hj,hc,_⟩:=hblk b hb;obtain ⟨k,hk⟩:=aB.1 hx;have:=aaj hc hk;rw [a8] at this;exact ⟨j,k,hj,hk,this⟩
 have hterm : ∀ b∈f.blocks, ∃ (j:Int) (le mo:Nat) (rs:List Int),termTail f ds (Go.Vw.G.cD (succs f.blocks)) j b.code.length b.term le mo rs=true:=fun b hb=>by
  obtain ⟨j,hj,_,ht⟩:=hblk b hb;unfold termOk at ht;split at ht
  .exact ⟨_,_,_,_,ht⟩
  .cases ht
 have hone : ∀ b∈f.blocks, ∀ x∈b.code,pure x.op=true -> ∃ o,x.outs=[o]:=fun b hb x hx hp=>by
  obtain ⟨j,k,_,_,hi⟩:=hins b hb x hx;simp only [insOk,af,aj] at hi;obtain ⟨t,ht⟩:=pure_one (e:=e) (n:=x.n) (out:=insOut f.types x) hp;have h1:=hi.1.2;rw [ht] at h1;have h2:=congrArg List.length h1;simp only [cv,aI,List.length_singleton] at h2;exact List.length_eq_one_iff.1 h2
 refine ⟨fun hb => ?_,fun b hb x hx v hv=>(hin b hb).2 x hx v hv,hone,fun b hb x hx v hv => ?_,fun b hb v hv=>(hin b hb).1 v hv,fun b hb v hv => ?_,fun b hb hk => ?_,fun b hb x hx v hv => ?_,fun b hb x hx => ?_,fun b hb c hc x hx y hy hp hq he => ?_,fun b hb c hc p hp y hy hm => ?_⟩
 .simp only [shapeOk,af] at hsh;have:=hsh.2;rw [hb] at this
  cases this
 .obtain ⟨j,k,_,_,hi⟩:=hins b hb x hx;have:=asks_in (YT hi) hv
  rwa [hlen] at this
 .obtain ⟨j,le,mo,rs,ht⟩:=hterm b hb;simp only [termTail,af] at ht;have:=asks_in ht.1.2 hv
  rwa [hlen] at this
 .obtain ⟨j,le,mo,rs,ht⟩:=hterm b hb;simp only [termTail,af] at ht;have h1:=ht.1.1.1.1;rw [if_pos hk] at h1;have:=asks_in h1 (v:=b.term.arg) (by simp)
  rwa [hlen] at this
 .obtain ⟨j,le,mo,rs,ht⟩:=hterm b hb;simp only [termTail,af,aD] at ht;have h1:=ht.2 x hx;simp only [edgeOk,af] at h1;have:=asks_in h1.2 hv
  rwa [hlen] at this
 .obtain ⟨j,le,mo,rs,ht⟩:=hterm b hb;simp only [termTail,af,aD] at ht;have h1:=ht.2 x hx;simp only [edgeOk,af] at h1;have h2:=eqF_len h1.2;simp only [cv,aI] at h2;exact ⟨(hto b hb x hx).1,(hto b hb x hx).2,h2⟩
 .obtain ⟨o,ho⟩:=hone b hb x hx hp;obtain ⟨j,k,hj,hk,_⟩:=hins b hb x hx;obtain ⟨j',k',hj',hk',_⟩:=hins c hc y hy;have a1:=hat j b hj k x hk o (by simp [ho]);have a2:=hat j' c hj' k' y hk' o (by simp [<-he,ho]);rw [a1] at a2;simp only [Def.mk.injEq,true_and] at a2;have e1:j=j':=by omega
  have e2:k=k':=by omega
  subst e1;subst e2;rw [hj] at hj'
  cases hj'
  rw [hk] at hk'
  cases hk'
  rfl
 .obtain ⟨j,hj⟩:=aB.1 hb;obtain ⟨j',k',hj',hk',_⟩:=hins c hc y hy;have a1:=hpar j b hj p hp;have a2:=hat j' c hj' k' y hk' p hm;rw [a1] at a2;simp only [Def.mk.injEq,true_and] at a2;omega
end Ss
namespace Go.Vw
open Go.Proofs Go.RowKit
theorem zp {m:Nat} : ∀ {rows:List (List V)},(∀ r∈rows,r.length=m)->rows.flatten.length=rows.length*m
 | [],_=>by simp
 | r::rs,h=>by rw [List.flatten_cons,List.length_append,h r (by simp),zp fun x hx=>h x (by simp [hx]),aC,Nat.succ_mul]; omega
theorem ad7 {m:Nat} : ∀ {rows:List (List V)} (k:Nat),(∀ r∈rows,r.length=m)->rows.flatten.take (k*m)=(rows.take k).flatten
 | [],k,_=>by simp
 | r::rs,0,h=>by simp
 | r::rs,k+1,h=>by
  have hr:=h r (by simp);rw [List.flatten_cons,List.take_succ_cons,List.flatten_cons, <-ad7 k fun x hx=>h x (by simp [hx]),Nat.succ_mul,List.take_append,hr];rw [show k*m+m-m=k*m by omega,List.take_of_length_le (by rw [hr]; omega)]
theorem aqm {m:Nat} {rows:List (List V)} (k:Nat) (h : ∀ r∈rows,r.length=m):rows.flatten.drop (k*m)=(rows.drop k).flatten:=by
 have e:=List.take_append_drop (k*m) rows.flatten;have e2:rows.flatten=(rows.take k).flatten++(rows.drop k).flatten:=by rw [<-List.flatten_append,List.take_append_drop]
 rw [ad7 k h] at e;exact List.append_cancel_left (e.trans e2)
theorem ZX {m:Nat} {rows:List (List V)} {k:Nat} (h : ∀ r∈rows,r.length=m) (hk:k<rows.length):(rows.flatten.drop (k*m)).take m=rows[k]:=by
 rw [aqm k h,am hk,List.flatten_cons,List.take_append_of_le_length (by rw [h _ (ah hk)]; omega),List.take_of_length_le (by rw [h _ (ah hk)]; omega)]
section
variable {α:Type} (I:α->Store->Prop) (p:α->List V->Bool) (nx:α->List V->α) {oc N:Nat} {rows:List (List V)} {fid:FuncId} {caps:List V}
end
inductive Rows {α:Type} (T:Store) (tys:List Ty) (enc:α->V):List α->List (List V)->List Nat->Prop
 | nil:Rows T tys enc [] [] []
 | cons {x:α} {r:List V} {ii:List Nat} {xs:List α} {rs:List (List V)} {ids:List Nat} (h:OwL T tys r (enc x).cells ii) (t:Rows T tys enc xs rs ids):Rows T tys enc (x::xs) (r::rs) (ii++ids)
section
variable {α:Type} {T T':Store} {tys:List Ty} {enc:α->V}
theorem jcH (hs : ∀ x,(enc x).cells.length=tys.length) : ∀ {xs:List α} {cells:List V} {ids:List Nat},OwL T (reps xs.length tys) cells (jq enc xs) ids -> ∃ rs,cells=rs.flatten/\rs.length=xs.length/\Rows T tys enc xs rs ids
 | [],cells,ids,h=>by
  rw [aM,apx] at h
  cases h with
  | nil=>exact ⟨[],rfl,rfl, .nil⟩
 | x::xs,cells,ids,h=>by
  rw [aC,Jo] at h;obtain ⟨r1,r2,x1,x2,i1,i2,rfl,hx,rfl,k1,k2⟩:=h.split;have e:jq enc (x::xs)=(enc x).cells++jq enc xs:=by simp [jq]
  rw [e] at hx;obtain ⟨rfl,rfl⟩:=List.append_inj hx (by rw [hs,k1.len.2]);obtain ⟨rs,rfl,hl,hr⟩:=jcH hs k2;exact ⟨r1::rs,rfl,by simp [hl], .cons k1 hr⟩
theorem Rows.owl {xs:List α} {rs:List (List V)} {ids:List Nat} (h:Rows T tys enc xs rs ids):OwL T (reps xs.length tys) rs.flatten (jq enc xs) ids:=by
 induction h with
 | nil=>exact .nil
 | @cons x r ii xs rs ids h t ih =>
  have e:jq enc (x::xs)=(enc x).cells++jq enc xs:=by simp [jq]
  rw [aC,Jo,List.flatten_cons,e];exact h.append ih
theorem Rows.mono {xs:List α} {rs:List (List V)} {ids:List Nat} (h:Rows T tys enc xs rs ids):(∀ o∈ids,T'.get o=T.get o)->Rows T' tys enc xs rs ids:=by
 induction h with
 | nil=>exact fun _ => .nil
 | cons h t ih=>exact fun hk => .cons (h.mono fun o ho=>hk o (by simp [ho])) (ih fun o ho=>hk o (by simp [ho]))
theorem Rows.len {xs:List α} {rs:List (List V)} {ids:List Nat} (h:Rows T tys enc xs rs ids):rs.length=xs.length /\ ∀ r∈rs,r.length=tys.length:=by
 induction h with
 | nil=>simp
 | cons h t ih=>exact ⟨by simp [ih.1],fun r hr=>by rcases aL.1 hr with rfl | hr; exact h.len.1; exact ih.2 r hr⟩
end
theorem Rows.at {α:Type} {T:Store} {tys:List Ty} {enc:α->V} {xs:List α} {rs:List (List V)} {ids:List Nat} (h:Rows T tys enc xs rs ids) : ∀ {k:Nat} {x:α},xs[k]? = some x -> ∃ (r1:List (List V)) (r:List V) (r2:List (List V)) (i1 ii i2:List Nat),rs=r1++r::r2/\r1.length=k/\ids=i1++(ii++i2)/\OwL T tys r (enc x).cells ii /\
  ∀ (T':Store) (r':List V) (x':α) (ii':List Nat),(∀ o∈i1++i2,T'.get o=T.get o)->OwL T' tys r' (enc x').cells ii'->Rows T' tys enc (xs.set k x') (r1++r'::r2) (i1++(ii'++i2)):=by
 induction h with
 | nil=>intro k x hx; simp at hx
 | @cons y r ii xs rs ids h t ih =>
  intro k x hx
  cases k with
  | zero =>
   simp only [aK,ay] at hx;subst hx;exact ⟨[],r,rs,[],ii,ids,rfl,rfl,rfl,h,fun T' r' x' ii' hk ho=>Rows.cons (ids:=ids) ho (t.mono fun o hm=>hk o (by simpa using hm))⟩
  | succ k =>
   obtain ⟨r1,s,r2,i1,jj,i2,e1,e2,e3,e4,e5⟩:=ih (k:=k) (x:=x) (by simpa using hx);subst e1; subst e3;refine ⟨r::r1,s,r2,ii++i1,jj,i2,rfl,by simp [e2],by simp,e4,fun T' r' x' ii' hk ho => ?_⟩;have:=Rows.cons (x:=y) (h.mono fun o hm=>hk o (by simp [hm])) (e5 T' r' x' ii' (fun o hm=>hk o (by
    rcases aG.1 hm with hm | hm<;>simp [hm])) ho)
   simpa using this
theorem jda {m:Nat} {r1:List (List V)} {r:List V} {r2:List (List V)} {k q:Nat} {w:V} (h1 : ∀ s∈r1,s.length=m) (hk:r1.length=k) (hr:r[q]? = some w):(r1++r::r2).flatten[k*m+q]? = some w:=by
 have hq:q<r.length:=(ae.1 hr).1;have hl:=zp h1;rw [hk] at hl;rw [List.flatten_append,List.flatten_cons, <-hl,bf (by omega),Nat.add_sub_cancel_left,aT hq];exact hr
theorem aex {m:Nat} {r1:List (List V)} {r:List V} {r2:List (List V)} {k q:Nat} {w:V} (h1 : ∀ s∈r1,s.length=m) (hk:r1.length=k) (hq:q<r.length):(r1++r::r2).flatten.set (k*m+q) w=(r1++r.set q w::r2).flatten:=by
 have hl:=zp h1;rw [hk] at hl;rw [List.flatten_append,List.flatten_cons, <-hl,List.set_append_right _ _ (by omega),Nat.add_sub_cancel_left,List.set_append_left _ _ hq,List.flatten_append,List.flatten_cons]
theorem aj1 {T:Store} {x:Ss.Ins} {r:List V} {ii:List Nat} (h:OwL T insD r (js x).cells ii) : ∃ oa ou,r=[cj x.op,vu x.n, .slice oa 0 x.args.length, .slice ou 0 x.outs.length]/\ii=[oa,ou]/\T.get oa=some (1,x.args.map cj)/\T.get ou=some (1,x.outs.map cj):=by
 rw [zr] at h;generalize hA:vl cj x.args=A at h;generalize hB:vl cj x.outs=B at h
 cases h with
 | c h1 h=>cases h with
  | c h2 h=>cases h with
   | @s _ _ _ _ ca ys i j oa ho hs d h=>cases h with
    | @s _ _ _ _ cb zs i2 j2 ou ho2 hs2 d2 h=>cases h with
     | nil =>
      have e1:ys=x.args.map cj:=by
       have:V.list (x.args.map cj)=V.list ys:=hA;exact (V.list.inj this).symm
      have e2:zs=x.outs.map cj:=by
       have:V.list (x.outs.map cj)=V.list zs:=hB;exact (V.list.inj this).symm
      subst e1; subst e2;have c1:=Jk (n:=(x.args.map cj).length*1) (by rw [<-jbR]; exact d);have c2:=Jk (n:=(x.outs.map cj).length*1) (by rw [<-jbR]; exact d2);rw [zj,qA] at c1 c2;refine ⟨oa,ou,by simp, ?_, ?_, ?_⟩
      .rw [c1.2,c2.2]; rfl
      .rw [ho,c1.1]; rfl
      .rw [ho2,c2.1]; rfl
theorem adj {T:Store} {b:Ss.Block} {r:List V} {ii:List Nat} (h:OwL T blkD r (je b).cells ii) : ∃ (op oc oe:Nat) (rs:List (List V)) (ce:List V) (ip ic ie:List Nat),r=[.slice op 0 b.params.length, .slice oc 0 b.code.length,cj b.term.kind,cj b.term.arg, .slice oe 0 b.term.to.length,vl cj b.term.args]/\ii=op::oc::(ic++oe::ie) /\
  T.get op=some (1,b.params.map cj)/\T.get oc=some (4,rs.flatten)/\Rows T insD js b.code rs ic/\T.get oe=some (2,ce)/\OwL T (reps b.term.to.length KZ) ce (jq ji b.term.to) ie:=by
 rw [zk] at h;generalize hA:vl cj b.params=A at h;generalize hB:vl js b.code=B at h;generalize hC:vl ji b.term.to=C at h
 cases h with
 | @s _ _ _ _ ca ys i j op ho hs d h=>cases h with
  | @s _ _ _ _ cb zs i2 j2 oc ho2 hs2 d2 h=>cases h with
   | c h1 h=>cases h with
    | c h2 h=>cases h with
     | @s _ _ _ _ cc us i3 j3 oe ho3 hs3 d3 h=>cases h with
      | c h3 h=>cases h with
       | nil =>
        have e1:ys=b.params.map cj:=by
         have:V.list (b.params.map cj)=V.list ys:=hA;exact (V.list.inj this).symm
        have e2:zs=b.code.map js:=by
         have:V.list (b.code.map js)=V.list zs:=hB;exact (V.list.inj this).symm
        have e3:us=b.term.to.map ji:=by
         have:V.list (b.term.to.map ji)=V.list us:=hC;exact (V.list.inj this).symm
        subst e1; subst e2; subst e3;have c1:=Jk (n:=(b.params.map cj).length*1) (by rw [<-jbR]; exact d);rw [zj,qA] at c1;rw [aI,zj] at d2 d3;obtain ⟨rs,rfl,hl,hr⟩:=jcH (fun x=>by rw [zr]; rfl) d2;refine ⟨op,oc,oe,rs,cc,[],i2,i3,by simp, ?_, ?_,ho2,hr,ho3,d3⟩
        .rw [c1.2]; simp
        .rw [ho,c1.1]; rfl
theorem af2 {T:Store} {b:Ss.Block} {op oc oe:Nat} {rs:List (List V)} {ce:List V} {ic ie:List Nat} (h1:T.get op=some (1,b.params.map cj)) (h2:T.get oc=some (4,rs.flatten)) (h3:Rows T insD js b.code rs ic) (h4:T.get oe=some (2,ce)) (h5:OwL T (reps b.term.to.length KZ) ce (jq ji b.term.to) ie) :
  OwL T blkD [.slice op 0 b.params.length, .slice oc 0 b.code.length,cj b.term.kind,cj b.term.arg, .slice oe 0 b.term.to.length,vl cj b.term.args] (je b).cells (op::oc::(ic++oe::ie)):=by
 rw [zk];have hP:OwL T (.s [.c]::[.s insD, .c, .c, .s KZ, .c]) (.slice op 0 b.params.length::[.slice oc 0 b.code.length,cj b.term.kind,cj b.term.arg, .slice oe 0 b.term.to.length,vl cj b.term.args]) (vl cj b.params::[vl js b.code,cj b.term.kind,cj b.term.arg,vl ji b.term.to,vl cj b.term.args]) (op::oc::(ic++oe::ie)):=by
  refine OwL.slice (s:=1) (enc:=cj) (fun _=>rfl) (fun _=>rfl) b.params (by rw [qA]; exact h1) ?_;have h6:=h3.owl;have t1:OwL T [.s KZ, .c] [.slice oe 0 b.term.to.length,vl cj b.term.args] [vl ji b.term.to,vl cj b.term.args] (oe::ie):=by
   have:=OwL.s (S:=T) (o:=oe) (tys:=KZ) (cells:=ce) (ys:=b.term.to.map ji) (i:=ie) (j:=[]) h4 (fun y hy=>(by
    obtain ⟨e,_,rfl⟩:=bi.1 hy;exact ⟨by rw [zB]; rfl,zT e⟩)) (by rw [aI,zj]; exact h5) (.c (x:=vl cj b.term.args) rfl .nil)
   rw [aI,List.append_nil] at this;exact this
  have:=OwL.s (S:=T) (o:=oc) (tys:=insD) (cells:=rs.flatten) (ys:=b.code.map js) (i:=ic) (j:=oe::ie) h2 (fun y hy=>(by
   obtain ⟨e,_,rfl⟩:=bi.1 hy;exact ⟨by rw [zr]; rfl,Jg e⟩)) (by rw [aI,zj]; exact h6) (.c (x:=cj b.term.kind) rfl (.c (x:=cj b.term.arg) rfl t1))
  rw [aI] at this;exact this
 exact hP
theorem al3 {f:Ss.Fn} (hf:f.Fits):Fits (Ss.succs f.blocks):=by
 refine ⟨by rw [Ss.succs,aI]; have:=hf.2.2.1; omega,fun l hl => ?_⟩;obtain ⟨b,hb,rfl⟩:=bi.1 hl;have:=(hf.2.2.2 b hb).2.2.2.2.1.1;rw [Ss.rowOf,aI]; omega
end Go.Vw
namespace Ss
def NewX (ts ps:List Int) (x:Ins):Prop:=x=⟨256,9,[],[(ts.length:Int)]⟩ \/ ∃ p∈ps,0<=p/\p<ts.length/\ts.getD p.toNat 0=126/\x=⟨124,0,[p,p],[(ts.length:Int)]⟩
theorem NewX.op {ts ps:List Int} {x:Ins} (h:NewX ts ps x):x.op≠258/\x.outs=[(ts.length:Int)]/\x.args.length<=2:=by
 rcases h with rfl | ⟨p,_,_,_,_,rfl⟩<;>simp
theorem Wi {e:Env} {f:Fn} {ds:List Def} {near:List Int} : ∀ {l:List Block} {i:Nat},(∀ (j:Nat) (b:Block),l[j]? = some b->cx e f ds near ((i+j:Nat):Int) 0 b.code=true/\termOk f ds near ((i+j:Nat):Int) b=true)->cH e f ds near i l=true
 | [],i,_=>rfl
 | b::l,i,h=>by
  simp only [cH,af];refine ⟨h 0 b rfl,Wi fun j y hy => ?_⟩;have:=h (j+1) y (by simpa using hy);rw [show i+1+j=i+(j+1) by omega]; exact this
end Ss
namespace Go.Vw
open Go.Proofs Go.RowKit
attribute [-simp] List.map_set
theorem jdp (l m:List Int) (hl:l.length<2^63):b8 37 [vl cj l,vl cj m] (.bool (decide (l=m))):=by
 intro S;rw [<-aj5];generalize hp:(fun x y:Int=>decide (x=y))=p
 by_cases hlm:l.length=m.length
 .have hlm':(l.length:Int)=(m.length:Int):=by omega
  refine b7 Tryz.func37 Tryz.ntmps37 fun hwf=>?_
  refine bF hlm hlm' ?_
  refine bX [0,1,5] (fun c σ S' => ∃ (k:Nat),k<=l.length/\c=l.length-k/\eqF p (l.drop k) (m.drop k)=eqF p l m/\σ=[(0,vl cj l),(1,vl cj m),(5,cu k)]/\S'=St S [] []) l.length ?_ ?_
  .exact ⟨0,by omega,rfl,rfl,by simp [Fr.oy],rfl⟩
  .rintro c σ T ⟨k,hk,rfl,hd,rfl,rfl⟩
   by_cases hkt:k<l.length
   .have hkm:k<m.length:=by omega
    have hw:=jg hkt hl;have hst:eqF p (l.drop k) (m.drop k)=(p l[k] m[k]&&eqF p (l.drop (k+1)) (m.drop (k+1))):=by rw [am hkt,am hkm,eqF]
    obtain ⟨x,hx⟩ : ∃ x,l[k]=x:=⟨_,rfl⟩
    obtain ⟨y,hy⟩ : ∃ y,m[k]=y:=⟨_,rfl⟩
    rw [hx,hy] at hst
    by_cases hxy:x=y
    .rw [show p x y=true by rw [<-hp]; simp [hxy]] at hst
     refine bO hkt hkm hx hy hxy ?_
     show jx _ _ _ _ _ _ _;exact again ⟨ao hkt (aW k),k+1,hkt,rfl,by rw [<-hd,hst]; rfl,by simp [Fr.oy,hw],rfl⟩
    .rw [show p x y=false by rw [<-hp]; simp [hxy]] at hst
     refine bO hkt hkm hx hy hxy ?_
     exact ja hwf (by rw [<-hd,hst]; rfl) rfl
   .have e:l.drop k=[]:=by rw [aH]; omega
    have e':m.drop k=[]:=by rw [aH]; omega
    rw [e,e'] at hd;have hkm : ¬ k<m.length:=by omega
    refine bF hkt hkm ?_
    exact ja hwf (by rw [<-hd]; rfl) rfl
 .have hlm' : ¬ (l.length:Int)=(m.length:Int):=by omega
  have e:eqF p l m=false:=eqF_len hlm;rw [e];refine b7 Tryz.func37 Tryz.ntmps37 fun hwf=>?_
  refine bF hlm hlm' ?_
  exact bS
theorem aoz (a b:Ss.Sig) (h1:a.inn.length<2^63) (h2:a.out.length<2^63):b8 36 [jn a,jn b] (.bool (decide (a=b))):=by
 intro S;obtain ⟨a1,a2⟩:=a;obtain ⟨b1,b2⟩:=b;simp only [Ss.Sig.mk.injEq] at *
 refine b7 Tryz.func36 Tryz.ntmps36 fun hwf=>?_
 refine bz ?_
 refine QP ?_;refine QL (jdp a1 b1 h1) ?_
 by_cases h:a1=b1
 .refine bJ h ?_;refine QL (jdp a2 b2 h2) ?_;refine bV ?_
  exact ja hwf (by simp [h]) rfl
 .refine bJ h ?_;refine bW ?_
  exact ja hwf (by simp [h]) rfl
end Go.Vw
namespace Ss
end Ss
namespace Go.Vw
open Go.Proofs Go.RowKit
theorem ac9 {S:Store} {fi fo ts:List Int} {bs:List Ss.Block} {cells:List V} {ot ob n m:Nat} {ids:List Nat} (h:OwL S (reps n blkD) cells (jq je bs) ids) (hb:S.get ob=some (6,cells)) (hn:bs.length=n) (ht:S.get ot=some (1,ts.map cj)) (hm:ts.length=m) (hd:(ot::ob::ids).Nodup) :
  Ghost (.agg [vl cj fi,vl cj fo, .slice ot 0 m, .slice ob 0 n]) S (.agg [vl cj fi,vl cj fo,vl cj ts,vl je bs]) (S.dels (ot::ob::ids)):=by
 subst hn;subst hm;refine Jt ?_;have hw:OwL S [.c, .c, .s (List.replicate 1 .c), .s blkD] [vl cj fi,vl cj fo, .slice ot 0 ts.length, .slice ob 0 bs.length] [vl cj fi,vl cj fo,vl cj ts,vl je bs] (ot::ob::ids):=by
  refine .c rfl (.c rfl (OwL.slice (enc:=cj) (fun _=>rfl) (fun _=>rfl) ts (by rw [qA]; exact ht) ?_));have:=OwL.s (S:=S) (o:=ob) (tys:=blkD) (cells:=cells) (ys:=bs.map je) (i:=ids) (j:=[]) hb (fun y hy=>(by
   obtain ⟨b,_,rfl⟩:=bi.1 hy;exact ⟨by rw [zk]; rfl,KE b⟩)) (by rw [aI,zj]; exact h) .nil
  rw [aI,List.append_nil] at this;exact this
 exact hw.freeze hd S fun _ _=>rfl
end Go.Vw
namespace Ss
def emptyFn:Fn:=⟨⟨[],[]⟩,[],[]⟩
end Ss
namespace Go.Vw
open Go.Proofs Go.RowKit
theorem aij (S:Store):Ghost (.agg [.nils, .nils, .nils, .nils]) S (jM Ss.emptyFn) S:=by
 refine Ghost.agg_nl rfl fun i x y hx hy => ?_
 match i,hx,hy with
 | 0,hx,hy=>cases hx; cases hy; exact .inr ⟨rfl,rfl⟩
 | 1,hx,hy=>cases hx; cases hy; exact .inr ⟨rfl,rfl⟩
 | 2,hx,hy=>cases hx; cases hy; exact .inr ⟨rfl,rfl⟩
 | 3,hx,hy=>cases hx; cases hy; exact .inr ⟨rfl,rfl⟩
end Go.Vw
namespace Ss
structure ThinB (b c:Block):Prop where
 params:c.params=b.params
 term:c.term=b.term
 sub:c.code.Sublist b.code
 keep:c.code.filter (fun x=>decide (x.op≠257))=b.code.filter fun x=>decide (x.op≠257)
theorem ThinB.trans {a b c:Block} (h:ThinB a b) (k:ThinB b c):ThinB a c:=⟨k.params.trans h.params,k.term.trans h.term,k.sub.trans h.sub,k.keep.trans h.keep⟩
def ThinL (l m:List Block):Prop:=m.length=l.length /\ ∀ (i:Nat) (b c:Block),l[i]? = some b->m[i]? = some c->ThinB b c
theorem ThinL.trans {l m n:List Block} (h:ThinL l m) (k:ThinL m n):ThinL l n:=by
 refine ⟨k.1.trans h.1,fun i b c h1 h2 => ?_⟩;have hi:i<m.length:=by rw [h.1]; exact (ae.1 h1).1
 exact (h.2 i b m[i] h1 (ac hi)).trans (k.2 i m[i] c (ac hi) h2)
end Ss
