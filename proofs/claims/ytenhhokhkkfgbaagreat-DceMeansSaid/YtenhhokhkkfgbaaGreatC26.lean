import Derived.Test.YtenhhokhkkfgbaaGreatC25
/- Part of the proof. -/
set_option linter.unusedVariables false
set_option linter.unusedSimpArgs false
set_option maxRecDepth 10000
set_option maxHeartbeats 2000000
namespace Go.Vw
open Go.Proofs Go.RowKit
attribute [-simp] List.map_set
abbrev insD:List Ty:=[.c, .c, .s [.c], .s [.c]]
abbrev KZ:List Ty:=[.c, .s [.c]]
abbrev blkD:List Ty:=[.s [.c], .s insD, .c, .c, .s KZ, .c]
def CopiedD (S:Store) (g:Ss.Fn) (r:V) (T:Store):Prop:=Agree S T/\T.Wf /\ ∃ (ot ob:Nat) (cells:List V) (ids:List Nat),r = .agg [vl vint g.sig.inn,vl vint g.sig.out, .slice ot 0 g.types.length, .slice ob 0 g.blocks.length]/\T.get ot=some (1,g.types.map vint)/\T.get ob=some (6,cells)/\OwL T (reps g.blocks.length blkD) cells (ju je g.blocks) ids/\(ot::ob::ids).Nodup /\ ∀ o∈ot::ob::ids,S.nx<=o/\o<T.nx
theorem SReplace_v (S:Store) (f:Ss.Fn) (to:List Int) (hf:f.Fits) (hs:f.small=true) (hto:to.length<2^63):bU 26 [jI f,vl vint to] S (CopiedD S (Ss.replace f to)):=by
 have csm:=small_v f hf;rw [hs] at csm;obtain ⟨hh,hbk,hcnt⟩:=(Ss.small_iff f).1 hs;simp only [Ss.Fn.heads,af,aj] at hh;obtain ⟨sm,hsm⟩ : ∃ sm,sm=true:=⟨_,rfl⟩
 rw [<-hsm] at csm;have cfi:=Clone_v f.sig.inn (by omega);have cfo:=Clone_v f.sig.out (by omega);have cft:=fun S=>Yf S f.types (by omega)
 have hX:Ss.replace f to=⟨f.sig,f.types,f.blocks.map (Ss.repBlock to)⟩:=rfl;rw [hX];clear hX;obtain ⟨⟨fi,fo⟩,ts,bs⟩:=f;simp only at hh hbk hcnt cfi cfo cft ⊢;have csm':bS 58 [.agg [vl vint fi,vl vint fo,vl vint ts,vl je bs]] (.bool sm):=csm;refine qA (c:=jc Tryz.f26) Tryz.func26 rfl (by conv=>lhs; reduce) (by simp [Tryz.ntmps26]) ?_;rw [Tryz.ntmps26];intro hwf
 refine bw ?_
 refine QH 2 0 ?_;refine jt 3 rfl ((boxSt (k:=1) (by simp) (by rfl) (by rfl))) (by conv=>lhs; simp [Fr.set]) ?_;simp only [aq,au];refine QP ?_;refine QL (csm') ?_;refine bB hsm ?_;refine QN ?_
 refine bx hsm ?_
 refine QO [2,4,5,6] ?_;refine QK [3,2] ?_;have cft':=cft (St S [] [some (1,[.func 69 [.ref (vl vint to)]]),some (4,[.nils, .nils, .nils, .nils])]);have cft2:=cft (St S [] [some (1,[.func 69 [.ref (vl vint to)]]),some (4,[.nils, .nils, .nils, .nils]),some (4,[.nils, .nils, .nils, .nils])]);rw [jL,qG, <-JF] at cft' cft2;simp only [List.cons_append,List.nil_append,aC,aM,bd,Nat.add_zero] at cft' cft2;refine QT ?_;refine JR (St S [] []) (St S [] []) [10032] 11 11 13 [11,12,13,14] [13,11,12,14] rfl (by kernel_rfl) (by conv=>lhs; reduce) (by kernel_rfl) (by decide) (by kernel_rfl) (by kernel_rfl) (by kernel_rfl) (by kernel_rfl) (by kernel_rfl) (by kernel_rfl) (by kernel_rfl) rfl rfl (by kernel_rfl) (Kl (by simp [subU,shpU,subL,shpL])) (by conv=>lhs; reduce) (by conv=>lhs; reduce) (by conv=>lhs; reduce) ?_;refine QZ ?_;refine QL (cfi) ?_
 refine QZ ?_;refine QL (cfo) ?_;refine QW ?_;refine ⟨?sm, ?Sm, ?H3, ?H1, ?H2⟩
 case H1 =>
  refine Kp rfl (cft') (by rfl) (Ks (zl _ _ (by simp [subU])) (by simp [subL])) (Kl (by simp [subU,shpU,subL,shpL])) ?_;refine QZ ?_;refine QI ?_;refine QZ ?_;refine QI ?_;refine QW ?_;refine zM [2,4,5,6,7] (Eq.trans (b := ?_) ?_ rfl)
  rotate_left
  conv=>lhs; simp [Fr.only,Fr.look]
 case H2 =>
  refine QI ?_;refine QZ ?_;refine Kp rfl (cft2) (by rfl) (Ks (zl _ _ (by simp [subU])) (by simp [subL])) (Kl (by simp [subU,shpU,subL,shpL])) ?_;refine QZ ?_;refine QI ?_;refine QW ?_;exact Jf [2,4,5,6,7] [0,1,3,2] (by conv=>lhs; simp [Fr.only,Fr.look]) hwf (by decide) (by simp) (by conv=>lhs; simp) (by conv=>lhs; simp) (by conv=>lhs; simp)
 refine bw ?_
 apply jE
 ·exact Reach.voidCell 6 (k:=3) (i:=3) (by simp) (by rfl) (by rfl)
 simp only [List.cons_append,List.nil_append,aC,aM,aq,au];refine QO [4,5,6,7,35,36,37] ?_;refine QK [0,2,1,3,4] ?_;obtain ⟨pc,hpc⟩ : ∃ pc,pc=lid S.nx 0:=⟨_,rfl⟩
 obtain ⟨ot,hot⟩ : ∃ ot,ot=lid S.nx 1:=⟨_,rfl⟩
 rw [<-hpc, <-hot];refine QT ?_;refine jd [4,5,6,7,35,36,37] rfl (fun c σ S' => ∃ (B:Store) (k:Nat) (out:List Ss.Block) (cells:List V) (ids:List Nat),Agree S B/\B.Wf/\(B.get pc=some (1,[.func 69 [.ref (vl vint to)]])/\pc<B.nx)/\(B.get ot=some (1,ts.map vint)/\S.nx<=ot/\ot<B.nx/\ot∉ids)/\k<=bs.length/\c=bs.length-k/\out=(bs.take k).map (Ss.repBlock to)/\out.length=k/\OwL B (reps k blkD) cells (ju je out) ids/\ids.Nodup/\(∀ o∈ids,S.nx<=o/\o<B.nx)/\σ=[(4, .ptr (lid B.nx 0) 0),(5, .ptr pc 0),(6, .func 70 [.ptr pc 0]),(7, .ptr (lid B.nx 1) 0),(35,vl je bs),(36,vnat bs.length),(37,vnat k)]/\S'=St B [] [some (4,[.nils, .nils, .nils, .nils]),some (4,[vl vint fi,vl vint fo, .slice ot 0 ts.length, .slice (lid B.nx 2) 0 k]),some (6,cells)]) bs.length ?_ ?_
 ·refine ⟨St S [] [some (1,[.func 69 [.ref (vl vint to)]]),some (1,ts.map vint)],0,[],[],[],zI,St_wf hwf (by simp),⟨by rw [hpc,jv]; rfl,by rw [hpc,jL]; simp [lid]⟩,⟨by rw [hot,jv]; rfl,by rw [hot,lid]; omega,by rw [hot,jL]; simp [lid],by simp⟩,by omega,rfl,by simp,rfl, .nil,by simp,by simp,by simp [Fr.only,jL,qG], ?_⟩;refine (JF (l:=[_,_])).trans ?_;simp [jL,qG]
 ·rintro c σ T ⟨B,k,out,cells,ids,hag,hwfB,⟨hpg,hpB⟩,⟨hotg,hots,hotB,hotn⟩,hk,rfl,ho,hol,how,hnd,hids,rfl,rfl⟩;have hwfS:=hwf;clear hwf;have hwf:=hwfB;refine Yl hag.1 ?_;have hci:=fun ks=>(how.old (fun o ho=>(hids o ho).2) ks).1
  have hcr:=fun ks=>(how.old (fun o ho=>(hids o ho).2) ks).2
  have gtP:=fun ks=>qv (n:=B.nx) ks hotB
  have gtT:=fun ks=>jZ (n:=B.nx) ks hotB
  have gpP:=fun ks=>qv (n:=B.nx) ks hpB
  have gpT:=fun ks=>jZ (n:=B.nx) ks hpB
  by_cases hkt:k<bs.length
  case neg =>
   have hke:k=bs.length:=by omega
   subst hke;rw [List.take_length] at ho
   refine bx hkt ?_
   refine WW (xs:=[.agg [vl vint fi,vl vint fo, .slice ot 0 ts.length, .slice (lid B.nx 2) 0 bs.length]]) (by simp) ?_;rw [tupV_1];have hlb:(bs.map (Ss.repBlock to)).length=bs.length:=aI _;have hcw:V.idsL (fun o=>decide (o<lid B.nx 3)) cells=true:=how.ids_lt fun o ho=>decide_eq_true (aU (hids o ho).2 (by rw [lid]; omega))
   have hotw:ot<lid B.nx 3:=aU hotB (by rw [lid]; omega);refine zi ⟨hag.St,St_wf hwf (by simp [hcw,lid_lt,hotw]),ot,lid B.nx 2,cells,ids,by rw [hlb],by rw [jh hotB]; exact hotg,by rw [jv]; rfl, ?_, ?_, ?_⟩
   ·rw [hlb, <-ho];exact how.mono fun o ho=>by rw [jh (hids o ho).2]; rfl
   ·refine List.nodup_cons.2 ⟨fun hm => ?_,List.nodup_cons.2 ⟨fun hm => ?_,hnd⟩⟩
    ·rcases aL.1 hm with e | hm
     ·rw [e,lid] at hotB; omega
     ·exact hotn hm
    ·have:=(hids _ hm).2;simp only [lid] at this; omega
   ·intro o ho;have hle:=hag.1;rw [jL];rcases aL.1 ho with rfl | ho
    ·simp only [lid,aC,aM]; omega
    rcases aL.1 ho with rfl | ho
    ·simp only [lid,aC,aM]; omega
    ·have:=hids o ho;simp only [lid,aC,aM]; omega
  have hw:=jg hkt (by omega);have hbk':=hbk _ (ah hkt);have hcb:=count_mem (ah hkt);have htk:(bs.take (k+1)).map (Ss.repBlock to)=(bs.take k).map (Ss.repBlock to)++[Ss.repBlock to bs[k]]:=by rw [List.take_add_one,ac hkt,List.map_append]; rfl
  obtain ⟨⟨ps,code,⟨tk,ta,tt,az⟩⟩,hx⟩ : ∃ b,bs[k]=b:=⟨_,rfl⟩
  rw [hx] at hbk' htk hcb;simp only [Ss.Block.small,af,aD,Ss.Ins.small,Ss.Edge.small,aj] at hbk';obtain ⟨⟨⟨⟨hps,htt⟩,haz⟩,hcode⟩,hto2⟩:=hbk';simp only at hcb;have hcl:code.length<=4096:=by omega
  have cps:=fun S=>Yf S ps (by omega)
  refine bt hkt hx ?_
  refine QH 9 3 ?_;refine QO [4,5,6,7,9,35,36,37] ?_;refine ZR [0,1,2] hwf (by decide) (by simp [gpP,gpT,gtP,gtT,hci,hcr]) (by conv=>lhs; simp [gpP,gpT,gtP,gtT,hci,hcr]) (by conv=>lhs; simp [gpP,gpT,gtP,gtT,hci,hcr]) (by conv=>lhs; simp [gpP,gpT,gtP,gtT,hci,hcr]) ?_;have cps':=cps (St B [] [some (4,[.nils, .nils, .nils, .nils]),some (4,[vl vint fi,vl vint fo, .slice ot 0 ts.length, .slice (lid B.nx 2) 0 k]),some (6,cells)]);have cps2:=cps (St B [] [some (4,[.nils, .nils, .nils, .nils]),some (4,[vl vint fi,vl vint fo, .slice ot 0 ts.length, .slice (lid B.nx 2) 0 k]),some (6,cells),some (6,[.nils, .nils, .int .i64 0, .int .i64 0, .nils, .nils])]);rw [jL,qG, <-JF] at cps' cps2;simp only [List.cons_append,List.nil_append,aC,aM,bd,Nat.add_zero] at cps' cps2;refine QT ?_;refine JR (St B [] []) (St B [] []) [10043] 2 2 6 [2,3,4,5,6,7] [6,2,3,4,5,7] rfl (by kernel_rfl) (by conv=>lhs; reduce) (by kernel_rfl) (by decide) (by kernel_rfl) (by kernel_rfl) (by kernel_rfl) (by kernel_rfl) (by kernel_rfl) (by kernel_rfl) (by kernel_rfl) rfl rfl (by kernel_rfl) (Kl (by simp [subU,shpU,subL,shpL])) (by conv=>lhs; reduce) (by conv=>lhs; reduce) (by conv=>lhs; reduce) ?_
  refine QW ?_;refine ⟨?sm2, ?Sm2, ?H3b, ?H1b, ?H2b⟩
  case H1b =>
   refine Kp rfl (cps') (by rfl) (Ks (zl _ _ (by simp [subU])) (by simp [subL])) (Kl (by simp [subU,shpU,subL,shpL])) ?_;refine QZ ?_;refine QI ?_;refine QZ ?_;refine QI ?_;refine QW ?_;refine zM [4,5,6,7,9,10,35,36,37] (Eq.trans (b := ?_) ?_ rfl)
   rotate_left
   conv=>lhs; simp [Fr.only,Fr.look]
  case H2b =>
   refine QI ?_;refine QZ ?_;refine Kp rfl (cps2) (by rfl) (Ks (zl _ _ (by simp [subU])) (by simp [subL])) (Kl (by simp [subU,shpU,subL,shpL])) ?_;refine QZ ?_;refine QI ?_;refine QW ?_;exact Jf [4,5,6,7,9,10,35,36,37] [0,1,2,4,3] (by conv=>lhs; simp [Fr.only,Fr.look]) hwf (by decide) (by simp [gpP,gpT,gtP,gtT,hci,hcr]) (by conv=>lhs; simp [gpP,gpT,gtP,gtT,hci,hcr]) (by conv=>lhs; simp [gpP,gpT,gtP,gtT,hci,hcr]) (by conv=>lhs; simp [gpP,gpT,gtP,gtT,hci,hcr])
  refine bw ?_
  apply jE
  ·exact Reach.voidCell 4 (k:=4) (i:=1) (by simp) (by rfl) (by rfl)
  simp only [List.cons_append,List.nil_append,aC,aM,aq,au];refine QT ?_;refine jd [4,5,6,7,9,10,35,36,37,48,49,50] rfl (fun c σ S' => ∃ (B2:Store) (j:Nat) (co:List Ss.Ins) (cc:List V) (ci:List Nat),Agree B B2/\B2.Wf/\j<=code.length/\c=code.length-j/\co=(code.take j).map (Ss.repIns to)/\co.length=j/\OwL B2 (reps j insD) cc (ju jp co) ci/\ci.Nodup/\(∀ o∈ci,B.nx<=o/\o<B2.nx)/\σ=[(4, .ptr (lid B2.nx 0) 0),(5, .ptr pc 0),(6, .func 70 [.ptr pc 0]),(7, .ptr (lid B2.nx 1) 0),(9, .ref (.agg [vl vint ps,vl jp code, .int .i64 tk, .int .i64 ta,vl jk tt,vl vint az])),(10, .ptr (lid B2.nx 4) 0),(35,vl je bs),(36,vnat bs.length),(37,vnat k),(48,vl jp code),(49,vnat code.length),(50,vnat j)]/\S'=St B2 [] [some (4,[.nils, .nils, .nils, .nils]),some (4,[vl vint fi,vl vint fo, .slice ot 0 ts.length, .slice (lid B2.nx 2) 0 k]),some (6,cells),some (1,ps.map vint),some (6,[.slice (lid B2.nx 3) 0 ps.length, .slice (lid B2.nx 5) 0 j, .int .i64 tk, .int .i64 ta,vl jk tt,vl vint az]),some (4,cc)]) code.length ?_ ?_
  ·exact ⟨B,0,[],[],[],⟨bf _,fun _ _=>rfl⟩,hwf,by omega,rfl,by simp,rfl, .nil,by simp,by simp,by simp [Fr.only],by simp⟩
  ·rintro c σ T ⟨B2,j,co,cc,ci,hag2,hwfB2,hj,rfl,hco,hcol,hwc,hcnd,hcid,rfl,rfl⟩;have hwfB1:=hwf;clear hwf;have hwf:=hwfB2;refine Yl hag2.1 ?_;have hle2:=hag2.1;have hci2:=fun ks=>(how.old (n:=B2.nx) (fun o ho=>aU (hids o ho).2 hle2) ks).1
   have hcr2:=fun ks=>(how.old (n:=B2.nx) (fun o ho=>aU (hids o ho).2 hle2) ks).2
   have hcc2:=fun ks=>(hwc.old (fun o ho=>(hcid o ho).2) ks).1
   have hcw2:=fun ks=>(hwc.old (fun o ho=>(hcid o ho).2) ks).2
   have gtP2:=fun ks=>qv (n:=B2.nx) ks (aU hotB hle2)
   have gtT2:=fun ks=>jZ (n:=B2.nx) ks (aU hotB hle2)
   have gpP2:=fun ks=>qv (n:=B2.nx) ks (aU hpB hle2)
   have gpT2:=fun ks=>jZ (n:=B2.nx) ks (aU hpB hle2)
   have hpg2:B2.get pc=some (1,[.func 69 [.ref (vl vint to)]]):=(hag2.2 pc hpB).trans hpg;have hpc2 : ∀ l,(St B2 [] l).get pc=some (1,[.func 69 [.ref (vl vint to)]]):=fun l=>by rw [jh (aU hpB hle2)]; exact hpg2
   by_cases hjt:j<code.length
   case neg =>
    have hje:j=code.length:=by omega
    subst hje;rw [List.take_length] at hco;have cbr:=jbV ⟨tk,ta,tt,az⟩;obtain ⟨br,hbr⟩ : ∃ br,Ss.branches ⟨tk,ta,tt,az⟩=br:=⟨_,rfl⟩
    rw [hbr] at cbr;have cbr':bS 71 [.agg [.int .i64 tk, .int .i64 ta,vl jk tt,vl vint az]] (.bool br):=cbr;have hbr2:br=true↔(tk=2\/tk=3):=by rw [<-hbr]; simp [Ss.branches]
    have cone:=one_v ta to hto;generalize hgt:Ss.putv to ta=gt at *
    refine bM hjt ?_;refine QT ?_;refine jG rfl rfl rfl ?_;refine QT ?_;refine qb 2 rfl rfl ?_;refine JQ rfl ?_;refine ZQ (fun σ S'=>σ=[(4, .ptr (lid B2.nx 0) 0),(5, .ptr pc 0),(6, .func 70 [.ptr pc 0]),(7, .ptr (lid B2.nx 1) 0),(9, .ref (.agg [vl vint ps,vl jp code, .int .i64 tk, .int .i64 ta,vl jk tt,vl vint az])),(10, .ptr (lid B2.nx 4) 0),(35,vl je bs),(36,vnat bs.length),(37,vnat k)]/\S'=St B2 [] [some (4,[.nils, .nils, .nils, .nils]),some (4,[vl vint fi,vl vint fo, .slice ot 0 ts.length, .slice (lid B2.nx 2) 0 k]),some (6,cells),some (1,ps.map vint),some (6,[.slice (lid B2.nx 3) 0 ps.length, .slice (lid B2.nx 5) 0 code.length, .int .i64 tk, .int .i64 (if tk=2\/tk=3 then gt else ta),vl jk tt,vl vint az]),some (4,cc)]) [4,5,6,7,9,10,35,36,37] ?_ ?_
    ·refine QP ?_;refine QL (cbr') ?_
     by_cases h:br=true
     ·have h2:=hbr2.1 h;refine bB h ?_;refine bR ?_
      refine bH hpc2 ?_;refine ZU (cone) (by rfl) (by rfl) (by rfl) ?_;refine QW ?_;exact ⟨by simp [Fr.only],by simp [h2]⟩
     ·have h':br=false:=by simpa using h
      have h2 : ¬ (tk=2\/tk=3):=fun e=>h (hbr2.2 e)
      refine bB h' ?_;refine bR ?_
      exact ⟨by simp [Fr.only],by simp [h2]⟩
    rintro σ S' ⟨rfl,rfl⟩;refine Yl hag2.1 ?_;generalize hgg:(if tk=2\/tk=3 then gt else ta)=gg;have cza:=allO_v (St B2 [] [some (4,[.nils, .nils, .nils, .nils]),some (4,[vl vint fi,vl vint fo, .slice ot 0 ts.length, .slice (lid B2.nx 2) 0 k]),some (6,cells),some (1,ps.map vint),some (6,[.slice (lid B2.nx 3) 0 ps.length, .slice (lid B2.nx 5) 0 code.length, .int .i64 tk, .int .i64 gg,vl jk tt,vl vint az]),some (4,cc)]) az to pc (hpc2 _) (by omega) hto;have hgzl:(az.map (Ss.putv to)).length=az.length:=aI _;generalize hgz:az.map (Ss.putv to)=gz at *
    rw [jL,qG, <-JF] at cza;simp only [List.cons_append,List.nil_append,aC,aM,bd,Nat.add_zero] at cza;refine QP ?_;refine ql (by rfl) (by rfl) (by rfl) cza ?_;rintro X T' ⟨rfl,rfl⟩;refine QW ?_
    apply jE
    ·exact Reach.frzCell (k:=4) (j:=6) (i:=5) (n:=az.length) (cells':=gz.map vint) (by decide) (by simp) (by simp) rfl rfl rfl (jq vint (fun _=>rfl) _) (by simp [hgzl])
    simp only [aq,au]
    refine bw ?_
    apply jE
    ·exact Reach.voidCell 2 (k:=4) (i:=4) (by simp) (by rfl) (by rfl)
    simp only [List.cons_append,List.nil_append,aC,aM,aq,au];refine QO [4,5,6,7,10,35,36,37,91,92,93] ?_;refine ZR [0,1,2,3,4,5,7] hwf (by decide) (by simp [gpP2,gpT2,gtP2,gtT2,hci2,hcr2,hcc2,hcw2]) (by conv=>lhs; simp [gpP2,gpT2,gtP2,gtT2,hci2,hcr2,hcc2,hcw2]) (by conv=>lhs; simp [gpP2,gpT2,gtP2,gtT2,hci2,hcr2,hcc2,hcw2]) (by conv=>lhs; simp [gpP2,gpT2,gtP2,gtT2,hci2,hcr2,hcc2,hcw2]) ?_;refine QT ?_;refine jd [4,5,6,7,10,35,36,37,91,92,93] rfl (fun c σ S' => ∃ (B3:Store) (q:Nat) (eo:List Ss.Edge) (ec:List V) (ei:List Nat),Agree B2 B3/\B3.Wf/\q<=tt.length/\c=tt.length-q/\eo=(tt.take q).map (Ss.repEdge to)/\eo.length=q/\OwL B3 (reps q KZ) ec (ju jk eo) ei/\ei.Nodup/\(∀ o∈ei,B2.nx<=o/\o<B3.nx)/\σ=[(4, .ptr (lid B3.nx 0) 0),(5, .ptr pc 0),(6, .func 70 [.ptr pc 0]),(7, .ptr (lid B3.nx 1) 0),(10, .ptr (lid B3.nx 4) 0),(35,vl je bs),(36,vnat bs.length),(37,vnat k),(91,vl jk tt),(92,vnat tt.length),(93,vnat q)]/\S'=St B3 [] [some (4,[.nils, .nils, .nils, .nils]),some (4,[vl vint fi,vl vint fo, .slice ot 0 ts.length, .slice (lid B3.nx 2) 0 k]),some (6,cells),some (1,ps.map vint),some (6,[.slice (lid B3.nx 3) 0 ps.length, .slice (lid B3.nx 5) 0 code.length, .int .i64 tk, .int .i64 gg, .slice (lid B3.nx 6) 0 q,vl vint gz]),some (4,cc),some (2,ec)]) tt.length ?_ ?_
    ·exact ⟨B2,0,[],[],[],⟨bf _,fun _ _=>rfl⟩,hwf,by omega,rfl,by simp,rfl, .nil,by simp,by simp,by simp [Fr.only],by simp [vl]⟩
    ·rintro c σ T ⟨B3,q,eo,ec,ei,hag3,hwfB3,hq,rfl,heo,heol,hwe,hend,heid,rfl,rfl⟩;have hwfB2':=hwf;clear hwf;have hwf:=hwfB3;refine Yl hag3.1 ?_;have hle3:=hag3.1;have hci3:=fun ks=>(how.old (n:=B3.nx) (fun o ho=>aU (hids o ho).2 (bh hle2 hle3)) ks).1
     have hcr3:=fun ks=>(how.old (n:=B3.nx) (fun o ho=>aU (hids o ho).2 (bh hle2 hle3)) ks).2
     have hcc3:=fun ks=>(hwc.old (n:=B3.nx) (fun o ho=>aU (hcid o ho).2 hle3) ks).1
     have hcw3:=fun ks=>(hwc.old (n:=B3.nx) (fun o ho=>aU (hcid o ho).2 hle3) ks).2
     have hce3:=fun ks=>(hwe.old (fun o ho=>(heid o ho).2) ks).1
     have hcx3:=fun ks=>(hwe.old (fun o ho=>(heid o ho).2) ks).2
     have hotB3:=aU hotB (bh hle2 hle3);have hpB3:=aU hpB (bh hle2 hle3);have gtP3:=fun ks=>qv (n:=B3.nx) ks hotB3
     have gtT3:=fun ks=>jZ (n:=B3.nx) ks hotB3
     have gpP3:=fun ks=>qv (n:=B3.nx) ks hpB3
     have gpT3:=fun ks=>jZ (n:=B3.nx) ks hpB3
     have hpc3 : ∀ l,(St B3 [] l).get pc=some (1,[.func 69 [.ref (vl vint to)]]):=fun l=>by rw [jh hpB3]; exact (hag3.2 pc (aU hpB hle2)).trans hpg2
     by_cases hqt:q<tt.length
     case neg =>
      have hqe:q=tt.length:=by omega
      subst hqe;rw [List.take_length] at heo;have hcel:cells.length=k*6:=by rw [how.len.1,Js]; rfl
      have hb:(k+1)*112<=140737488355328:=by omega
      have hb':k+1<=140737488355328:=by omega
      repeat first|refine QG ?_|refine QY ?_ (r:=by conv=>lhs;simp[QV,hqt,hb,hb',hcel,rep0,hw])
      show js _ _ _ _ _ _ _;refine zu (b':=B3.nx) (bh hag.1 (bh hle2 hle3)) ?_;have hblk:Ss.repBlock to ⟨ps,code,⟨tk,ta,tt,az⟩⟩=⟨ps,co,⟨tk,gg,eo,gz⟩⟩:=by
       simp only [Ss.repBlock,Ss.repTerm,hgt,hgz,hgg,hco,heo]
      have hagB:Agree S B3:=(hag.trans hag2).trans hag3;have hB4 : ∀ o,o<B3.nx->(St B3 [] [some (1,ps.map vint),some (4,cc),some (2,ec)]).get o=B3.get o:=fun o ho=>by rw [jh ho]; rfl
      have hgB : ∀ o,o<B.nx->(St B3 [] [some (1,ps.map vint),some (4,cc),some (2,ec)]).get o=B.get o:=fun o ho=>by
       rw [hB4 o (by omega),hag3.2 o (by omega),hag2.2 o ho]
      have hgB2 : ∀ o,o<B2.nx->(St B3 [] [some (1,ps.map vint),some (4,cc),some (2,ec)]).get o=B2.get o:=fun o ho=>by
       rw [hB4 o (by omega),hag3.2 o ho]
      have hnew:OwL (St B3 [] [some (1,ps.map vint),some (4,cc),some (2,ec)]) blkD [.slice (lid B3.nx 0) 0 ps.length, .slice (lid B3.nx 1) 0 code.length, .int .i64 tk, .int .i64 gg, .slice (lid B3.nx 2) 0 tt.length,vl vint gz] (je ⟨ps,co,⟨tk,gg,eo,gz⟩⟩).cells (lid B3.nx 0::(lid B3.nx 1::(ci++(lid B3.nx 2::(ei++[]))))):=by
       rw [zj];refine OwL.slice (enc:=vint) (fun _=>rfl) (fun _=>rfl) ps (by rw [jv,qn]; rfl) ?_;have h1:=OwL.s (S:=St B3 [] [some (1,ps.map vint),some (4,cc),some (2,ec)]) (o:=lid B3.nx 1) (tys:=insD) (cells:=cc) (ys:=co.map jp) (by rw [jv]; rfl) (fun y hy=>(by
        obtain ⟨b,_,rfl⟩:=bk.1 hy;exact ⟨by rw [zW]; rfl,JZ b⟩)) (by rw [aI,zb,hcol]; exact hwc.mono fun o ho=>hgB2 o (hcid o ho).2)
        (.c (x := .int .i64 tk) rfl (.c (x := .int .i64 gg) rfl (OwL.s (S:=St B3 [] [some (1,ps.map vint),some (4,cc),some (2,ec)]) (o:=lid B3.nx 2) (tys:=KZ) (cells:=ec) (ys:=eo.map jk) (by rw [jv]; rfl) (fun y hy=>(by
         obtain ⟨b,_,rfl⟩:=bk.1 hy;exact ⟨by rw [ze]; rfl,Wg b⟩)) (by rw [aI,zb,heol]; exact hwe.mono fun o ho=>hB4 o (heid o ho).2) (.c (x:=vl vint gz) rfl .nil))))
       rw [aI,aI,hcol,heol] at h1;exact h1
      have hown:OwL (St B3 [] [some (1,ps.map vint),some (4,cc),some (2,ec)]) (reps (k+1) blkD) (cells++[.slice (lid B3.nx 0) 0 ps.length, .slice (lid B3.nx 1) 0 code.length, .int .i64 tk, .int .i64 gg, .slice (lid B3.nx 2) 0 tt.length,vl vint gz]) (ju je (out++[⟨ps,co,⟨tk,gg,eo,gz⟩⟩])) (ids++lid B3.nx 0::(lid B3.nx 1::(ci++(lid B3.nx 2::(ei++[]))))):=by
       rw [jah,JL];exact (how.mono fun o ho=>hgB o (hids o ho).2).append hnew
      have hmem : ∀ o,o∈lid B3.nx 0::(lid B3.nx 1::(ci++(lid B3.nx 2::(ei++[]))))->(o=lid B3.nx 0\/o=lid B3.nx 1\/o=lid B3.nx 2)\/(B.nx<=o/\o<B2.nx/\o∈ci)\/(B2.nx<=o/\o<B3.nx/\o∈ei):=by
       intro o ho;simp only [aL,aG,List.not_mem_nil,or_false] at ho;rcases ho with h | h | h | h | h
       ·exact .inl (.inl h)
       ·exact .inl (.inr (.inl h))
       ·exact .inr (.inl ⟨(hcid o h).1,(hcid o h).2,h⟩)
       ·exact .inl (.inr (.inr h))
       ·exact .inr (.inr ⟨(heid o h).1,(heid o h).2,h⟩)
      have hge : ∀ o,o∈lid B3.nx 0::(lid B3.nx 1::(ci++(lid B3.nx 2::(ei++[]))))->B.nx<=o/\o<(St B3 [] [some (1,ps.map vint),some (4,cc),some (2,ec)]).nx:=by
       intro o ho;rw [jL];rcases hmem o ho with (h | h | h) | h | h
       ·rw [h]; simp only [lid,aC,aM]; omega
       ·rw [h]; simp only [lid,aC,aM]; omega
       ·rw [h]; simp only [lid,aC,aM]; omega
       ·simp only [lid,aC,aM]; omega
       ·simp only [lid,aC,aM]; omega
      have hndI:(lid B3.nx 0::(lid B3.nx 1::(ci++(lid B3.nx 2::(ei++[]))))).Nodup:=by
       have nci : ∀ q,lid B3.nx q∉ci:=fun q h=>by have:=(hcid _ h).2; simp only [lid] at this; omega
       have nei : ∀ q,lid B3.nx q∉ei:=fun q h=>by have:=(heid _ h).2; simp only [lid] at this; omega
       rw [List.append_nil];refine List.nodup_cons.2 ⟨?_,List.nodup_cons.2 ⟨?_,List.nodup_append.2 ⟨hcnd,List.nodup_cons.2 ⟨nei 2,hend⟩, ?_⟩⟩⟩
       ·simp only [aL,aG,not_or];exact ⟨by simp [lid],nci 0,by simp [lid],nei 0⟩
       ·simp only [aL,aG,not_or];exact ⟨nci 1,by simp [lid],nei 1⟩
       ·intro a ha b hb e;rcases aL.1 hb with rfl | hb
        ·exact nci 2 (e▸ha)
        ·have h1:=(hcid a ha).2;have h2:=(heid b hb).1;omega
      have hndN:(ids++lid B3.nx 0::(lid B3.nx 1::(ci++(lid B3.nx 2::(ei++[]))))).Nodup:=by
       refine List.nodup_append.2 ⟨hnd,hndI,fun a ha b hb e => ?_⟩;have h1:=(hids a ha).2;have h2:=(hge b hb).1;omega
      have hidN : ∀ o∈ids++lid B3.nx 0::(lid B3.nx 1::(ci++(lid B3.nx 2::(ei++[])))),S.nx<=o/\o<(St B3 [] [some (1,ps.map vint),some (4,cc),some (2,ec)]).nx:=by
       intro o ho;have hle:=hag.1;rcases aG.1 ho with ho | ho
       ·have:=hids o ho;rw [jL]; simp only [lid,aC,aM]; omega
       ·have:=hge o ho;omega
      have hotN:(St B3 [] [some (1,ps.map vint),some (4,cc),some (2,ec)]).get ot=some (1,ts.map vint)/\S.nx<=ot/\ot<(St B3 [] [some (1,ps.map vint),some (4,cc),some (2,ec)]).nx/\ot∉ids++lid B3.nx 0::(lid B3.nx 1::(ci++(lid B3.nx 2::(ei++[])))):=by
       refine ⟨by rw [hgB ot hotB]; exact hotg,hots,by rw [jL]; simp only [lid,aC,aM]; omega,fun hm => ?_⟩;rcases aG.1 hm with hm | hm
       ·exact hotn hm
       ·have:=(hge ot hm).1; omega
      have hpN:(St B3 [] [some (1,ps.map vint),some (4,cc),some (2,ec)]).get pc=some (1,[.func 69 [.ref (vl vint to)]])/\pc<(St B3 [] [some (1,ps.map vint),some (4,cc),some (2,ec)]).nx:=⟨by rw [hgB pc hpB]; exact hpg,by rw [jL]; simp only [lid,aC,aM]; omega⟩
      have hcw':V.idsL (fun o=>decide (o<lid B3.nx 3)) cc=true:=hwc.ids_lt fun o ho=>decide_eq_true (by have:=(hcid o ho).2; simp only [lid]; omega)
      have hew':V.idsL (fun o=>decide (o<lid B3.nx 3)) ec=true:=hwe.ids_lt fun o ho=>decide_eq_true (by have:=(heid o ho).2; simp only [lid]; omega)
      refine jT [3,5,6,0,1,8] (by conv=>lhs; simp [Fr.only]) hwf (by decide) (by simp [gpP3,gpT3,gtP3,gtT3,hci3,hcr3,hcc3,hcw3,hce3,hcx3]) (by conv=>lhs; simp [gpP3,gpT3,gtP3,gtT3,hci3,hcr3,hcc3,hcw3,hce3,hcx3]) (by conv=>lhs; simp [gpP3,gpT3,gtP3,gtT3,hci3,hcr3,hcc3,hcw3,hce3,hcx3]) (by conv=>lhs; simp [gpP3,gpT3,gtP3,gtT3,hci3,hcr3,hcc3,hcw3,hce3,hcx3]) ⟨?_,St B3 [] [some (1,ps.map vint),some (4,cc),some (2,ec)],k+1,out++[⟨ps,co,⟨tk,gg,eo,gz⟩⟩],cells++[.slice (lid B3.nx 0) 0 ps.length, .slice (lid B3.nx 1) 0 code.length, .int .i64 tk, .int .i64 gg, .slice (lid B3.nx 2) 0 tt.length,vl vint gz],ids++lid B3.nx 0::(lid B3.nx 1::(ci++(lid B3.nx 2::(ei++[])))),hagB.St,St_wf hwf (by simp [hcw',hew']),hpN,hotN,hkt,rfl,by rw [htk,hblk,ho],by simp [hol],hown,hndN,hidN,by simp [jL,qG],(by refine (JF (l:=[_,_,_])).trans ?_; simp [jL,qG])⟩
      omega
     have hwq:=jg hqt (by omega);have heq:=hto2 _ (ah hqt);have hcq:(tt.take (q+1)).map (Ss.repEdge to)=(tt.take q).map (Ss.repEdge to)++[Ss.repEdge to tt[q]]:=by rw [List.take_add_one,ac hqt,List.map_append]; rfl
     obtain ⟨⟨xt,xa⟩,hx2⟩ : ∃ x,tt[q]=x:=⟨_,rfl⟩
     rw [hx2] at hcq heq;simp only at heq;have hecl:ec.length=q*2:=by rw [hwe.len.1,Js]; rfl
     have hb:(q+1)*32<=140737488355328:=by omega
     have hb':q+1<=140737488355328:=by omega
     have cea:=allO_v (St B3 [] [some (4,[.nils, .nils, .nils, .nils]),some (4,[vl vint fi,vl vint fo, .slice ot 0 ts.length, .slice (lid B3.nx 2) 0 k]),some (6,cells),some (1,ps.map vint),some (6,[.slice (lid B3.nx 3) 0 ps.length, .slice (lid B3.nx 5) 0 code.length, .int .i64 tk, .int .i64 gg, .slice (lid B3.nx 6) 0 q,vl vint gz]),some (4,cc),some (2,ec),none]) xa to pc (hpc3 _) (by omega) hto;have hgal:(xa.map (Ss.putv to)).length=xa.length:=aI _;generalize hga:xa.map (Ss.putv to)=ga at *
     rw [jL,qG, <-JF] at cea;simp only [List.cons_append,List.nil_append,aC,aM,bd,Nat.add_zero] at cea
     refine bt hqt hx2 ?_
     refine QH 14 7 ?_;refine QT ?_;refine QJ (St B3 [] []) (St B3 [] [none,none,none,none,some (6,[])]) [99,10105] ?_ (r:=by conv=>lhs; simp [QV]);refine vcallv_w (by rfl) (by rfl) (by rfl) (cea) (by rfl) (Ks (zl _ _ (by simp [subU])) (by simp [subL])) (Kl (by simp [subU,shpU,subL,shpL])) ?_;refine QZ ?_;refine QI ?_ (r:=by conv=>lhs;simp[QV,rep0]);refine QZ ?_;refine QI ?_ (r:=by conv=>lhs;simp[QV,hb,hb',hecl]);refine QZ ?_;refine QI ?_;refine QW ?_
     refine bx hwq ?_
     show js _ _ _ _ _ _ _;refine zu hag3.1 ?_;have hB4 : ∀ o,o<B3.nx->(St B3 [] [some (1,ga.map vint)]).get o=B3.get o:=fun o ho=>by rw [jh ho]; rfl
     have hnew:OwL (St B3 [] [some (1,ga.map vint)]) KZ [.int .i64 xt, .slice (lid B3.nx 0) 0 xa.length] (jk ⟨xt,ga⟩).cells [lid B3.nx 0]:=by
      rw [ze, <-hgal];exact .c rfl (OwL.slice (enc:=vint) (fun _=>rfl) (fun _=>rfl) ga (by rw [jv,qn]; rfl) .nil)
     have hown:OwL (St B3 [] [some (1,ga.map vint)]) (reps (q+1) KZ) (ec++[.int .i64 xt, .slice (lid B3.nx 0) 0 xa.length]) (ju jk (eo++[⟨xt,ga⟩])) (ei++[lid B3.nx 0]):=by
      rw [jah,JL];exact (hwe.mono fun o ho=>hB4 o (heid o ho).2).append hnew
     have hri:Ss.repEdge to ⟨xt,xa⟩=⟨xt,ga⟩:=by simp only [Ss.repEdge,hga]
     have hndN:(ei++[lid B3.nx 0]).Nodup:=by
      refine List.nodup_append.2 ⟨hend,by simp,fun a ha b hb e => ?_⟩;have:=(heid a ha).2;simp only [aW] at hb;rw [e,hb,lid] at this; omega
     have hidN : ∀ o∈ei++[lid B3.nx 0],B2.nx<=o/\o<(St B3 [] [some (1,ga.map vint)]).nx:=by
      intro o ho;rw [jL];rcases aG.1 ho with ho | ho
      ·have:=heid o ho;simp only [lid,aC,aM]; omega
      ·simp only [aW] at ho;rw [ho]; simp only [lid,aC,aM]; omega
     refine jT [8,0,1,2,3,4,5,10] (by conv=>lhs; simp [Fr.only]) hwf (by decide) (by simp [gpP3,gpT3,gtP3,gtT3,hci3,hcr3,hcc3,hcw3,hce3,hcx3]) (by conv=>lhs; simp [gpP3,gpT3,gtP3,gtT3,hci3,hcr3,hcc3,hcw3,hce3,hcx3]) (by conv=>lhs; simp [gpP3,gpT3,gtP3,gtT3,hci3,hcr3,hcc3,hcw3,hce3,hcx3]) (by conv=>lhs; simp [gpP3,gpT3,gtP3,gtT3,hci3,hcr3,hcc3,hcw3,hce3,hcx3]) ⟨?_,St B3 [] [some (1,ga.map vint)],q+1,eo++[⟨xt,ga⟩],ec++[.int .i64 xt, .slice (lid B3.nx 0) 0 xa.length],ei++[lid B3.nx 0],hag3.St,St_wf hwf (by simp),hqt,rfl,by rw [hcq,hri,heo],by simp [heol],hown,hndN,hidN,by simp [jL,qG],(by refine (St_sink1).trans ?_; simp [jL,qG])⟩;omega
   have hwj:=jg hjt (by omega);have hcj:(code.take (j+1)).map (Ss.repIns to)=(code.take j).map (Ss.repIns to)++[Ss.repIns to code[j]]:=by rw [List.take_add_one,ac hjt,List.map_append]; rfl
   have hsj:=hcode _ (ah hjt);obtain ⟨⟨xo,xn,xa,xu⟩,hx2⟩ : ∃ x,code[j]=x:=⟨_,rfl⟩
   rw [hx2] at hcj hsj;simp only at hsj;have hccl:cc.length=j*4:=by rw [hwc.len.1,Js]; rfl
   have hb:(j+1)*64<=140737488355328:=by omega
   have hb':j+1<=140737488355328:=by omega
   obtain ⟨LL,hLL⟩ : ∃ LL,LL=([some (4,[.nils, .nils, .nils, .nils]),some (4,[vl vint fi,vl vint fo, .slice ot 0 ts.length, .slice (lid B2.nx 2) 0 k]),some (6,cells),some (1,ps.map vint),some (6,[.slice (lid B2.nx 3) 0 ps.length, .slice (lid B2.nx 5) 0 j, .int .i64 tk, .int .i64 ta,vl jk tt,vl vint az]),some (4,cc),some (4,[.int .i64 xo, .int .u64 xn,vl vint xa,vl vint xu])]:List (Option (Nat × List V))):=⟨_,rfl⟩
   have ca1:=allO_v (St B2 [] LL) xa to pc (hpc2 _) (by omega) hto;have cc1:=Yf (St B2 [] (LL++[some (1,(xa.map (Ss.putv to)).map vint)])) xu (by omega);have hgal:(xa.map (Ss.putv to)).length=xa.length:=aI _;generalize hga:xa.map (Ss.putv to)=ga at *
   rw [jL,qG, <-JF,hLL] at ca1 cc1;simp only [List.cons_append,List.nil_append,aC,aM,bd,Nat.add_zero] at ca1 cc1
   refine bt hjt hx2 ?_
   refine QT ?_;refine QJ (St B2 [] []) (St B2 [] [none,none,none,none,none,none,some (4,[])]) [56,59,10057,10060] ?_ (r:=by conv=>lhs; simp [QV]);refine vcallv_w (by rfl) (by rfl) (by rfl) (ca1) (by rfl) (Ks (zl _ _ (by simp [subU])) (by simp [subL])) (Kl (by simp [subU,shpU,subL,shpL])) ?_;refine QZ ?_;refine Kp rfl (cc1) (by rfl) (Ks (zl _ _ (by simp [subU])) (by simp [subL])) (Kl (by simp [subU,shpU,subL,shpL])) ?_;refine QZ ?_;refine QI ?_;refine QZ ?_;refine QI ?_;refine QW ?_
   repeat first|refine QG ?_|refine QY ?_ (r:=by conv=>lhs;simp[QV,hb,hb',hccl,rep0,hwj])
   show js _ _ _ _ _ _ _;refine zu hag2.1 ?_;have hB3 : ∀ o,o<B2.nx->(St B2 [] [some (1,ga.map vint),some (1,xu.map vint)]).get o=B2.get o:=fun o ho=>by rw [jh ho]; rfl
   have hnew:OwL (St B2 [] [some (1,ga.map vint),some (1,xu.map vint)]) insD [.int .i64 xo, .int .u64 xn, .slice (lid B2.nx 0) 0 xa.length, .slice (lid B2.nx 1) 0 xu.length] (jp ⟨xo,xn,ga,xu⟩).cells [lid B2.nx 0,lid B2.nx 1]:=by
    rw [zW, <-hgal];exact .c rfl (.c rfl (OwL.slice (enc:=vint) (fun _=>rfl) (fun _=>rfl) ga (by rw [jv,qn]; rfl) (OwL.slice (enc:=vint) (fun _=>rfl) (fun _=>rfl) xu (by rw [jv,qn]; rfl) .nil)))
   have hown:OwL (St B2 [] [some (1,ga.map vint),some (1,xu.map vint)]) (reps (j+1) insD) (cc++[.int .i64 xo, .int .u64 xn, .slice (lid B2.nx 0) 0 xa.length, .slice (lid B2.nx 1) 0 xu.length]) (ju jp (co++[⟨xo,xn,ga,xu⟩])) (ci++[lid B2.nx 0,lid B2.nx 1]):=by
    rw [jah,JL];exact (hwc.mono fun o ho=>hB3 o (hcid o ho).2).append hnew
   have hri:Ss.repIns to ⟨xo,xn,xa,xu⟩=⟨xo,xn,ga,xu⟩:=by simp only [Ss.repIns,hga]
   have hndN:(ci++[lid B2.nx 0,lid B2.nx 1]).Nodup:=by
    refine List.nodup_append.2 ⟨hcnd,by simp [lid],fun a ha b hb e => ?_⟩;have:=(hcid a ha).2;simp only [aL,List.not_mem_nil,or_false] at hb;rcases hb with rfl | rfl<;>(rw [e,lid] at this; omega)
   have hidN : ∀ o∈ci++[lid B2.nx 0,lid B2.nx 1],B.nx<=o/\o<(St B2 [] [some (1,ga.map vint),some (1,xu.map vint)]).nx:=by
    intro o ho;rw [jL];rcases aG.1 ho with ho | ho
    ·have:=hcid o ho;simp only [lid,aC,aM]; omega
    ·simp only [aL,List.not_mem_nil,or_false] at ho;rcases ho with rfl | rfl<;>(simp only [lid,aC,aM]; omega)
   refine jT [7,8,0,1,2,3,4,10] (by conv=>lhs; simp [Fr.only]) hwf (by decide) (by simp [gpP2,gpT2,gtP2,gtT2,hci2,hcr2,hcc2,hcw2]) (by conv=>lhs; simp [gpP2,gpT2,gtP2,gtT2,hci2,hcr2,hcc2,hcw2]) (by conv=>lhs; simp [gpP2,gpT2,gtP2,gtT2,hci2,hcr2,hcc2,hcw2]) (by conv=>lhs; simp [gpP2,gpT2,gtP2,gtT2,hci2,hcr2,hcc2,hcw2]) ⟨?_,St B2 [] [some (1,ga.map vint),some (1,xu.map vint)],j+1,co++[⟨xo,xn,ga,xu⟩],cc++[.int .i64 xo, .int .u64 xn, .slice (lid B2.nx 0) 0 xa.length, .slice (lid B2.nx 1) 0 xu.length],ci++[lid B2.nx 0,lid B2.nx 1],hag2.St,St_wf hwf (by simp),hjt,rfl,by rw [hcj,hri,hco],by simp [hcol],hown,hndN,hidN,by simp [jL,qG],(by refine (JF (l:=[_,_])).trans ?_; simp [jL,qG])⟩;omega
end Go.Vw
/-
 Pure calls on what is owned: it stays owned. What is owned may be written to.
-/
namespace Go.Vw
open Go.RowKit
theorem OwL.elem {S:Store} {tys:List Ty} {cells xs:List V} {ids:List Nat} {n i:Nat} (h:OwL S (reps n tys) cells xs ids) (hi:i<n) : ∃ (c1 r c2 x1 x x2:List V) (i1 ii i2:List Nat),cells=c1++(r++c2)/\c1.length=i*tys.length/\xs=x1++(x++x2)/\ids=i1++(ii++i2)/\OwL S (reps i tys) c1 x1 i1/\OwL S tys r x ii/\OwL S (reps (n-i-1) tys) c2 x2 i2:=by
 have e1:reps n tys=reps i tys++(tys++reps (n-i-1) tys):=by
  rw [<-Ji, <-reps_add]; congr 1; omega
 rw [e1] at h;obtain ⟨r1,r2,x1,x2,i1,i2,rfl,rfl,rfl,k1,k2⟩:=h.split;obtain ⟨r3,r4,x3,x4,i3,i4,rfl,rfl,rfl,k3,k4⟩:=k2.split;exact ⟨r1,r3,r4,x1,x3,x4,i1,i3,i4,rfl,by rw [k1.len.1,Js],rfl,rfl,k1,k3,k4⟩
end Go.Vw
namespace Go.Vw
open Go.Proofs Go.RowKit
def At (T:Store) (o p:Nat) (w:V):Prop := ∃ s cs,T.get o=some (s,cs)/\cs[p]? = some w
inductive Lim:V->Prop
 | c {x:V} (h : ∀ ys,x ≠ .list ys):Lim x
 | l {ys:List V} (h:ys.length<=140737488355328) (k : ∀ y∈ys, ∀ z∈y.cells,Lim z):Lim (.list ys)
def LimO (T:Store) (ids:List Nat):Prop := ∀ o∈ids, ∀ w cs,T.get o=some (w,cs)->cs.length<=140737488355328*w
theorem OwL.lim {T:Store} {us:List Ty} {cs zs:List V} {ii:List Nat} (h:OwL T us cs zs ii):(∀ z∈zs,Lim z)->LimO T ii:=by
 induction h with
 | nil=>intro _ o ho; simp at ho
 | c _ _ ih=>exact fun hz=>ih fun z hz'=>hz z (by simp [hz'])
 | @s tys ts rs xs cells ys i j o ho hs d t ihd iht =>
  intro hz;have h1:Lim (.list ys):=hz _ (by simp)
  cases h1 with
  | c h=>exact absurd rfl (h ys)
  | l hl hk =>
   intro o' ho' w cs hg;rcases aL.1 ho' with rfl | h2
   ·rw [ho] at hg
    cases hg
    rw [d.len.1,Js];exact Nat.mul_le_mul_right _ hl
   ·rcases aG.1 h2 with h2 | h2
    ·refine ihd (fun z hz' => ?_) o' h2 w cs hg;obtain ⟨y,hy,hzy⟩:=bj.1 hz';exact hk y hy z hzy
    ·exact iht (fun z hz'=>hz z (by simp [hz'])) o' h2 w cs hg
structure Shp (S T0:Store) (ob n:Nat) (ids:List Nat) (T1:Store):Prop where
 nx:T1.nx=T0.nx
 wf:T1.Wf
 old : ∀ o,o<S.nx->T1.get o=S.get o
 own : ∃ cells xs,T1.get ob=some (6,cells)/\OwL T1 (reps n blkD) cells xs ids
 lim:LimO T1 ids
theorem insD_inv {T:Store} {r x:List V} {ii:List Nat} (h:OwL T insD r x ii) : ∃ (u v:V) (oa na ou nu:Nat) (ca:List V),r=[u,v, .slice oa 0 na, .slice ou 0 nu]/\u.closed1=true/\oa∈ii/\T.get oa=some (1,ca)/\ca.length=na /\ ∀ c∈ca,c.closed1=true:=by
 cases h with
 | c h1 h=>cases h with
  | c h2 h=>cases h with
   | @s _ _ _ _ ca ys i j oa ho hs d h=>cases h with
    | s ho2 hs2 d2 h=>cases h with
     | nil =>
      have hl:ca.length=ys.length:=by rw [d.len.1,Js]; simp
      have e:=Jg (n:=ys.length*1) (by rw [<-jbC]; exact d);exact ⟨_,_,oa,_,_,_,ca,rfl,h1,by simp,ho,hl,by rw [e.1]; exact d.closed⟩
theorem edgeD_inv {T:Store} {r x:List V} {ii:List Nat} (h:OwL T KZ r x ii) : ∃ (u:V) (oa na:Nat),r=[u, .slice oa 0 na]/\u.closed1=true:=by
 cases h with
 | c h1 h=>cases h with
  | s ho hs d h=>cases h with
   | nil=>exact ⟨_,_,_,rfl,h1⟩
theorem blkD_inv {T:Store} {r x:List V} {ii:List Nat} (h:OwL T blkD r x ii) : ∃ (op np oc nc oe ne:Nat) (u a z:V) (cc ce xi xe:List V) (ci ei:List Nat),r=[.slice op 0 np, .slice oc 0 nc,u,a, .slice oe 0 ne,z]/\u.closed1=true/\oc∈ii/\T.get oc=some (4,cc)/\OwL T (reps nc insD) cc xi ci/\(∀ o∈ci,o∈ii) /\
  oe∈ii/\T.get oe=some (2,ce)/\OwL T (reps ne KZ) ce xe ei:=by
 cases h with
 | s ho hs d h=>cases h with
  | s ho2 hs2 d2 h=>cases h with
   | c h1 h=>cases h with
    | c h2 h=>cases h with
     | s ho3 hs3 d3 h=>cases h with
      | c h3 h=>cases h with
       | nil=>exact ⟨_,_,_,_,_,_,_,_,_,_,_,_,_,_,_,rfl,h1,by simp,ho2,d2,fun o ho=>by simp [ho],by simp,ho3,d3⟩
theorem YA {c1 r c2:List V} {i m p:Nat} {w:V} (hc:c1.length=i*m) (hr:r[p]? = some w):(c1++(r++c2))[i*m+p]? = some w:=by
 have hp:p<r.length:=(ae.1 hr).1;rw [<-hc,bi (by omega),Nat.add_sub_cancel_left,aV hp];exact hr
theorem Shp.block {S T0 T1:Store} {ob n k:Nat} {ids:List Nat} (h:Shp S T0 ob n ids T1) (hk:k<n) : ∃ (cells:List V) (oc nc oe ne:Nat) (u:V) (cc ce:List V),T1.get ob=some (6,cells)/\cells[k*6+1]? = some (.slice oc 0 nc)/\cells[k*6+2]? = some u/\u.closed1=true/\cells[k*6+4]? = some (.slice oe 0 ne) /\
  oc∈ids/\T1.get oc=some (4,cc)/\oe∈ids/\T1.get oe=some (2,ce)/\nc<=140737488355328/\ne<=140737488355328/\(∀ j<nc, ∃ (u:V) (oa na:Nat) (ca:List V),cc[j*4]? = some u/\u.closed1=true/\cc[j*4+2]? = some (.slice oa 0 na)/\oa∈ids/\T1.get oa=some (1,ca)/\ca.length=na/\na<=140737488355328 /\ ∀ c∈ca,c.closed1=true) /\ ∀ q<ne, ∃ u:V,ce[q*2]? = some u/\u.closed1=true:=by
 obtain ⟨cells,xs,h4,h5⟩:=h.own;obtain ⟨c1,r,c2,x1,x,x2,i1,ii,i2,rfl,hl,rfl,rfl,k1,k2,k3⟩:=h5.elem hk;obtain ⟨op,np,oc,nc,oe,ne,u,a,z,cc,ce,xi,xe,ci,ei,rfl,hu,hoc,hcc,hci,hcs,hoe,hce,hei⟩:=blkD_inv k2;refine ⟨_,oc,nc,oe,ne,u,cc,ce,h4,YA (m:=6) (p:=1) hl rfl,YA (m:=6) (p:=2) hl rfl,hu,YA (m:=6) (p:=4) hl rfl,by simp [hoc],hcc,by simp [hoe],hce, ?_, ?_,fun j hj => ?_,fun q hq => ?_⟩
 ·have h8:=h.lim oc (by simp [hoc]) _ _ hcc;have h9:cc.length=nc*4:=by rw [hci.len.1,Js]; rfl
  omega
 ·have h8:=h.lim oe (by simp [hoe]) _ _ hce;have h9:ce.length=ne*2:=by rw [hei.len.1,Js]; rfl
  omega
 ·obtain ⟨d1,s,d2,y1,y,y2,j1,jj,j2,rfl,hl2,rfl,rfl,m1,m2,m3⟩:=hci.elem hj;obtain ⟨u',v',oa,na,ou,nu,ca,rfl,hu',hoa,hca,hcl,hcc'⟩:=insD_inv m2;exact ⟨u',oa,na,ca,by have:=YA (m:=4) (p:=0) (c2:=d2) hl2 (r:=[u',v', .slice oa 0 na, .slice ou 0 nu]) rfl; simpa using this,hu',YA (m:=4) (p:=2) hl2 rfl,by have:=hcs oa (by simp [hoa]); simp [this],hca,hcl,by have:=h.lim oa (by have:=hcs oa (by simp [hoa]); simp [this]) _ _ hca; omega,hcc'⟩
 ·obtain ⟨d1,s,d2,y1,y,y2,j1,jj,j2,rfl,hl2,rfl,rfl,m1,m2,m3⟩:=hei.elem hq;obtain ⟨u',oa,na,rfl,hu'⟩:=edgeD_inv m2;exact ⟨u',by have:=YA (m:=2) (p:=0) (c2:=d2) hl2 (r:=[u', .slice oa 0 na]) rfl; simpa using this,hu'⟩
end Go.Vw
namespace Ss
open Go.Vw Go.Vw.G
theorem eqF_len {α:Type} {p:α->α->Bool} : ∀ {l m:List α},eqF p l m=true->l.length=m.length
 | [],[],_=>rfl
 | [],_::_,h=>by simp [eqF] at h
 | _::_,[],h=>by simp [eqF] at h
 | x::l,y::m,h=>by
  have:eqF p l m=true:=by
   simp only [eqF,af] at h
   first | exact h.2 | exact h.2.2
  simp [eqF_len this]
theorem check_small {e:Env} {f:Fn} (h:check e f=true):f.small=true:=by
 have:=(check_spec h).1;unfold checkHead at this;simp only [af] at this;exact this.1.1.1.1.2
end Ss
