import Derived.Test.YtenhhokhkkfgbaaGreatC38
import Derived.Test.YtenhhokhkkfgbaaGreatC42
/- Part of the proof. -/
set_option linter.unusedVariables false
set_option linter.unusedSimpArgs false
set_option maxRecDepth 100000
set_option maxHeartbeats 4000000
namespace Ev
theorem dceP_fits {P:Prog} (h:PFits P):PFits (dceP P):=by
 refine ⟨h.env,by simpa [dceP] using h.len,fun f hf => ?_⟩;simp only [dceP,bk] at hf;obtain ⟨g,hg,rfl⟩:=hf;exact Ss.dceF_fits (h.fns g hg)
end Ev
namespace Go.Vw
open Go.Proofs Go.RowKit
attribute [-simp] List.map_set
theorem DceMeans_v (P:Ev.Prog) (n:Int) (args:List Int) (s:Ev.State) (hPF:Ev.PFits P) (hn:Ss.I64 n) (ha:Ev.words args) (hs:Ev.StFits s):bS 5 [JD P,encAsk n args s] (.bool true):=by
 intro S;have crt:=NRight_v P hPF;have cal:=Alive15_v;obtain ⟨al,hal⟩ : ∃ al,al=true:=⟨_,rfl⟩
 rw [<-hal] at cal;obtain ⟨O,hO,hOk⟩:=ops_ex;have hB:=fun h:Ev.rightB P=true=>Ev.rightB_P hPF h
 have c1:=fun hP:Ev.RightP P=>NRun_v O hO hOk P hPF hP s hs n hn args ha
 have c2:=fun hP:Ev.RightP P=>NRun_v O hO hOk (Ev.dceP P) (Ev.dceP_fits hPF) (Ev.dceP_right hP) s hs n hn args ha
 have he:=fun hP:Ev.RightP P=>Ev.run_same hOk hP hs ha (Q:=Ev.dceP P) (n:=n) rfl fun t r h0 ht hf hs h=>Ev.dce_means hOk hP h0 ht hf ha.2 hs h
 have hrf:=fun hP:Ev.RightP P=>Ev.run_fit hOk hP hs (n:=n) ha
 have hlen:=hPF.len;have cbc:Ev.RightP P -> ∀ f∈P.fns,bS 10 [qL P.env,jI f] (.tuple [jI (Ss.dceF f),vint 0]):=fun hP f hf=>by
  obtain ⟨i,hi⟩:=aB.1 hf;have:=DceP_v P.env f hPF.env (hPF.fns f hf)
  rwa [Ss.dceOut_t (hP.fns i f hi).2.1] at this
 generalize hrb:Ev.rightB P=rb at *
 clear hPF hs
 by_cases hr:rb=true
 rotate_left
 ·have hr:rb=false:=by simpa using hr
  clear c1 c2 he hrf cbc hO hOk hB hrb;obtain ⟨⟨sg,im,gl,mu,me⟩,fns⟩:=P;obtain ⟨mem,most,glb,fuel,inp,log⟩:=s;have crt:bS 15 [.agg [vl jm sg,vint im,vl vint gl,vl V.bool mu, .bool me,vl jI fns]] (.bool rb):=crt;show bU 5 [.agg [vl jm sg,vint im,vl vint gl,vl V.bool mu, .bool me,vl jI fns], .agg [vint n,vl vu args,vl vby mem,vint most,vl vu glb,vint fuel,vl vu inp,vl vu log]] S _;refine QB (c:=jc Tryz.f5) Tryz.func5 Tryz.ntmps5 fun hwf=>?_
  refine QY ?_;refine QH 2 0 ?_;refine QH 3 1 ?_;refine QP ?_;refine QL (crt) ?_;refine bB hr ?_;refine QN ?_
  refine bx hr ?_
  refine QP ?_;refine QL (cal) ?_;refine bB hal ?_;refine bR ?_
  exact ja (X := .bool true) hwf (by simp) rfl
 have hP:=hB hr;have c1:=c1 hP;have c2:=c2 hP;have he:=he hP;have hrf:=hrf hP;have cbc:=cbc hP;clear hB hrb;rw [he] at c2;generalize Ev.runR O P s n args=res at *
 obtain ⟨out,t,er⟩:=res;simp only at c1 c2 hrf;have cw:=NWords_t out (by have:=hrf.2; omega);have cs:=NSame_v t (by have:=hrf.1.globals.1; omega) (by have:=hrf.1.input.1; omega) (by have:=hrf.1.log.1; omega);obtain ⟨w1,hw1⟩ : ∃ b,b=true:=⟨_,rfl⟩
 rw [<-hw1] at cw;obtain ⟨w2,hw2⟩ : ∃ b,b=true:=⟨_,rfl⟩
 rw [<-hw2] at cs;have hl64:P.fns.length<=64:=by
  have h1:=hP.len;have h2:=hP.env;simp only [Ss.Env.right,af,aj] at h2;have h3:=h2.1.1.1.1.1;have h4:=h2.1.1.1.2;omega
 clear he hrf hP hO hOk;have hQ:JD (Ev.dceP P) = .agg [vl jm P.env.sigs,vint P.env.imports,vl vint P.env.globals,vl V.bool P.env.muts, .bool P.env.mem,vl jI (P.fns.map Ss.dceF)]:=rfl;rw [hQ] at c2;clear hQ;obtain ⟨⟨sg,im,gl,mu,me⟩,fns⟩:=P;obtain ⟨mem,most,glb,fuel,inp,log⟩:=s;obtain ⟨mem',most',glb',fuel',inp',log'⟩:=t;simp only at hlen cbc c2 hl64;have es:qf ⟨mem,most,glb,fuel,inp,log⟩ = .agg [vl vby mem,vint most,vl vu glb,vint fuel,vl vu inp,vl vu log]:=rfl;have et:qf ⟨mem',most',glb',fuel',inp',log'⟩ = .agg [vl vby mem',vint most',vl vu glb',vint fuel',vl vu inp',vl vu log']:=rfl;have ep:JD ⟨⟨sg,im,gl,mu,me⟩,fns⟩ = .agg [vl jm sg,vint im,vl vint gl,vl V.bool mu, .bool me,vl jI fns]:=rfl;rw [ep,es,et] at c1;rw [es,et] at c2;rw [et] at cs;rw [ep] at crt ⊢;show bU 5 [.agg [vl jm sg,vint im,vl vint gl,vl V.bool mu, .bool me,vl jI fns], .agg [vint n,vl vu args,vl vby mem,vint most,vl vu glb,vint fuel,vl vu inp,vl vu log]] S _
 have cbc : ∀ f∈fns,bS 10 [.agg [vl jm sg,vint im,vl vint gl,vl V.bool mu, .bool me],jI f] (.tuple [jI (Ss.dceF f),vint 0]):=cbc
 obtain ⟨gs,hgs⟩ : ∃ gs,fns.map Ss.dceF=gs:=⟨_,rfl⟩
 rw [hgs] at c2;have hgl:gs.length=fns.length:=by rw [<-hgs,aI]
 have hcf : ∀ f,(jI f).closed=true:=fun _=>rfl
 refine QB (c:=jc Tryz.f5) Tryz.func5 Tryz.ntmps5 fun hwf=>?_
 refine QY ?_;refine QH 2 0 ?_;refine QH 3 1 ?_;refine QP ?_;refine QL (crt) ?_;refine bB hr ?_;refine QN ?_
 refine bx hr ?_
 apply jE
 ·exact Reach.voidCell 4 (k:=2) (i:=5) (by simp) (by rfl) (by rfl)
 simp only [List.cons_append,List.nil_append,aC,aM,aq,au];refine QO [2,3,5,23,24,25] ?_;refine QK [2,3] ?_;refine QT ?_;refine jd [2,3,5,23,24,25] rfl (fun c σ S' => ∃ (k:Nat),k<=fns.length/\c=fns.length-k/\σ=[(2, .ref (.agg [vl jm sg,vint im,vl vint gl,vl V.bool mu, .bool me,vl jI fns])),(3, .ref (.agg [vint n,vl vu args,vl vby mem,vint most,vl vu glb,vint fuel,vl vu inp,vl vu log])),(5, .ptr (lid S.nx 0) 0),(23,vl jI fns),(24,vnat fns.length),(25,vnat k)]/\S'=St S [] [some (6,[vl jm sg,vint im,vl vint gl,vl V.bool mu, .bool me, .slice (lid S.nx 1) 0 k]),some (4,ju jI (gs.take k))]) fns.length ?_ ?_
 ·exact ⟨0,Nat.zero_le _,rfl,by simp [Fr.only,Fr.look],rfl⟩
 ·rintro c σ S' ⟨k,hk,rfl,rfl,rfl⟩
  by_cases hkt:k<fns.length
  ·have hw:=jg hkt (by omega);have ck:=cbc _ (ah hkt);obtain ⟨⟨⟨fi,fo⟩,ts,bs⟩,hx⟩ : ∃ f,fns[k]=f:=⟨_,rfl⟩
   rw [hx] at ck;obtain ⟨⟨⟨gi,go⟩,gt,gb⟩,hg⟩ : ∃ g,Ss.dceF ⟨⟨fi,fo⟩,ts,bs⟩=g:=⟨_,rfl⟩
   rw [hg] at ck;obtain ⟨e0,he0⟩ : ∃ e:Int,e=0:=⟨_,rfl⟩
   rw [<-he0] at ck;have ck:bS 10 [.agg [vl jm sg,vint im,vl vint gl,vl V.bool mu, .bool me], .agg [vl vint fi,vl vint fo,vl vint ts,vl je bs]] (.tuple [.agg [vl vint gi,vl vint go,vl vint gt,vl je gb],vint e0]):=ck;have h15 : ¬ e0=15:=by omega
   refine bt hkt hx ?_
   refine QP ?_;refine QL (ck) ?_;refine QW ?_;have hgk:gs[k]'(by omega)=⟨⟨gi,go⟩,gt,gb⟩:=by simp only [<-hgs,List.getElem_map,hx,hg]
   have hs1:ju jI (gs.take (k+1))=ju jI (gs.take k)++[vl vint gi,vl vint go,vl vint gt,vl je gb]:=by
    rw [List.take_succ_eq_append_getElem (by omega),hgk,JL]; rfl
   have hl1:(ju jI (gs.take k)).length=k*4:=by
    rw [Kz (s:=4) (fun _=>rfl),List.length_take,Nat.min_eq_left (by omega)]
   have hb1:(k+1)*96<=140737488355328:=by omega
   have hb2:k+1<=140737488355328:=by omega
   have hr4:rep0 [V.nils, .nils, .nils, .nils] 1=[.nils, .nils, .nils, .nils]:=rfl;have hir : ∀ f (l:List Ss.Fn),V.renL f (ju jI l)=ju jI l:=fun f l=>WQ hcf f l
   have hii : ∀ p (l:List Ss.Fn),V.idsL p (ju jI l)=true:=fun p l=>WR hcf p l
   refine bt he0 h15 ?_
   refine QY ?_ (r:=by conv=>lhs;simp[QV,hr4,hl1,hb1,hb2])
   refine bx hw ?_
   refine jT [0,5] (by conv=>lhs; simp [Fr.only]) hwf (by decide) (by simp [hir,hii]) (by conv=>lhs; simp [hir,hii]) (by conv=>lhs; simp [hir,hii]) (by conv=>lhs; simp [hir,hii]) ⟨?_,k+1,hkt,rfl,by simp,by simp [hs1]⟩;omega
  ·have hke:k=fns.length:=by omega
   subst hke;rw [<-hgl,List.take_length]
   refine bx hkt ?_
   apply jE
   ·exact Reach.frzCellS (enc:=jI) (s:=4) (fun _=>rfl) hcf (k:=0) (j:=1) (i:=5) gs (by decide) (by simp) (by simp) (by rfl) (by rfl) (by rfl)
   simp only [aq,au];refine QH 5 0 ?_;refine QP ?_;refine QL (c1) ?_;refine bQ ?_
   refine QP ?_;refine QL (c2) ?_;refine bQ ?_
   refine QP ?_;refine QL (cw) ?_;refine bB hw1 ?_;refine QL (cs) ?_;refine bB hw2 ?_;refine QL (cal) ?_;refine bB hal ?_;refine bR ?_
   exact ja (X := .bool true) hwf (by simp) rfl
end Go.Vw
namespace Go.Vw
open Go.Proofs Go.RowKit Go.ChangeShapes Go.WideShapes
theorem u64_of {n:Int} (h:(Lit.int .u64 n).wf=true):Ev.U64 n:=by have h1:=bounds_u64 h; exact ⟨by omega,by omega⟩
theorem rdWord:ReadsC Tryz.prog 63 (fun n:Int=>[vu n]) Ev.U64 :=
 (ReadsC.int Tryz.underlying63).map id (fun _=>rfl) (fun n h=>u64_of h)
theorem jct:ReadsC Tryz.prog 43 (fun l:List Int=>[vl vu l]) Ev.words :=
 (ReadsC.slice vu Tryz.underlying43 rdWord (aQ (by kernel_rfl)) (fun _ => .inr rfl)).map id (fun _=>rfl) (fun l h=>⟨WU (aQ (by kernel_rfl)) h.1.2,h.2⟩)
theorem rdByte:ReadsC Tryz.prog 5 (fun n:Int=>[vby n]) (fun n=>0<=n/\n<256) :=
 (ReadsC.int Tryz.underlying5).map id (fun _=>rfl) (fun n h=>by have h1:=bounds_u8 h; simp only [id]; omega)
theorem rdBytes:ReadsC Tryz.prog 44 (fun l:List Int=>[vl vby l]) byteL :=
 (ReadsC.slice vby Tryz.underlying44 rdByte (aQ (by kernel_rfl)) (fun _ => .inr rfl)).map id (fun _=>rfl) (fun l h=>⟨WU (aQ (by kernel_rfl)) h.1.2,h.2⟩)
theorem rdState:ReadsC Tryz.prog 46 (fun s:Ev.State=>[vl vby s.mem,vint s.most,vl vu s.globals,vint s.fuel,vl vu s.input,vl vu s.log]) Ev.StFits :=
 (ReadsC.struct Tryz.underlying46 (by kernel_rfl) (ReadsF.cons (by kernel_rfl) rdBytes (ReadsF.cons (by kernel_rfl) jcu (ReadsF.cons (by kernel_rfl) jct (ReadsF.cons (by kernel_rfl) jcu (ReadsF.cons (by kernel_rfl) jct (ReadsF.cons (by kernel_rfl) jct ReadsF.nil))))))).map (fun p=>(⟨p.1,p.2.1,p.2.2.1,p.2.2.2.1,p.2.2.2.2.1,p.2.2.2.2.2.1⟩:Ev.State)) (fun _=>rfl) (fun p h=>⟨h.1,⟨h.2.1.1,by have:=h.2.1.2; simp only; omega⟩,h.2.2.1,⟨h.2.2.2.1.1,by have:=h.2.2.2.1.2; simp only; omega⟩,h.2.2.2.2.1,h.2.2.2.2.2.1⟩)
theorem rdFns:ReadsC Tryz.prog 40 (fun l:List Ss.Fn=>[vl jI l]) (fun l=>l.length<=140737488355328 /\ ∀ s∈l,s.Fits) :=
 (ReadsC.slice jI Tryz.underlying40 rdFn (aQ (by kernel_rfl)) (fun _ => .inl rfl)).map id (fun _=>rfl) (fun l h=>⟨WU (aQ (by kernel_rfl)) h.1.2,h.2⟩)
theorem rdProg:ReadsC Tryz.prog 42 (fun P:Ev.Prog=>[vl jm P.env.sigs,vint P.env.imports,vl vint P.env.globals,vl V.bool P.env.muts, .bool P.env.mem,vl jI P.fns]) Ev.PFits :=
 (ReadsC.struct Tryz.underlying42 (by kernel_rfl) (ReadsF.cons (by kernel_rfl) rdEnv (ReadsF.cons (by kernel_rfl) rdFns ReadsF.nil))).map (fun p=>(⟨p.1,p.2.1⟩:Ev.Prog)) (fun _=>rfl) (fun p h=>⟨h.1,h.2.1.1,h.2.1.2⟩)
end Go.Vw
