import Derived.Test.YtcpncecdegmliaaGreatC40
import Derived.Test.YtcpncecdegmliaaGreatC41
/- Part of the proof. -/
set_option linter.unusedVariables false
set_option linter.unusedSimpArgs false
set_option maxRecDepth 100000
set_option maxHeartbeats 4000000
namespace Ev
theorem bceP_fits {P:Prog} (h:PFits P):PFits (bceP P):=by
 refine ⟨h.env,by simpa [bceP] using h.len,fun f hf => ?_⟩;simp only [bceP,List.mem_map] at hf;obtain ⟨g,hg,rfl⟩:=hf;exact Ss.bceF_fits (h.fns g hg)
end Ev
namespace Go.Vw
open Go.Proofs Go.RowKit
attribute [-simp] List.map_set
theorem BceMeans_v (P:Ev.Prog) (n:Int) (args:List Int) (s:Ev.State) (hPF:Ev.PFits P) (hn:Ss.I64 n) (ha:Ev.words args) (hs:Ev.StFits s):VPure Tryz.prog 4 [Jn P,encAsk n args s] (.bool true):=by
 intro S;have crt:=NRight_v P hPF;have cal:=Alive13_v;obtain ⟨al,hal⟩ : ∃ al,al=true:=⟨_,rfl⟩
 rw [←hal] at cal;obtain ⟨O,hO,hOk⟩:=ops_ex;have hB:=fun h:Ev.rightB P=true=>Ev.rightB_P hPF h
 have c1:=fun hP:Ev.RightP P=>NRun_v O hO hOk P hPF hP s hs n hn args ha
 have c2:=fun hP:Ev.RightP P=>NRun_v O hO hOk (Ev.bceP P) (Ev.bceP_fits hPF) (Ev.bceP_right hP) s hs n hn args ha
 have he:=fun hP:Ev.RightP P=>Ev.run_same hOk hP hs ha (Q:=Ev.bceP P) (n:=n) rfl fun t r _ _ _ _ h=>Ev.bce_means hOk hP h
 have hrf:=fun hP:Ev.RightP P=>Ev.run_fit hOk hP hs (n:=n) ha
 have hlen:=hPF.len;have cbc:Ev.RightP P → ∀ f∈P.fns,VPure Tryz.prog 6 [qM P.env,jJ f] (.tuple [jJ (Ss.bceF f),vint 0]):=fun hP f hf=>by
  obtain ⟨i,hi⟩:=List.mem_iff_getElem?.1 hf;have:=BceP_v P.env f hPF.env (hPF.fns f hf)
  rwa [Ss.bceOut_t (hP.fns i f hi).2.1] at this
 generalize hrb:Ev.rightB P=rb at *
 clear hPF hs
 by_cases hr:rb=true
 rotate_left
 ·have hr:rb=false:=by simpa using hr
  clear c1 c2 he hrf cbc hO hOk hB hrb;obtain ⟨⟨sg,im,gl,mu,me⟩,fns⟩:=P;obtain ⟨mem,most,glb,fuel,inp,log⟩:=s;have crt:VPure Tryz.prog 10 [.agg [vl jl sg,vint im,vl vint gl,vl V.bool mu, .bool me,vl jJ fns]] (.bool rb):=crt;show VCalls Tryz.prog 4 [.agg [vl jl sg,vint im,vl vint gl,vl V.bool mu, .bool me,vl jJ fns], .agg [vint n,vl vu args,vl vby mem,vint most,vl vu glb,vint fuel,vl vu inp,vl vu log]] S _;refine QB (c:=jc Tryz.f4) Tryz.func4 Tryz.ntmps4 fun hwf=>?_
  refine QT ?_;refine QY ?_;refine QH 2 0 ?_;refine QH 3 1 ?_;refine QT ?_;refine QP ?_;refine QL (crt) ?_;refine QM (by conv=>lhs;simp[QV,hr]) ?_;refine QN ?_
  repeat first|refine QG ?_|refine QY ?_ (r:=by conv=>lhs;simp[QV,hr])
  refine QT ?_;refine QP ?_;refine QL (cal) ?_;refine QM (by conv=>lhs;simp[QV,hal]) ?_;refine QN ?_
  repeat first|refine QG ?_|refine QY ?_
  exact ja (X := .bool true) hwf (by simp) rfl
 have hP:=hB hr;have c1:=c1 hP;have c2:=c2 hP;have he:=he hP;have hrf:=hrf hP;have cbc:=cbc hP;clear hB hrb;rw [he] at c2;generalize Ev.runR O P s n args=res at *
 obtain ⟨out,t,er⟩:=res;simp only at c1 c2 hrf;have cw:=NWords_t out (by have:=hrf.2; omega);have cs:=NSame_v t (by have:=hrf.1.globals.1; omega) (by have:=hrf.1.input.1; omega) (by have:=hrf.1.log.1; omega);obtain ⟨w1,hw1⟩ : ∃ b,b=true:=⟨_,rfl⟩
 rw [←hw1] at cw;obtain ⟨w2,hw2⟩ : ∃ b,b=true:=⟨_,rfl⟩
 rw [←hw2] at cs;have hl64:P.fns.length≤64:=by
  have h1:=hP.len;have h2:=hP.env;simp only [Ss.Env.right,Bool.and_eq_true,decide_eq_true_eq] at h2;have h3:=h2.1.1.1.1.1;have h4:=h2.1.1.1.2;omega
 clear he hrf hP hO hOk;have hQ:Jn (Ev.bceP P) = .agg [vl jl P.env.sigs,vint P.env.imports,vl vint P.env.globals,vl V.bool P.env.muts, .bool P.env.mem,vl jJ (P.fns.map Ss.bceF)]:=rfl;rw [hQ] at c2;clear hQ;obtain ⟨⟨sg,im,gl,mu,me⟩,fns⟩:=P;obtain ⟨mem,most,glb,fuel,inp,log⟩:=s;obtain ⟨mem',most',glb',fuel',inp',log'⟩:=t;simp only at hlen cbc c2 hl64;have es:qb ⟨mem,most,glb,fuel,inp,log⟩ = .agg [vl vby mem,vint most,vl vu glb,vint fuel,vl vu inp,vl vu log]:=rfl;have et:qb ⟨mem',most',glb',fuel',inp',log'⟩ = .agg [vl vby mem',vint most',vl vu glb',vint fuel',vl vu inp',vl vu log']:=rfl;have ep:Jn ⟨⟨sg,im,gl,mu,me⟩,fns⟩ = .agg [vl jl sg,vint im,vl vint gl,vl V.bool mu, .bool me,vl jJ fns]:=rfl;rw [ep,es,et] at c1;rw [es,et] at c2;rw [et] at cs;rw [ep] at crt ⊢;show VCalls Tryz.prog 4 [.agg [vl jl sg,vint im,vl vint gl,vl V.bool mu, .bool me,vl jJ fns], .agg [vint n,vl vu args,vl vby mem,vint most,vl vu glb,vint fuel,vl vu inp,vl vu log]] S _
 have cbc : ∀ f∈fns,VPure Tryz.prog 6 [.agg [vl jl sg,vint im,vl vint gl,vl V.bool mu, .bool me],jJ f] (.tuple [jJ (Ss.bceF f),vint 0]):=cbc
 obtain ⟨gs,hgs⟩ : ∃ gs,fns.map Ss.bceF=gs:=⟨_,rfl⟩
 rw [hgs] at c2;have hgl:gs.length=fns.length:=by rw [←hgs,List.length_map]
 have hcf : ∀ f,(jJ f).closed=true:=fun _=>rfl
 refine QB (c:=jc Tryz.f4) Tryz.func4 Tryz.ntmps4 fun hwf=>?_
 refine QT ?_;refine QY ?_;refine QH 2 0 ?_;refine QH 3 1 ?_;refine QT ?_;refine QP ?_;refine QL (crt) ?_;refine QM (by conv=>lhs;simp[QV,hr]) ?_;refine QN ?_
 repeat first|refine QG ?_|refine QY ?_ (r:=by conv=>lhs;simp[QV,hr])
 apply jF
 ·exact Reach.voidCell 4 (k:=2) (i:=5) (by simp) (by rfl) (by rfl)
 simp only [List.cons_append,List.nil_append,List.length_cons,List.length_nil,List.set_cons_succ,List.set_cons_zero];refine QO [2,3,5,23,24,25] ?_;refine QK [2,3] ?_;refine QT ?_;refine jd [2,3,5,23,24,25] rfl (fun c σ S' => ∃ (k:Nat),k≤fns.length∧c=fns.length-k∧σ=[(2, .ref (.agg [vl jl sg,vint im,vl vint gl,vl V.bool mu, .bool me,vl jJ fns])),(3, .ref (.agg [vint n,vl vu args,vl vby mem,vint most,vl vu glb,vint fuel,vl vu inp,vl vu log])),(5, .ptr (lid S.nx 0) 0),(23,vl jJ fns),(24,vnat fns.length),(25,vnat k)]∧S'=St S [] [some (6,[vl jl sg,vint im,vl vint gl,vl V.bool mu, .bool me, .slice (lid S.nx 1) 0 k]),some (4,js jJ (gs.take k))]) fns.length ?_ ?_
 ·exact ⟨0,Nat.zero_le _,rfl,by simp [Fr.only,Fr.look],rfl⟩
 ·rintro c σ S' ⟨k,hk,rfl,rfl,rfl⟩
  by_cases hkt:k<fns.length
  ·have hw:=jh hkt (by omega);have ck:=cbc _ (List.getElem_mem hkt);obtain ⟨⟨⟨fi,fo⟩,ts,bs⟩,hx⟩ : ∃ f,fns[k]=f:=⟨_,rfl⟩
   rw [hx] at ck;obtain ⟨⟨⟨gi,go⟩,gt,gb⟩,hg⟩ : ∃ g,Ss.bceF ⟨⟨fi,fo⟩,ts,bs⟩=g:=⟨_,rfl⟩
   rw [hg] at ck;obtain ⟨e0,he0⟩ : ∃ e:Int,e=0:=⟨_,rfl⟩
   rw [←he0] at ck;have ck:VPure Tryz.prog 6 [.agg [vl jl sg,vint im,vl vint gl,vl V.bool mu, .bool me], .agg [vl vint fi,vl vint fo,vl vint ts,vl je bs]] (.tuple [.agg [vl vint gi,vl vint go,vl vint gt,vl je gb],vint e0]):=ck;have h15 : ¬ e0=15:=by omega
   repeat first|refine QG ?_|refine QY ?_ (r:=by conv=>lhs;simp[QV,hkt,hx])
   refine QT ?_;refine QP ?_;refine QL (ck) ?_;refine QW ?_;have hgk:gs[k]'(by omega)=⟨⟨gi,go⟩,gt,gb⟩:=by simp only [←hgs,List.getElem_map,hx,hg]
   have hs1:js jJ (gs.take (k+1))=js jJ (gs.take k)++[vl vint gi,vl vint go,vl vint gt,vl je gb]:=by
    rw [List.take_succ_eq_append_getElem (by omega),hgk,Jv]; rfl
   have hl1:(js jJ (gs.take k)).length=k*4:=by
    rw [Kh (s:=4) (fun _=>rfl),List.length_take,Nat.min_eq_left (by omega)]
   have hb1:(k+1)*96≤140737488355328:=by omega
   have hb2:k+1≤140737488355328:=by omega
   have hr4:rep0 [V.nils, .nils, .nils, .nils] 1=[.nils, .nils, .nils, .nils]:=rfl;have hir : ∀ f (l:List Ss.Fn),V.renL f (js jJ l)=js jJ l:=fun f l=>Ws hcf f l
   have hii : ∀ p (l:List Ss.Fn),V.idsL p (js jJ l)=true:=fun p l=>Wt hcf p l
   repeat first|refine QG ?_|refine QY ?_ (r:=by conv=>lhs;simp[QV,he0,h15])
   refine QT ?_;refine QY ?_ (r:=by conv=>lhs;simp[QV,hr4,hl1,hb1,hb2])
   repeat first|refine QG ?_|refine QY ?_ (r:=by conv=>lhs;simp[QV,hw])
   refine qo [0,5] (by conv=>lhs; simp [Fr.only]) hwf (by decide) (by simp [hir,hii]) (by conv=>lhs; simp [hir,hii]) (by conv=>lhs; simp [hir,hii]) (by conv=>lhs; simp [hir,hii]) ⟨?_,k+1,hkt,rfl,by simp,by simp [hs1]⟩;omega
  ·have hke:k=fns.length:=by omega
   subst hke;rw [←hgl,List.take_length]
   repeat first|refine QG ?_|refine QY ?_ (r:=by conv=>lhs;simp[QV,hkt])
   apply jF
   ·exact Reach.frzCellS (enc:=jJ) (s:=4) (fun _=>rfl) hcf (k:=0) (j:=1) (i:=5) gs (by decide) (by simp) (by simp) (by rfl) (by rfl) (by rfl)
   simp only [List.set_cons_succ,List.set_cons_zero];refine QH 5 0 ?_;refine QT ?_;refine QP ?_;refine QL (c1) ?_;refine QW ?_
   repeat first|refine QG ?_|refine QY ?_
   refine QT ?_;refine QP ?_;refine QL (c2) ?_;refine QW ?_
   repeat first|refine QG ?_|refine QY ?_
   refine QT ?_;refine QP ?_;refine QL (cw) ?_;refine QM (by conv=>lhs;simp[QV,hw1]) ?_;refine QL (cs) ?_;refine QM (by conv=>lhs;simp[QV,hw2]) ?_;refine QL (cal) ?_;refine QM (by conv=>lhs;simp[QV,hal]) ?_;refine QN ?_
   repeat first|refine QG ?_|refine QY ?_
   exact ja (X := .bool true) hwf (by simp) rfl
end Go.Vw
namespace Go.Vw
open Go.Proofs Go.RowKit Go.ChangeShapes Go.WideShapes
theorem u64_of {n:Int} (h:(Lit.int .u64 n).wf=true):Ev.U64 n:=by have h1:=bounds_u64 h; exact ⟨by omega,by omega⟩
theorem rdWord:ReadsC Tryz.prog 63 (fun n:Int=>[vu n]) Ev.U64 :=
 (ReadsC.int Tryz.underlying63).map id (fun _=>rfl) (fun n h=>u64_of h)
theorem jbT:ReadsC Tryz.prog 43 (fun l:List Int=>[vl vu l]) Ev.words :=
 (ReadsC.slice vu Tryz.underlying43 rdWord (of_decide_eq_true (by kernel_rfl)) (fun _ => .inr rfl)).map id (fun _=>rfl) (fun l h=>⟨Wv (of_decide_eq_true (by kernel_rfl)) h.1.2,h.2⟩)
theorem rdByte:ReadsC Tryz.prog 5 (fun n:Int=>[vby n]) (fun n=>0≤n∧n<256) :=
 (ReadsC.int Tryz.underlying5).map id (fun _=>rfl) (fun n h=>by have h1:=bounds_u8 h; simp only [id]; omega)
theorem rdBytes:ReadsC Tryz.prog 44 (fun l:List Int=>[vl vby l]) byteL :=
 (ReadsC.slice vby Tryz.underlying44 rdByte (of_decide_eq_true (by kernel_rfl)) (fun _ => .inr rfl)).map id (fun _=>rfl) (fun l h=>⟨Wv (of_decide_eq_true (by kernel_rfl)) h.1.2,h.2⟩)
theorem rdState:ReadsC Tryz.prog 46 (fun s:Ev.State=>[vl vby s.mem,vint s.most,vl vu s.globals,vint s.fuel,vl vu s.input,vl vu s.log]) Ev.StFits :=
 (ReadsC.struct Tryz.underlying46 (by kernel_rfl) (ReadsF.cons (by kernel_rfl) rdBytes (ReadsF.cons (by kernel_rfl) jbU (ReadsF.cons (by kernel_rfl) jbT (ReadsF.cons (by kernel_rfl) jbU (ReadsF.cons (by kernel_rfl) jbT (ReadsF.cons (by kernel_rfl) jbT ReadsF.nil))))))).map (fun p=>(⟨p.1,p.2.1,p.2.2.1,p.2.2.2.1,p.2.2.2.2.1,p.2.2.2.2.2.1⟩:Ev.State)) (fun _=>rfl) (fun p h=>⟨h.1,⟨h.2.1.1,by have:=h.2.1.2; simp only; omega⟩,h.2.2.1,⟨h.2.2.2.1.1,by have:=h.2.2.2.1.2; simp only; omega⟩,h.2.2.2.2.1,h.2.2.2.2.2.1⟩)
theorem rdFns:ReadsC Tryz.prog 40 (fun l:List Ss.Fn=>[vl jJ l]) (fun l=>l.length≤140737488355328 ∧ ∀ s∈l,s.Fits) :=
 (ReadsC.slice jJ Tryz.underlying40 rdFn (of_decide_eq_true (by kernel_rfl)) (fun _ => .inl rfl)).map id (fun _=>rfl) (fun l h=>⟨Wv (of_decide_eq_true (by kernel_rfl)) h.1.2,h.2⟩)
theorem rdProg:ReadsC Tryz.prog 42 (fun P:Ev.Prog=>[vl jl P.env.sigs,vint P.env.imports,vl vint P.env.globals,vl V.bool P.env.muts, .bool P.env.mem,vl jJ P.fns]) Ev.PFits :=
 (ReadsC.struct Tryz.underlying42 (by kernel_rfl) (ReadsF.cons (by kernel_rfl) rdEnv (ReadsF.cons (by kernel_rfl) rdFns ReadsF.nil))).map (fun p=>(⟨p.1,p.2.1⟩:Ev.Prog)) (fun _=>rfl) (fun p h=>⟨h.1,h.2.1.1,h.2.1.2⟩)
end Go.Vw
