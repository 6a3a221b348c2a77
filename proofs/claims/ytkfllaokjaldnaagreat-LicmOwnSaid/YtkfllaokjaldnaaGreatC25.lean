import Derived.Test.YtkfllaokjaldnaaGreatC24
import Derived.Test.YtkfllaokjaldnaaGreatC22
import Derived.Test.YtkfllaokjaldnaaGreatC16
import Derived.Test.YtkfllaokjaldnaaGreatC15
/- Part of the proof. -/
set_option linter.unusedVariables false
set_option linter.unusedSimpArgs false
set_option maxRecDepth 10000
set_option maxHeartbeats 8000000
namespace Go.Vw
open Go.Proofs Go.RowKit
attribute [-simp] List.map_set
set_option pp.deepTerms true
theorem LicRun_v (S:Store) (e:Ss.Env) (f:Ss.Fn) (he:e.Fits) (hf:f.Fits) (hc:Ss.check e f=true):VCalls Tryz.prog 9 [zk e,ql f] S fun r T => ∃ r',r = .tuple [r',vint 0]∧jaW S (Ss.licF f) r' T:=by
 have hs:=Ss.check_small hc;have hd:=Ss.check_dok hc;have cck:=Check_v e f he hf;have crp:=fun S=>SReplace_v S f [] hf hs (by simp)
 have hgr:=Ss.graphic hc;have clo:=LoopsAll_v (Ss.succs f.blocks) (jbm hf);have hlp:G.loopsI (Ss.succs f.blocks)=Ss.lps f.blocks:=by rw [G.loopsI,hgr.right,if_pos rfl]; rfl
 rw [hlp] at clo;have hlpl:(Ss.lps f.blocks).length≤256:=by rw [←hlp]; exact G.loopsI_len _
 have hlpn : ∀ l∈Ss.lps f.blocks,l.2.length≤256:=by rw [←hlp]; exact G.loopsI_nodes _
 have hlps : ∀ l∈Ss.lps f.blocks,l.2.Pairwise (· < ·):=fun l hl=>G.loops_sorted _ l hl
 have hlpb : ∀ l∈Ss.lps f.blocks, ∀ n∈l.2,n<f.blocks.length:=fun l hl n hn=>by
  obtain ⟨a1,a2,a3,a4⟩:=G.heads hgr.ok _ (Nat.le_refl _) l hl;have:=a3 n hn;rw [Ss.nats_succs_len] at this; exact this
 have hL0:Ss.LOk e f f (Ss.homesI f):=Ss.LOk.start hc hf;have cho:=fun hw=>Homes_v f hf hs hd.pars hd.outs ⟨fun _=>none,0⟩ hw
 have csm:=jbV f hf;rw [hs] at csm;have hsm:=(Ss.small_iff f).1 hs;have hh:=hsm.1;simp only [Ss.Fn.heads,Bool.and_eq_true,decide_eq_true_eq] at hh;obtain ⟨⟨⟨hh1,hh2⟩,_⟩,_⟩:=hh;simp only [Ss.replace_nil] at crp;have hcl0 : ∀ x∈[ql f],x.closed=true:=fun x hx=>by rw [List.mem_singleton] at hx; rw [hx]; rfl
 generalize hfin:Ss.licF f=fin at *
 generalize Ss.check e f=ck at *
 obtain ⟨⟨fi,fo⟩,ts,bs⟩:=f;obtain ⟨sg,im,gl,mu,me⟩:=e;simp only at *
 have cck':VPure Tryz.prog 23 [.agg [vl jC sg,vint im,vl vint gl,vl V.bool mu, .bool me], .agg [vl vint fi,vl vint fo,vl vint ts,vl jb bs]] (.bool ck):=cck;have crp' : ∀ S,VCalls Tryz.prog 24 [.agg [vl vint fi,vl vint fo,vl vint ts,vl jb bs], .nils] S (jaW S ⟨⟨fi,fo⟩,ts,bs⟩):=fun S=>by
  refine qI (GhostArgs.one [_] [] (Ghost.nils_list S)) ?_;exact crp S
 refine qd (c:=jd Tryz.f9) Tryz.func9 rfl (by conv=>lhs; reduce) (by simp [Tryz.ntmps9]) ?_;rw [Tryz.ntmps9];intro hwf;refine QT ?_;refine QY ?_;refine QH 2 0 ?_;refine QH 3 1 ?_;refine QO [2,3,4,5] ?_;refine QK [2] ?_
 repeat first|refine QG ?_|refine QY ?_
 refine QT ?_;refine QP ?_;refine QL (cck') ?_;refine QM (by conv=>lhs;simp[QV,hc]) ?_;refine QN ?_
 repeat first|refine QG ?_|refine QY ?_ (r:=by conv=>lhs;simp[QV,hc])
 refine QT ?_;refine QP ?_;refine jT rfl (crp' _) ?_;rintro X T ⟨hag0,hwT,ot,ob,cells,ids,rfl,hotg,hob,how,hnd,hids⟩;simp only at hotg how;refine Wy hwT ?_;refine QW ?_;have hag1:=hag0.1;rw [jE] at hag1 hids;simp only [List.length_cons,List.length_nil,Nat.zero_add,lid] at hag1 hids;have h4:T.get (lid S.nx 0)=some (4,[V.nils,V.nils,V.nils,V.nils]):=by
  rw [hag0.2 (lid S.nx 0) (by rw [jE]; simp [lid]),jv]; rfl
 have h4lt:lid S.nx 0<T.nx:=by simp only [lid]; omega
 have hwf0:=hwf;obtain ⟨rs0,rfl,hrl0,hrows0⟩:=ZW (fun x=>by rw [jz]; rfl) how;have g0 : ∀ o l,o<T.nx→(St T [] l).get o=T.get o:=fun o l ho=>by rw [jk ho]; rfl
 have hlt : ∀ o∈ot::ob::ids,o<T.nx:=fun o ho=>(hids o ho).2
 refine Zl fun hw0 => ?_
 generalize hT0:St T [] [some (4,[vl vint fi,vl vint fo,V.slice ot 0 ts.length,V.slice ob 0 bs.length])]=T0 at *
 have hinv:BInv S T0 [lid S.nx 0,lid T.nx 0,ot] ob bs T0 rs0 ids:=by
  subst hT0;refine ⟨⟨by rw [jE,lid]; have:=hag0.1; omega,fun o ho => ?_⟩,fun o _=>rfl, ?_, ?_, ?_, ?_, ?_⟩
  ·rw [g0 o _ (by omega),hag0.2 o (by rw [jE,lid]; omega),jk ho]; rfl
  ·intro o ho;simp only [List.mem_cons,List.not_mem_nil,or_false] at ho;rcases ho with rfl | rfl | rfl
   ·rw [g0 _ _ h4lt,h4]; rfl
   ·rw [jv]; rfl
   ·rw [g0 _ _ (hlt _ (by simp)),hotg]; rfl
  ·rw [g0 _ _ (hlt ob (by simp))]; exact hob
  ·exact hrows0.mono fun o ho=>g0 o _ (hlt o (by simp [ho]))
  ·have hno : ∀ o,T.nx≤o→o∉ot::ob::ids:=fun o ho hm=>by have:=hlt o hm; omega
   refine List.nodup_cons.2 ⟨?_,List.nodup_cons.2 ⟨hno _ (by simp only [lid]; omega),hnd⟩⟩;simp only [lid] at h4lt ⊢;refine fun hm => ?_
   rcases List.mem_cons.1 hm with h | hm
   ·omega
   ·have:=(hids _ hm).1; omega
  ·intro o ho;simp only [List.cons_append,List.nil_append,List.mem_cons] at ho;rcases ho with h | h | h | h | h
   ·subst h; simp only [lid]; omega
   ·subst h; simp only [lid]; omega
   ·have:=(hids o (by simp [h])).1; omega
   ·have:=(hids o (by simp [h])).1; omega
   ·have:=(hids o (by simp [h])).1; omega
 have hgH:T0.get (lid T.nx 0)=some (4,[vl vint fi,vl vint fo,V.slice ot 0 ts.length,V.slice ob 0 bs.length]):=by rw [←hT0,jv]; rfl
 have h4H:T0.get (lid S.nx 0)=some (4,[V.nils,V.nils,V.nils,V.nils]):=by rw [←hT0,g0 _ _ h4lt]; exact h4
 have htH:T0.get ot=some (1,ts.map vint):=by rw [←hT0,g0 _ _ (hlt _ (by simp))]; exact hotg
 generalize hp4:lid S.nx 0=p4 at *
 generalize hpg:lid T.nx 0=pg at *
 clear hT0;refine YT hw0 ?_;have lg:=jy hw0 hgH;have bg:=fun u l => @jk T0 u l pg lg
 have ghf : ∀ l, ∃ S',GhostArgs [.agg [vl vint fi,vl vint fo, .slice ot 0 ts.length, .slice ob 0 bs.length]] (St T0 [] l) [ql ⟨⟨fi,fo⟩,ts,bs⟩] S':=fun l =>
  (hinv.st hw0 l).ghost (by simp) (by rw [jk (jy hw0 htH)]; exact htH) []
 have cSu:VCalls Tryz.prog 26 [.agg [vl vint fi,vl vint fo, .slice ot 0 ts.length, .slice ob 0 bs.length]] (St T0 [] []) fun r T'=>r=vl (vl vint) (Ss.succs bs)∧T'=St T0 [] []:=by
  rw [qF hw0];exact SuccG_v hinv (fun l=>by
   obtain ⟨S',hg⟩:=ghf l;exact csm.thaw hg hcl0) hh2 (fun b hb=>((jX hs).2.2.1 b hb).2.1)
 repeat first|refine QG ?_|refine QY ?_
 refine QT ?_;refine QP ?_ (r:=by conv=>lhs;simp[QV,bg,hgH]);refine jT rfl cSu ?_;rintro X T9 ⟨rfl,rfl⟩;refine jm rfl (clo) ?_;refine QM (by conv=>lhs;simp[QV,bg,hgH]) ?_;refine QN ?_;have cHo:VCalls Tryz.prog 27 [.agg [vl vint fi,vl vint fo, .slice ot 0 ts.length, .slice ob 0 bs.length]] (St T0 [] []) fun r T'=>r = .slice (lid T0.nx 0) 0 ts.length∧T'=St T0 [] [some (1,(Ss.homesI ⟨⟨fi,fo⟩,ts,bs⟩).map vint)]:=by
  obtain ⟨S',hg⟩:=ghf [];rw [qF hw0] at hg ⊢;have hwz:(⟨fun _=>none,0⟩:Store).Wf:=⟨fun _ _=>rfl,fun _ _ h=>by cases h⟩
  refine ((cho hwz).thaw hg hcl0 ?_).mono ?_
  ·rintro r T' ⟨rfl,rfl⟩;refine ⟨rfl,fun o c hc x hx => ?_⟩;simp only [St,Nat.not_lt_zero,if_false,Nat.sub_zero] at hc
   cases o with
   | zero =>
    simp only [List.getElem?_cons_zero,Option.join_some,Option.some.injEq] at hc;subst hc;obtain ⟨y,_,rfl⟩:=List.mem_map.1 hx
    rfl
   | succ k=>simp at hc
  ·rintro r T' ⟨r0,T9,⟨rfl,rfl⟩,rfl,rfl⟩;exact ⟨by simp [jbo,WC,lid],plus_one hw0 _⟩
 repeat first|refine QG ?_|refine QY ?_
 refine QT ?_;refine QP ?_ (r:=by conv=>lhs;simp[QV,bg,hgH]);refine jT rfl cHo ?_;rintro X T9 ⟨rfl,rfl⟩;refine QM (by conv=>lhs;simp[QV,bg,hgH]) ?_;refine QN ?_;have hhl:(Ss.homesI ⟨⟨fi,fo⟩,ts,bs⟩).length=ts.length:=Ss.homesI_len _;generalize hhm0:Ss.homesI ⟨⟨fi,fo⟩,ts,bs⟩=hm0 at *
 refine Zl fun hw1 => ?_
 have hnx1:T0.nx≤(St T0 [] [some (1,hm0.map vint),some (1,[V.slice (lid T0.nx 0) 0 ts.length])]).nx:=by rw [jE,lid]; omega
 have hin1:=(hinv.ext hw0 hnx1 fun o ho=>by rw [jk ho]; rfl).hold (jj:=[lid T0.nx 1,lid T0.nx 0]) (fun o ho=>by
  simp only [List.mem_cons,List.not_mem_nil,or_false] at ho;rcases ho with rfl | rfl<;>(rw [jv]; rfl)) (by
  have hall:=hinv.all_lt hw0;refine List.nodup_append.2 ⟨by simp [lid],hinv.nd,fun a ha b hb => ?_⟩;have:=hall b hb;simp only [List.mem_cons,List.not_mem_nil,or_false,lid] at ha;rcases ha with rfl | rfl<;>omega) (fun o ho=>by
  have:=hinv.old.1;simp only [List.mem_cons,List.not_mem_nil,or_false,lid] at ho;rcases ho with rfl | rfl<;>omega)
 have hphH:(St T0 [] [some (1,hm0.map vint),some (1,[V.slice (lid T0.nx 0) 0 ts.length])]).get (lid T0.nx 1)=some (1,[V.slice (lid T0.nx 0) 0 ts.length]):=by rw [jv]; rfl
 have hohH:(St T0 [] [some (1,hm0.map vint),some (1,[V.slice (lid T0.nx 0) 0 ts.length])]).get (lid T0.nx 0)=some (1,hm0.map vint):=by rw [jv]; rfl
 have hgH1:(St T0 [] [some (1,hm0.map vint),some (1,[V.slice (lid T0.nx 0) 0 ts.length])]).get pg=some (4,[vl vint fi,vl vint fo,V.slice ot 0 ts.length,V.slice ob 0 bs.length]):=by rw [jk (jy hw0 hgH)]; exact hgH
 have h4H1:(St T0 [] [some (1,hm0.map vint),some (1,[V.slice (lid T0.nx 0) 0 ts.length])]).get p4=some (4,[V.nils,V.nils,V.nils,V.nils]):=by rw [jk (jy hw0 h4H)]; exact h4H
 have htH1:(St T0 [] [some (1,hm0.map vint),some (1,[V.slice (lid T0.nx 0) 0 ts.length])]).get ot=some (1,ts.map vint):=by rw [jk (jy hw0 htH)]; exact htH
 simp only [List.cons_append,List.nil_append] at hin1;generalize St T0 [] [some (1,hm0.map vint),some (1,[V.slice (lid T0.nx 0) 0 ts.length])]=T1 at *
 generalize lid T0.nx 1=ph at *
 generalize lid T0.nx 0=oh at *
 clear hinv hgH h4H htH ghf cSu cHo hnx1 bg lg hw0;obtain ⟨lp,hlpe⟩ : ∃ lp,lp=Ss.lps bs:=⟨_,rfl⟩
 rw [←hlpe] at hlpl hlpn hlps hlpb ⊢
 repeat first|refine QG ?_|refine QY ?_
 refine QT ?_;refine jc [4,6,7,9] rfl (fun c σ S' => ∃ (g:Ss.Fn) (hm:List Int) (H:Store) (rs:List (List V)) (ids:List Nat),Ss.LOk ⟨sg,im,gl,mu,me⟩ ⟨⟨fi,fo⟩,ts,bs⟩ g hm∧BInv S H [ph,oh,p4,pg,ot] ob g.blocks S' rs ids∧H.get ph=some (1,[.slice oh 0 ts.length])∧H.get oh=some (1,hm.map vint)∧H.get p4=some (4,[V.nils,V.nils,V.nils,V.nils])∧H.get pg=some (4,[vl vint fi,vl vint fo,V.slice ot 0 ts.length,V.slice ob 0 bs.length])∧H.get ot=some (1,ts.map vint)∧c=Ss.wt g∧σ=[(4, .ptr p4 0),(6, .ptr pg 0),(7,vl jA lp),(9, .ptr ph 0)]) (Ss.wt ⟨⟨fi,fo⟩,ts,bs⟩) ?_ ?_
 ·exact ⟨_,hm0,T1,rs0,ids,hL0,hin1,hphH,hohH,h4H1,hgH1,htH1,rfl,by simp [Fr.only,Fr.look]⟩
 ·rintro c σ T2 ⟨g,hm,H,rs,ids,hL,hI,hph,hoh,h4H,hgH,htH,rfl,rfl⟩;clear hin1 hphH hohH hgH1 h4H1 htH1 hw1 hL0;refine Zl fun hw2=>YT hw2 ?_
  have hgl:g.blocks.length=bs.length:=by
   have:=congrArg List.length hL.succs;simpa [Ss.succs] using this
  have hst:=fun p n i hf=>Ss.LOk.step hL (p:=p) (n:=n) (i:=i) (by rw [←hlpe]; exact hf)
  have hend:=fun hf=>Ss.LOk.end hL (by rw [←hlpe]; exact hf)
  have hfg:=hL.fits;have hsg:=hL.sig;have htg:=hL.types;have hcg:=hL.chk;have hmN:hm.length=ts.length:=hL.len;obtain ⟨⟨gi,go'⟩,gt,gb⟩:=g;simp only at hsg htg hgl hI
  cases hsg
  subst gt;have hsmg:=Ss.check_small hcg;have hdg:=Ss.check_dok hcg;obtain ⟨_,hgb1,hgb2,_⟩:=jX hsmg;have cPo:=fun hd nd h=>Porch_v ⟨⟨fi,fo⟩,ts,gb⟩ hfg hd nd h
  have hpoe : ∀ hd nd,Ss.porchF ⟨⟨fi,fo⟩,ts,gb⟩ hd nd=Ss.porch gb hd nd:=fun hd nd=>by rw [Ss.porchF,if_pos hsmg]
  simp only at hgb1 hgb2;have hph2:=(hI.hd ph (by simp)).trans hph;have hoh2:=(hI.hd oh (by simp)).trans hoh
  repeat first|refine QG ?_|refine QY ?_
  obtain ⟨hk2,hhk2⟩ : ∃ q,q=Ss.first gb (Ss.tabOf hm) lp:=⟨_,rfl⟩
  rw [←hhk2] at hst hend;refine QT ?_;refine jc [4,6,7,9,34,35,36] rfl (fun c σ S' => ∃ (k:Nat),k≤lp.length∧c=lp.length-k∧Ss.first gb (Ss.tabOf hm) (lp.drop k)=hk2∧BInv S H [ph,oh,p4,pg,ot] ob gb S' rs ids∧σ=[(4, .ptr p4 0),(6, .ptr pg 0),(7,vl jA lp),(9, .ptr ph 0),(34,vl jA lp),(35,vnat lp.length),(36,vnat k)]) lp.length ?_ ?_
  ·exact ⟨0,by omega,rfl,hhk2.symm,by rw [qF hw2]; exact hI,by simp [Fr.only,Fr.look]⟩
  ·clear hI hw2 hph2 hoh2;rintro c σ T3 ⟨k,hk,rfl,hfk,hI,rfl⟩;refine Zl fun hw3=>YT hw3 ?_
   by_cases hkt:k<lp.length
   ·have hw:=ji hkt (by omega);have hlm:lp[k]∈lp:=List.getElem_mem hkt;have hln:=hlpn _ hlm;have hls:=hlps _ hlm;have hlb:=hlpb _ hlm;rw [List.drop_eq_getElem_cons hkt,Ss.first] at hfk;obtain ⟨⟨hed,nodes⟩,hlk⟩ : ∃ l,lp[k]=l:=⟨_,rfl⟩
    rw [hlk] at hfk hln hls hlb;simp only at hfk hln hls hlb;refine zy (b':=T3.nx) hI.old.1 ?_;have hgT:=(hI.hd pg (by simp)).trans hgH;have lg:=jy hw3 hgT;have bg:=fun u l => @jk T3 u l pg lg
    refine QT ?_;refine QY ?_ (r:=by conv=>lhs;simp[QV,hkt]);refine QT ?_;refine jG rfl rfl rfl ?_;refine QT ?_;refine jB rfl ?_;refine QT ?_;refine jK 3 rfl rfl ?_;have hoi : ∀ S',qj 2 S' (vl jA lp) (V.int .i64 (k:Int))=some (.ref (.agg [vnat hed,vl vnat nodes])):=fun S'=>by
     have:=Jx (S:=S') (enc:=jA) (l:=lp) (k := .i64) (i:=k) (x:=(hed,nodes)) (s:=2) rfl (by rw [List.getElem?_eq_getElem hkt,hlk]);simpa [jA] using this
    refine QT ?_;refine QY ?_ (r:=by conv=>lhs;simp[QV,hoi]);have hwfS:=hwf;clear hwf;have hwf:=hw3;refine QH 11 0 ?_;have hnm:nodes.map Int.ofNat=nodes.map Int.ofNat:=rfl;have cPo2 : ∀ l,VCalls Tryz.prog 28 [.agg [vl vint fi,vl vint fo, .slice ot 0 ts.length, .slice ob 0 gb.length],vint (hed:Int),vl vint (nodes.map Int.ofNat)] (St T3 [] l) fun r T'=>r=WH (Ss.porch gb (hed:Int) (nodes.map Int.ofNat))∧T'=St T3 [] l:=fun l=>by
     have hIl:=hI.st hw3 l;have htl:=(hIl.hd ot (by simp)).trans htH;obtain ⟨S',hg⟩:=hIl.ghost (fi:=fi) (fo:=fo) (ts:=ts) (ot:=ot) (by simp) htl [vint (hed:Int),vl vint (nodes.map Int.ofNat)];have:=cPo (hed:Int) (nodes.map Int.ofNat) (by rw [List.length_map]; omega);rw [hpoe] at this;refine this.thawF hg (fun x hx => ?_) ?_ ?_
     ·simp only [List.mem_cons,List.not_mem_nil,or_false] at hx;rcases hx with rfl | rfl | rfl<;>rfl
     ·cases Ss.porch gb (hed:Int) (nodes.map Int.ofNat)<;>rfl
     ·intro n
      cases Ss.porch gb (hed:Int) (nodes.map Int.ofNat)<;>rfl
    rw [hgl, ←vl_nat] at cPo2;obtain ⟨po,hpo⟩ : ∃ po,po=Ss.porch gb (hed:Int) (nodes.map Int.ofNat):=⟨_,rfl⟩
    rw [←hpo] at hfk cPo2;refine QT ?_;refine QP ?_ (r:=by conv=>lhs;simp[QV,bg,hgT]);refine jT rfl (cPo2 _) ?_;rintro X T9 ⟨rfl,rfl⟩
    cases po with
    | none =>
     simp only at hfk;simp only [WH];refine QW ?_
     repeat first|refine QG ?_|refine QY ?_ (r:=by conv=>lhs;simp[QV,hw])
     show jp _ _ _ _ _ _ _;exact again ⟨Nat.sub_lt_sub_left hkt (Nat.lt_succ_self k),k+1,hkt,rfl,hfk,hI.st hw3 _,by simp [Fr.only,Fr.look]⟩
    | some p =>
     simp only at hfk;obtain ⟨pn,bp,hpn,_⟩:=Ss.porch_spec hpo.symm;subst hpn;rw [Int.toNat_natCast] at hfk;simp only [WH];refine QW ?_
     repeat first|refine QG ?_|refine QY ?_
     have hI4:=hI.st hw3 [none];clear cPo2 hoi;generalize St T3 [] [none]=T4 at hI4 ⊢;obtain ⟨fB,hfB⟩ : ∃ q,q=Ss.firstB gb (Ss.tabOf hm) nodes nodes:=⟨_,rfl⟩
     rw [←hfB] at hfk;have hnmem : ∀ z:Int,z∈nodes.map Int.ofNat ↔ ∃ u∈nodes,(u:Int)=z:=fun z=>List.mem_map
     have hsrt:(nodes.map Int.ofNat).Pairwise (· < ·):=List.pairwise_map.2 (hls.imp fun h=>by simpa using h);refine QT ?_;refine jc [4,6,7,9,12,14,34,35,36,53,54,55] rfl (fun c σ S' => ∃ (j:Nat),j≤nodes.length∧c=nodes.length-j∧Ss.firstB gb (Ss.tabOf hm) nodes (nodes.drop j)=fB∧BInv S H [ph,oh,p4,pg,ot] ob gb S' rs ids∧σ=[(4, .ptr p4 0),(6, .ptr pg 0),(7,vl jA lp),(9, .ptr ph 0),(12,vnat pn),(14, .func 29 [(V.agg [vnat hed,vl vnat nodes]).ref, .ptr ph 0]),(34,vl jA lp),(35,vnat lp.length),(36,vnat k),(53,vl vnat nodes),(54,vnat nodes.length),(55,vnat j)]) nodes.length ?_ ?_
     ·exact ⟨0,by omega,rfl,hfB.symm,hI4,by simp [Fr.only,Fr.look]⟩
     ·clear hI hw3 hI4 hwf hgT lg bg;rintro c σ T5 ⟨j,hj,rfl,hfj,hI,rfl⟩;refine Zl fun hw5=>YT hw5 ?_
      by_cases hjt:j<nodes.length
      ·have hwj:=ji hjt (by omega);rw [List.drop_eq_getElem_cons hjt,Ss.firstB] at hfj;obtain ⟨n,hn⟩ : ∃ n,nodes[j]=n:=⟨_,rfl⟩
       have hnb:n<gb.length:=by rw [hgl]; exact hn▸hlb _ (List.getElem_mem hjt)
       rw [hn] at hfj;have hgd:gb.getD n default=gb[n]:=by rw [List.getD_eq_getElem?_getD,List.getElem?_eq_getElem hnb]; rfl
       rw [hgd] at hfj;obtain ⟨op,oc,oe,rc,re,hrow,hlen,hcell,_,hgc,_,_,_,_,_,_,hcode⟩:=hI.row hw5 hnb;have hcn:=(hgb2 _ (List.getElem_mem hnb)).2.2.2;have hgT:=(hI.hd pg (by simp)).trans hgH;have lg:=jy hw5 hgT;have bg:=fun u l => @jk T5 u l pg lg
       have hIb:=hI.cb;have lb:=jy hw5 hIb;have bb:=fun u l => @jk T5 u l ob lb
       have lc:=jy hw5 hgc;have bc:=fun u l => @jk T5 u l oc lc
       obtain ⟨cells,hcells⟩ : ∃ c,c=rs.flatten:=⟨_,rfl⟩
       obtain ⟨cc,hcce⟩ : ∃ c,c=rc.flatten:=⟨_,rfl⟩
       rw [←hcells] at hrow hlen hcell hIb;rw [←hcce] at hgc;have hcl1:n*6+1<cells.length:=(List.getElem?_eq_some_iff.1 hcell).1;have hgl':n<bs.length:=by omega
       have hcodeb:=hdg.args _ (List.getElem_mem hnb);have hfb:=(hfg.2.2.2 _ (List.getElem_mem hnb)).2.1;obtain ⟨⟨ps,code,tm⟩,hbn⟩ : ∃ b,gb[n]=b:=⟨_,rfl⟩
       simp only [hbn] at hcode hcodeb hfj hcn hrow hcell hfb;have hcl0:code.length<2^62:=by omega
       have hcv:cells[n*6+1] = .slice oc 0 code.length:=by rw [List.getElem?_eq_getElem hcl1] at hcell; exact Option.some.inj hcell
       repeat first|refine QG ?_|refine QY ?_ (r:=by conv=>lhs;simp[QV,hjt,hn,bg,hgT,hIb,bb,hcv,hcl1,hgl',bc,hgc])
       have hI5:=hI;rw [←qF hw5] at hI5;clear bc bb bg lc lb lg hrow hlen;refine QT ?_;refine jc [4,6,7,9,12,14,16,34,35,36,53,54,55,64,65,66] rfl (fun c σ S' => ∃ (i:Nat),i≤code.length∧c=code.length-i∧(∀ (q:Nat) (hq:q<code.length),q<i→Ss.canMove (Ss.tabOf hm) nodes code[q]=false)∧BInv S H [ph,oh,p4,pg,ot] ob gb S' rs ids∧σ=[(4, .ptr p4 0),(6, .ptr pg 0),(7,vl jA lp),(9, .ptr ph 0),(12,vnat pn),(14, .func 29 [(V.agg [vnat hed,vl vnat nodes]).ref, .ptr ph 0]),(16,vnat n),(34,vl jA lp),(35,vnat lp.length),(36,vnat k),(53,vl vnat nodes),(54,vnat nodes.length),(55,vnat j),(64, .slice oc 0 code.length),(65,vnat code.length),(66,vnat i)]) code.length ?_ ?_
       ·exact ⟨0,by omega,rfl,fun q hq h=>by omega,hI5,by simp [Fr.only,Fr.look]⟩
       ·clear hI hI5 hw5 hgT hIb hgc hcode;rintro c σ T6 ⟨i,hi,rfl,hno,hI,rfl⟩;refine Zl fun hw6=>YT hw6 ?_
        by_cases hit:i<code.length
        ·have hwi:=ji hit (by omega);obtain ⟨op',oc',oe',rc',re',hrow,hlen,hcell',hgop,hgc,hr4,hrcl,_,_,_,_,hcode⟩:=hI.row hw6 hnb;rw [←hcells] at hrow hlen hcell';simp only [hbn] at hcode hcell';have hoc:oc'=oc:=by
          have:=hcell'.symm.trans hcell;injection this with h; injection h
         subst hoc;obtain ⟨oa,ou,hx4,hoa,hou⟩:=hcode i hit;have hgT:=(hI.hd pg (by simp)).trans hgH;have lg:=jy hw6 hgT;have bg:=fun u l => @jk T6 u l pg lg
         have lc:=jy hw6 hgc;have bc:=fun u l => @jk T6 u l oc' lc
         have la:=jy hw6 hoa;have ba:=fun u l => @jk T6 u l oa la
         have lu:=jy hw6 hou;have bu:=fun u l => @jk T6 u l ou lu
         have hrfl:rc'.flatten.length=code.length*4:=by rw [qY hr4,hrcl]; simp [hbn]
         obtain ⟨cc',hcc'⟩ : ∃ c,c=rc'.flatten:=⟨_,rfl⟩
         rw [←hcc'] at hgc hx4 hrfl;have hc4:i*4+4≤cc'.length:=by omega
         have hxm:=List.getElem_mem hit;have hxa:=hcodeb _ hxm;have hxf:=hfb.2 _ hxm;obtain ⟨⟨xo,xn,xa,xs⟩,hxe⟩ : ∃ x,code[i]=x:=⟨_,rfl⟩
         have hcanx:Ss.canMove (Ss.tabOf hm) nodes code[i]=(Ss.pure xo&&xa.all fun a => !decide (Ss.tabOf hm a∈nodes.map Int.ofNat)):=by rw [hxe]; rfl
         rw [hxe] at hx4 hoa hou hxa hxf;simp only at hx4 hoa hou hxa;have cpu:=Pure_v xo hxf.1
         repeat first|refine QG ?_|refine QY ?_ (r:=by conv=>lhs;simp[QV,hit,bc,hgc,hx4,hc4])
         refine QT ?_;refine QP ?_;refine jm rfl (cpu) ?_;have skip:Ss.canMove (Ss.tabOf hm) nodes code[i]=false → ∀ (q:Nat) (hq:q<code.length),q<i+1→Ss.canMove (Ss.tabOf hm) nodes code[q]=false:=fun h q hq hlt=>by
          rcases Nat.lt_or_ge q i with h1 | h1
          ·exact hno q hq h1
          ·have:q=i:=by omega
           subst this; exact h
         cases hpu:Ss.pure xo with
         | false =>
          rw [hpu,Bool.false_and] at hcanx;refine QW ?_
          repeat first|refine QG ?_|refine QY ?_ (r:=by conv=>lhs;simp[QV,hwi])
          show jp _ _ _ _ _ _ _;exact again ⟨Nat.sub_lt_sub_left hit (Nat.lt_succ_self i),i+1,hit,rfl,skip hcanx,hI.st hw6 _,by simp [Fr.only,Fr.look]⟩
         | true =>
          rw [hpu,Bool.true_and] at hcanx;obtain ⟨S6,hS6⟩ : ∃ S6,S6=St T6 [] [some (4,[V.int .i64 xo,V.int .u64 xn,V.slice oa 0 xa.length,V.slice ou 0 xs.length])]:=⟨_,rfl⟩
          have hph6:S6.get ph=some (1,[.slice oh 0 hm.length]):=by
           have:=(hI.hd ph (by simp)).trans hph;rw [hS6,jk (jy hw6 this),hmN]; exact this
          have hoh6:S6.get oh=some (1,hm.map vint):=by
           have:=(hI.hd oh (by simp)).trans hoh;rw [hS6,jk (jy hw6 this)]; exact this
          have cAny:=LAny_v (S:=S6) (l:=xa) (oc:=oa) (fid:=29) (caps:=[.ref (.agg [vint (hed:Int),vl vint (nodes.map Int.ofNat)]), .ptr ph 0]) (p:=fun a=>decide (Ss.tabOf hm a∈nodes.map Int.ofNat)) rfl (by have:=hxf.2.2.1.1; simp only at this; omega) (fun v hv=>by
           obtain ⟨v0,v1⟩:=hxa v hv;obtain ⟨m,rfl⟩ : ∃ m:Nat,v=(m:Int):=⟨v.toNat,by omega⟩
           have hm1:m<hm.length:=by omega
           have:=LClo_v S6 (h:=(hed:Int)) hph6 hoh6 hsrt (by rw [List.length_map]; omega) hm1;have e1:Ss.tabOf hm (m:Int)=hm[m]:=by rw [Ss.tabOf,Int.toNat_natCast,List.getD_eq_getElem?_getD,List.getElem?_eq_getElem hm1]; rfl
           rw [e1]; exact this) (by rw [hS6,jk la]; exact hoa)
          rw [←vl_nat,hS6] at cAny;refine QZ ?_;refine jT rfl cAny ?_;rintro X T9 ⟨rfl,rfl⟩;clear cAny hph6 hoh6 hS6
          cases hany:xa.any fun a=>decide (Ss.tabOf hm a∈nodes.map Int.ofNat) with
          | true =>
           have hcf:Ss.canMove (Ss.tabOf hm) nodes code[i]=false:=by
            rw [hcanx,List.all_eq_not_any_not];simp only [Bool.not_not];rw [hany]; rfl
           refine QW ?_
           repeat first|refine QG ?_|refine QY ?_ (r:=by conv=>lhs;simp[QV,hwi])
           show jp _ _ _ _ _ _ _;exact again ⟨Nat.sub_lt_sub_left hit (Nat.lt_succ_self i),i+1,hit,rfl,skip hcf,hI.st hw6 _,by simp [Fr.only,Fr.look]⟩
          | false =>
           have hct:Ss.canMove (Ss.tabOf hm) nodes code[i]=true:=by
            rw [hcanx,List.all_eq_not_any_not];simp only [Bool.not_not];rw [hany]; rfl
           have hfi:code.findIdx? (Ss.canMove (Ss.tabOf hm) nodes)=some i:=List.findIdx?_eq_some_iff_getElem.2 ⟨hit,hct,fun q hq=>by rw [hno q (by omega) hq]; simp⟩;rw [hfi] at hfj;simp only at hfj;rw [←hfj] at hfk;simp only at hfk;obtain ⟨hpb,hnb2,hib,o,hne,houts,hoN,hmv,hL',hwt⟩:=hst pn n i hfk.symm;refine QW ?_
           repeat first|refine QG ?_|refine QY ?_
           clear skip hcanx hct hno hfi hfj cpu hfk hany hend hst;obtain ⟨S7,hS7⟩ : ∃ S7,S7=St T6 [] [some (4,[V.int .i64 xo,V.int .u64 xn,V.slice oa 0 xa.length,V.slice ou 0 xs.length])]:=⟨_,rfl⟩
           have hI7:=hI.st hw6 [some (4,[V.int .i64 xo,V.int .u64 xn,V.slice oa 0 xa.length,V.slice ou 0 xs.length])];have gpx:S7.get (lid T6.nx 0)=some (4,[V.int .i64 xo,V.int .u64 xn,V.slice oa 0 xa.length,V.slice ou 0 xs.length]):=by rw [hS7,jv]; rfl
           have g7 : ∀ q,q<T6.nx→S7.get q=T6.get q:=fun q hq=>by rw [hS7,jk hq]; rfl
           have hall6:=hI.all_lt hw6;have hpxne : ∀ q,q<T6.nx→lid T6.nx 0≠q:=fun q hq=>by simp only [lid]; omega
           rw [←hS7] at hI7 ⊢;refine Zl fun hw7 => ?_
           obtain ⟨oc2,rc2,oa2,ou2,c1,c2,c3,c4,c5,c6,c7,c8,c9,c10,c11,c12,c13,hcut⟩:=hI7.cut hw7 hnb (i:=i) (by rw [hbn]; exact hit);simp only [hbn,hxe] at c1 c4 c5 c6 c7 hcut;rw [←hcells] at c1;have hoc2:oc'=oc2:=by
            have:=hcell'.symm.trans c1;injection this with h; injection h
           subst hoc2;have hcc2:cc'=rc2.flatten:=by
            rw [g7 oc' lc,hgc] at c2;injection c2 with h; injection h
           have hi2:i<rc2.length:=(List.getElem?_eq_some_iff.1 c5).1;have e5:=WT (k:=i) c3 hi2;rw [←hcc2,hx4,(List.getElem?_eq_some_iff.1 c5).2] at e5;have e6:oa=oa2∧ou=ou2:=by simpa using e5
           obtain ⟨rfl,rfl⟩:=e6;have hcall:=InsDel_v c2 c3 hi2;rw [c4, ←hwi] at hcall;have gp7:=(hI7.hd pg (by simp)).trans hgH;have gb7:=hI7.cb;rw [←hcells] at gb7;obtain ⟨hpgoc,hpgob⟩:=c9 pg (by simp);have hok : ∀ S':Store,S'.get pg=some (4,[vl vint fi,vl vint fo,V.slice ot 0 ts.length,V.slice ob 0 bs.length])→(∃ c,S'.get ob=some (6,c))→(y1 pg (4,[vl vint fi,vl vint fo,V.slice ot 0 ts.length,V.slice ob 0 bs.length])).Sub S'∧(y2 pg (4,[vl vint fi,vl vint fo,V.slice ot 0 ts.length,V.slice ob 0 bs.length]) ob (6,cells)).Shp S':=fun S' h1 h2=>by
            obtain ⟨c,h2⟩:=h2;exact ⟨y1_sub h1,y2_shp h1 rfl h2 rfl⟩
           have hz1 := @y1_get pg (4,[vl vint fi,vl vint fo,V.slice ot 0 ts.length,V.slice ob 0 bs.length]);have hz2 := @y2_get pg ob (4,[vl vint fi,vl vint fo,V.slice ot 0 ts.length,V.slice ob 0 bs.length]) (6,cells);have hz3 := @ZI pg ob (4,[vl vint fi,vl vint fo,V.slice ot 0 ts.length,V.slice ob 0 bs.length]) (6,cells) (Ne.symm hpgob);have hcv2:cells[n*6+1] = .slice oc' 0 code.length:=by rw [List.getElem?_eq_getElem hcl1] at hcell'; exact Option.some.inj hcell'
           have hnbI:(n:Int)<(bs.length:Int):=by omega
           clear hx4 hcode bg bc ba bu hgT;refine QT ?_;refine QJ (y1 pg (4,[vl vint fi,vl vint fo,V.slice ot 0 ts.length,V.slice ob 0 bs.length])) (y2 pg (4,[vl vint fi,vl vint fo,V.slice ot 0 ts.length,V.slice ob 0 bs.length]) ob (6,cells)) [89,20093] ?_ (hz:=hok _ gp7 ⟨_,gb7⟩) (r:=by conv=>lhs; simp [QV,hz1,hz2,hz3,gp7,gb7,hcv2,hcl1,hgl',hnbI]);have k1:(S7.upd oc' (4,(rc2.eraseIdx i).flatten)).get pg=some (4,[vl vint fi,vl vint fo,V.slice ot 0 ts.length,V.slice ob 0 bs.length]):=by rw [ju hpgoc]; exact gp7
           have k2:(S7.upd oc' (4,(rc2.eraseIdx i).flatten)).get ob=some (6,cells):=by rw [ju c8]; exact gb7
           refine vcall_t rfl hcall (by rfl) (by rfl) (hok _ k1 ⟨_,k2⟩) ?_;refine QM (by conv=>lhs;simp[QV,hz1,hz2,hz3,hcl1,hgl',hnbI]) ?_;refine jS rfl (by conv=>lhs; simp [QV,k2,hcl1]) (hok _ (by rw [ju hpgob]; exact k1) ⟨_,zl⟩) ?_;refine QN ?_;simp only [←hcells] at hcut;obtain ⟨T8,hT8⟩ : ∃ T8,T8=(S7.upd oc' (4,(rc2.eraseIdx i).flatten)).upd ob (6,cells.set (n*6+1) (.slice oc' 0 (code.length-1))):=⟨_,rfl⟩
           rw [←hT8];obtain ⟨rs2,ids2,hset2,hI8⟩:=hcut T8 hT8;have k8 : ∀ q,q≠oc'→q≠ob→T8.get q=S7.get q:=fun q h1 h2=>by rw [hT8,ju h2,ju h1]
           have kh8 : ∀ q∈[ph,oh,p4,pg,ot],T8.get q=H.get q:=fun q hq=>by
            obtain ⟨h1,h2⟩:=c9 q hq;rw [k8 q h1 h2]; exact hI7.hd q hq
           have lb6:=hall6 ob (by simp);have gpx8:=(k8 _ (hpxne _ lc) (hpxne _ lb6)).trans gpx;have goa8:=(k8 oa c10 c12).trans c6;have gou8:=(k8 ou c11 c13).trans c7;have gp8:=(kh8 pg (by simp)).trans hgH;have hpxpg:=hpxne pg (hall6 pg (by simp));generalize lid T6.nx 0=px at *
           have hpb:pn<gb.length:=hpb;have hp8:pn<(gb.set n (Ss.cutAt ⟨ps,code,tm⟩ i)).length:=by rw [List.length_set]; exact hpb
           have hg8:(gb.set n (Ss.cutAt ⟨ps,code,tm⟩ i))[pn]'hp8=gb[pn]:=List.getElem_set_ne (Ne.symm hne) _;refine Zl fun hw8 => ?_
           obtain ⟨ocp,cellsp,d1,d2,d3,d4,d5,d6,d7,d8,d9,hpush⟩:=hI8.push hw8 hp8 (x:=⟨xo,xn,xa,xs⟩) goa8 gou8;simp only [hg8] at d1 d3 hpush;have hcp:=(hgb2 _ (List.getElem_mem hpb)).2.2.2;obtain ⟨⟨pps,pcode,ptm⟩,hbp⟩ : ∃ b,gb[pn]=b:=⟨_,rfl⟩
           simp only [hbp] at d1 d3 hpush hcp;obtain ⟨fc2,hfc2⟩ : ∃ c,c=rs2.flatten:=⟨_,rfl⟩
           have gb8:=hI8.cb;rw [←hfc2] at d1 gb8;simp only [←hfc2] at hpush;have hpc1:pn*6+1<fc2.length:=(List.getElem?_eq_some_iff.1 d1).1;have hcvp:fc2[pn*6+1] = .slice ocp 0 pcode.length:=by rw [List.getElem?_eq_getElem hpc1] at d1; exact Option.some.inj d1
           have hpl:pn<bs.length:=by omega
           have hplI:(pn:Int)<(bs.length:Int):=by omega
           have lg8:=jy hw8 gp8;have lb8:=jy hw8 gb8;have lx8:=jy hw8 gpx8;have lp8:=jy hw8 d2;have bg8:=fun u l => @jk T8 u l pg lg8
           have bb8:=fun u l => @jk T8 u l ob lb8
           have bx8:=fun u l => @jk T8 u l px lx8
           have bp8:=fun u l => @jk T8 u l ocp lp8
           have hpgob8:=hpgob;have hpxob:=hpxne ob lb6;have hpgocp:=(d5 pg (by simp)).1;have hpxocp:px≠ocp:=by
            obtain ⟨_,ocq,_,_,_,_,_,hcq,_,hgcq,_⟩:=hI.row hw6 hpb;rw [←hcells] at hcq;have e1:fc2[pn*6+1]? = cells[pn*6+1]? := by rw [hfc2,hset2,List.getElem?_set_ne (by omega)]
            rw [d1,hcq] at e1;have e2:ocp=ocq:=by injection e1 with h; injection h
            rw [e2]; exact hpxne _ (jy hw6 hgcq)
           clear hcv hcall hT8 hset2 hcut hz1 hz2 hz3 hok k1 k2 k8 hcv2 gp7 gb7 gpx c1 c2 c5 c6 c7 e5 hcl1 hrow hlen hcell hcell' hgc hgop hrfl hI hI7 hpxne hcells hoa hou hw7 hw6 lu la lc lg;have hb64:(pcode.length+1)*64≤140737488355328:=by omega
           have hb1:pcode.length+1≤140737488355328:=by omega
           have hr4:rep0 [V.int .i64 0, .int .u64 0, .nils, .nils] 1=[.int .i64 0, .int .u64 0, .nils, .nils]:=rfl;have d3':=d3.symm;have hdl : ∀ l,(St T8 [] l).del ocp=St T8 [(ocp,none)] l:=fun l=>by rw [St_delOld lp8]; rfl
           have hup : ∀ c l,(St T8 [(ocp,none)] l).upd ob c=St T8 [(ocp,none),(ob,some c)] l:=fun c l=>by rw [zp lb8]; simp [uSet,d4,Ne.symm d4]
           refine YT hw8 ?_;have hok : ∀ u l,uGet u pg (T8.get pg)=some (4,[vl vint fi,vl vint fo,V.slice ot 0 ts.length,V.slice ob 0 bs.length])→uGet u px (T8.get px)=some (4,[V.int .i64 xo,V.int .u64 xn,V.slice oa 0 xa.length,V.slice ou 0 xs.length])→(∃ c,uGet u ob (T8.get ob)=some (6,c))→(y2 pg (4,[vl vint fi,vl vint fo,V.slice ot 0 ts.length,V.slice ob 0 bs.length]) px (4,[V.int .i64 xo,V.int .u64 xn,V.slice oa 0 xa.length,V.slice ou 0 xs.length])).Sub (St T8 u l)∧(y2 pg (4,[vl vint fi,vl vint fo,V.slice ot 0 ts.length,V.slice ob 0 bs.length]) ob (6,fc2)).Shp (St T8 u l):=fun u l h1 h2 h3=>by
            obtain ⟨c,h3⟩:=h3;exact ⟨y2_sub ((bg8 u l).trans h1) ((bx8 u l).trans h2),y2_shp ((bg8 u l).trans h1) rfl ((bb8 u l).trans h3) rfl⟩
           have hz1 := @y2_get pg px (4,[vl vint fi,vl vint fo,V.slice ot 0 ts.length,V.slice ob 0 bs.length]) (4,[V.int .i64 xo,V.int .u64 xn,V.slice oa 0 xa.length,V.slice ou 0 xs.length]);have hz2 := @ZI pg px (4,[vl vint fi,vl vint fo,V.slice ot 0 ts.length,V.slice ob 0 bs.length]) (4,[V.int .i64 xo,V.int .u64 xn,V.slice oa 0 xa.length,V.slice ou 0 xs.length]) hpxpg;have hz3 := @y2_get pg ob (4,[vl vint fi,vl vint fo,V.slice ot 0 ts.length,V.slice ob 0 bs.length]) (6,fc2);have hz4 := @ZI pg ob (4,[vl vint fi,vl vint fo,V.slice ot 0 ts.length,V.slice ob 0 bs.length]) (6,fc2) (Ne.symm hpgob8)
           repeat first|refine QG ?_|refine QY ?_
           trace_state
           refine QT ?_;refine QJ (y2 pg (4,[vl vint fi,vl vint fo,V.slice ot 0 ts.length,V.slice ob 0 bs.length]) px (4,[V.int .i64 xo,V.int .u64 xn,V.slice oa 0 xa.length,V.slice ou 0 xs.length])) (y2 pg (4,[vl vint fi,vl vint fo,V.slice ot 0 ts.length,V.slice ob 0 bs.length]) ob (6,fc2)) [104] ?_ (hz:=hok [] _ gp8 gpx8 ⟨_,gb8⟩) (r:=by conv=>lhs; simp [QV,hz1,hz2,hz3,hz4,bg8,bb8,bx8,gp8,gb8,gpx8,hcvp,hpl,hplI,hpc1]);refine jS rfl (by conv=>lhs; simp [QV,hz2,hr4]) (hok [] _ gp8 gpx8 ⟨_,gb8⟩) ?_;refine jS rfl (by conv=>lhs; simp [QV,bp8,d2,hb64,hb1,hdl,d3']) (hok [(ocp,none)] _ (by simp [uGet,hpgocp]; exact gp8) (by simp [uGet,hpxocp]; exact gpx8) ⟨fc2,by simp [uGet,d4]; exact gb8⟩) ?_;refine QM (by conv=>lhs;simp[QV,hz1,hz2,hz3,hz4,bg8,bb8,gp8,gb8,hpl,hplI,hpc1]) ?_;refine jS rfl (by conv=>lhs; simp [QV,hup,bb8,gb8,hpc1,d4]) (hok [(ocp,none),(ob,some (6,fc2.set (pn*6+1) (.slice (lid T8.nx 1) 0 (pcode.length+1))))] _ (by simp [uGet,hpgocp,hpgob8]; exact gp8) (by simp [uGet,hpxocp,hpxob]; exact gpx8) ⟨_,by simp [uGet,d4]; rfl⟩) ?_
           refine QN ?_;obtain ⟨T9,hT9⟩ : ∃ T9,T9=St T8 [(ocp,none),(ob,some (6,fc2.set (pn*6+1) (.slice (lid T8.nx 1) 0 (pcode.length+1))))] [some (4,[V.int .i64 xo,V.int .u64 xn,V.slice oa 0 xa.length,V.slice ou 0 xs.length]),some (4,cellsp++[V.int .i64 xo,V.int .u64 xn,V.slice oa 0 xa.length,V.slice ou 0 xs.length])]:=⟨_,rfl⟩
           obtain ⟨rs3,ids3,hset3,hI9⟩:=hpush T9 (lid T8.nx 1) (by simp [lid]) (by rw [hT9,jE,lid]; omega) (fun q hq h1 h2=>by rw [hT9,jk hq]; simp [uGet,h1,h2]) (by rw [hT9,jv]; rfl) (by rw [hT9,jk lb8]; simp [uGet,d4]);rw [←hT9];have k9 : ∀ q,q<T8.nx→q≠ocp→q≠ob→T9.get q=T8.get q:=fun q hq h1 h2=>by rw [hT9,jk hq]; simp [uGet,h1,h2]
           have gph8:=(kh8 ph (by simp)).trans hph;have goh8:=(kh8 oh (by simp)).trans hoh;have gph9:=(hI9.hd ph (by simp)).trans gph8;have goh9:=(hI9.hd oh (by simp)).trans goh8;have gou9:=(k9 ou (jy hw8 gou8) d7 d9).trans gou8;have gpx9:=(k9 px lx8 hpxocp hpxob).trans gpx8;simp only [hbn,hxe] at houts;have hmv:Ss.moveAt gb pn n i=(gb.set n (Ss.cutAt gb[n] i)).set pn (Ss.endWith gb[pn] gb[n].code[i]):=hmv;simp only [hbn,hxe,hbp] at hmv;subst houts;refine Zl fun hw9 => ?_
           have hnd9:=hI9.nd;simp only [List.cons_append,List.nil_append,List.nodup_cons,List.mem_cons,not_or] at hnd9;obtain ⟨⟨e1,_⟩,⟨e2,e3,e4,_⟩,_⟩:=hnd9;clear hT9 hok hz1 hz2 hz3 hz4 hpush hdl hup bg8 bb8 bx8 bp8 d1 d2 hcvp hpc1 gb8 gpx8 goa8 gou8;have gou9':T9.get ou=some (1,[V.int .i64 (o:Int)]):=gou9;have hnpx:ou≠px:=fun e=>by rw [e,gpx9] at gou9'; cases gou9'
           have hohpx:oh≠px:=fun e=>by rw [e,gpx9] at goh9; cases goh9
           have hohou:ou≠oh:=fun e=>by
            have h1:=hI8.nd;simp only [List.cons_append,List.nil_append,List.nodup_cons,List.mem_cons,not_or] at h1;exact h1.2.1.2.1 e
           have hoI:(o:Int)<(hm.length:Int):=by omega
           have hoT:o<ts.length:=by omega
           have hoTI:(o:Int)<(ts.length:Int):=by omega
           have hml:(hm.map vint).length=hm.length:=List.length_map _;obtain ⟨HM,hHM⟩ : ∃ q,q=hm.map vint:=⟨_,rfl⟩
           rw [←hHM] at goh9 hml;have hoH:o<HM.length:=by omega
           have hok : ∀ S':Store,S'.get px=some (4,[V.int .i64 xo,V.int .u64 xn,V.slice oa 0 xa.length,V.slice ou 0 1])→(∃ c,S'.get oh=some (1,c))→S'.get ou=some (1,[V.int .i64 (o:Int)])→(y1 px (4,[V.int .i64 xo,V.int .u64 xn,V.slice oa 0 xa.length,V.slice ou 0 1])).Sub S'∧(y3 px (4,[V.int .i64 xo,V.int .u64 xn,V.slice oa 0 xa.length,V.slice ou 0 1]) oh (1,HM) ou (1,[V.int .i64 (o:Int)])).Shp S':=fun S' h1 h2 h3=>by
            obtain ⟨c,h2⟩:=h2;exact ⟨y1_sub h1,y3_shp h1 rfl h2 rfl h3 rfl⟩
           have hz1 := @y1_get px (4,[V.int .i64 xo,V.int .u64 xn,V.slice oa 0 xa.length,V.slice ou 0 1]);have hz2 := @y3_get px oh ou (4,[V.int .i64 xo,V.int .u64 xn,V.slice oa 0 xa.length,V.slice ou 0 1]) (1,HM) (1,[V.int .i64 (o:Int)]);have hz3 := @y3_get2 px oh ou (4,[V.int .i64 xo,V.int .u64 xn,V.slice oa 0 xa.length,V.slice ou 0 1]) (1,HM) (1,[V.int .i64 (o:Int)]) hohpx;have hz4 := @y3_get3 px oh ou (4,[V.int .i64 xo,V.int .u64 xn,V.slice oa 0 xa.length,V.slice ou 0 1]) (1,HM) (1,[V.int .i64 (o:Int)]) hnpx hohou;have gpx9':T9.get px=some (4,[V.int .i64 xo,V.int .u64 xn,V.slice oa 0 xa.length,V.slice ou 0 1]):=gpx9
           trace_state
           refine QT ?_;refine QJ (y1 px (4,[V.int .i64 xo,V.int .u64 xn,V.slice oa 0 xa.length,V.slice ou 0 1])) (y3 px (4,[V.int .i64 xo,V.int .u64 xn,V.slice oa 0 xa.length,V.slice ou 0 1]) oh (1,HM) ou (1,[V.int .i64 (o:Int)])) [110,112,114] ?_ (hz:=hok _ gpx9' ⟨_,goh9⟩ gou9') (r:=by conv=>lhs; simp [QV,hz1,hz2,hz3,hz4,gpx9',gph9,goh9,gou9',hoT,hoTI,hoH]);refine jS rfl (by conv=>lhs; simp [QV,goh9,hoT,hoTI,hoH]) (hok _ (by rw [ju (Ne.symm hohpx)]; exact gpx9') ⟨_,zl⟩ (by rw [ju hohou]; exact gou9')) ?_;refine QN ?_;have hI10:=hI9.held hw9 (o:=oh) (by simp) (1,HM.set o (vint pn));have hHs:HM.set o (vint pn)=(hm.set o (pn:Int)).map vint:=by rw [hHM,List.map_set]
           repeat first|refine QG ?_|refine QY ?_
           trace_state
           show jp _ _ _ _ _ _ _;exact again ⟨hwt,Ss.moved ⟨⟨fi,fo⟩,ts,gb⟩ pn n i,hm.set o (pn:Int),T8.upd oh (1,HM.set o (vint pn)),rs3,ids3,hL',(by show BInv S _ _ ob (Ss.moveAt gb pn n i) _ rs3 ids3; rw [hmv]; exact hI10),(by rw [ju e1]; exact gph8),(by rw [zl,hHs]),(by rw [ju (Ne.symm e2),kh8 p4 (by simp)]; exact h4H),(by rw [ju (Ne.symm e3)]; exact gp8),(by rw [ju (Ne.symm e4),kh8 ot (by simp)]; exact htH),rfl,by simp [Fr.only,Fr.look]⟩
        ·have hie:i=code.length:=by omega
         subst hie;have hfi:code.findIdx? (Ss.canMove (Ss.tabOf hm) nodes)=none:=List.findIdx?_eq_none_iff.2 fun x hx=>by
          obtain ⟨q,hq,rfl⟩:=List.getElem_of_mem hx;exact hno q hq hq
         rw [hfi] at hfj;simp only at hfj
         repeat first|refine QG ?_|refine QY ?_ (r:=by conv=>lhs;simp[QV,hit,hwj])
         show jp _ _ _ _ _ _ _;exact again ⟨Nat.sub_lt_sub_left hjt (Nat.lt_succ_self j),j+1,hjt,rfl,hfj,by rw [qF hw6]; exact hI,by simp [Fr.only,Fr.look]⟩
      ·have e:nodes.drop j=[]:=by rw [List.drop_eq_nil_iff]; omega
       rw [e] at hfj;have hfj':none=fB:=hfj;rw [←hfj'] at hfk;simp only at hfk
       repeat first|refine QG ?_|refine QY ?_ (r:=by conv=>lhs;simp[QV,hjt,hw])
       show jp _ _ _ _ _ _ _;exact again ⟨Nat.sub_lt_sub_left hkt (Nat.lt_succ_self k),k+1,hkt,rfl,hfk,by rw [qF hw5]; exact hI,by simp [Fr.only,Fr.look]⟩
   ·have hke:k=lp.length:=by omega
    subst hke;rw [List.drop_length] at hfk;have hg:=(hend (by rw [←hfk]; rfl)).trans hfin;subst hg;have h42:=(hI.hd p4 (by simp)).trans h4H;have hgT:=(hI.hd pg (by simp)).trans hgH;have l4:=jy hw3 h42;have lg:=jy hw3 hgT;have b4:=fun u l => @jk T3 u l p4 l4
    have bg:=fun u l => @jk T3 u l pg lg
    have h4g:pg≠p4:=fun e=>by have:=hI.nd; simp [e] at this
    repeat first|refine QG ?_|refine QY ?_ (r:=by conv=>lhs;simp[QV,hkt,bg,b4,hgT,h42,h4g])
    rw [qF hw3];have hg4:(T3.upd p4 (4,[vl vint fi,vl vint fo,V.slice ot 0 ts.length,V.slice ob 0 bs.length])).get p4=some (4,[vl vint fi,vl vint fo,V.slice ot 0 ts.length,V.slice ob 0 bs.length]):=zl;refine Zp (xs:=[.agg [vl vint fi,vl vint fo, .slice ot 0 ts.length, .slice ob 0 bs.length], .int .i64 0]) (by simp [hg4]) ?_;have hall:=hI.all_lt hw3;obtain ⟨old,hd',al,cb,own,nd,lt⟩:=hI;have hw5:(T3.upd p4 (4,[vl vint fi,vl vint fo,V.slice ot 0 ts.length,V.slice ob 0 bs.length])).Wf:=jbk hw3 l4 (hw3.ids pg _ hgT);simp only [List.cons_append,List.nil_append] at nd lt hall;have nd2:=nd;simp only [List.nodup_cons,List.mem_cons,not_or] at nd2;obtain ⟨_,_,⟨a1,a2,a3,a4⟩,_,⟨k1,k2⟩,k3,nd3⟩:=nd2;refine qZ ⟨_,rfl,⟨old.1,fun o ho => ?_⟩,hw5,ot,ob,rs.flatten,ids, ?_, ?_, ?_, ?_, ?_, ?_⟩
    ·have:=lt p4 (by simp);rw [ju (by omega)]; exact old.2 o ho
    ·simp only [hgl]
    ·rw [ju (fun e=>a2 e.symm),hd' ot (by simp)]; exact htH
    ·rw [ju (fun e=>a3 e.symm)]; exact cb
    ·exact own.owl.mono fun o ho=>ju fun e=>a4 (e▸ho)
    ·exact List.Sublist.nodup (.cons _ (.cons _ (.cons _ (.cons _ (List.Sublist.refl _))))) nd
    ·intro o ho;have hm:o∈ph::oh::p4::pg::ot::ob::ids:=by
      simp only [List.mem_cons] at ho ⊢;exact .inr (.inr (.inr (.inr ho)))
     exact ⟨lt o hm,hall o hm⟩
end Go.Vw
namespace Go.Vw
open Go.Proofs Go.RowKit
attribute [-simp] List.map_set
theorem LicRunErr_v (e:Ss.Env) (f:Ss.Fn) (he:e.Fits) (hf:f.Fits) (hc:Ss.check e f=false):VPure Tryz.prog 9 [zk e,ql f] (.tuple [ql Ss.emptyFn,vint 6]):=by
 intro S;have cck:=Check_v e f he hf;generalize Ss.check e f=ck at *
 obtain ⟨⟨fi,fo⟩,ts,bs⟩:=f;obtain ⟨sg,im,gl,mu,me⟩:=e;have cck':VPure Tryz.prog 23 [.agg [vl jC sg,vint im,vl vint gl,vl V.bool mu, .bool me], .agg [vl vint fi,vl vint fo,vl vint ts,vl jb bs]] (.bool ck):=cck;refine qd (c:=jd Tryz.f9) Tryz.func9 rfl (by conv=>lhs; reduce) (by simp [Tryz.ntmps9]) ?_;rw [Tryz.ntmps9];intro hwf;refine QT ?_;refine QY ?_;refine QH 2 0 ?_;refine QH 3 1 ?_;refine QO [2,3,4,5] ?_;refine QK [2] ?_
 repeat first|refine QG ?_|refine QY ?_
 refine QT ?_;refine QP ?_;refine QL (cck') ?_;refine QM (by conv=>lhs;simp[QV,hc]) ?_;refine QN ?_
 repeat first|refine QG ?_|refine QY ?_ (r:=by conv=>lhs;simp[QV,hc])
 refine Zp (xs:=[.agg [.nils, .nils, .nils, .nils], .int .i64 6]) (by simp) ?_;exact zw hwf ((Ghost.tuple [] [_] (jaK _)).toB _) Jn (by rfl)
theorem LicP_v (e:Ss.Env) (f:Ss.Fn) (he:e.Fits) (hf:f.Fits):VPure Tryz.prog 9 [zk e,ql f] (.tuple [ql (Ss.licOut e f).1,vint (Ss.licOut e f).2]):=by
 cases hc:Ss.check e f with
 | false=>rw [Ss.licOut_f hc]; exact LicRunErr_v e f he hf hc
 | true =>
  rw [Ss.licOut_t hc];intro S;refine zG fun hwf=>qT ((LicRun_v S e f he hf hc).mono ?_)
  rintro r T ⟨r',rfl,hag,hwT,ot,ob,cells,ids,rfl,hot,hob,how,hnd,hids⟩;have hg:=fn_ghostD (fi:=(Ss.licF f).sig.inn) (fo:=(Ss.licF f).sig.out) how hob rfl hot rfl hnd;have hfin:Agree S (T.dels (ot::ob::ids)):=by
   refine ⟨by rw [YH]; exact hag.1,fun o ho => ?_⟩;rw [KE,if_neg]
   ·exact hag.2 o ho
   ·intro hm;have:=(hids o hm).1; omega
  exact zw hwf ((Ghost.tuple [] [_] hg).toB _) hfin (by simp [ql])
end Go.Vw
namespace Ss
def smallB:Fn:=⟨⟨[127,127],[127]⟩,[127,127],[⟨[0,1],[⟨258,0,[],[]⟩,⟨257,8,[0],[]⟩,⟨257,4,[0],[]⟩,⟨257,4,[1],[]⟩],⟨4,0,[],[0]⟩⟩]⟩
def smallB':Fn:=⟨⟨[127,127],[127]⟩,[127,127],[⟨[0,1],[⟨258,0,[],[]⟩,⟨257,8,[0],[]⟩,⟨257,4,[1],[]⟩],⟨4,0,[],[0]⟩⟩]⟩
def envB:Env:=⟨[],0,[],[],true⟩
end Ss
namespace Go.Vw
open Go.Proofs Go.RowKit
end Go.Vw
namespace Go.Vw
open Go.Proofs Go.RowKit
attribute [-simp] List.map_set
theorem loop14_v:VPure Tryz.prog 40 [] (ql Ss.smallL):=by
 intro S;have hr2:rep0 [V.int .i64 0] 2=[.int .i64 0, .int .i64 0]:=rfl;have hr3:rep0 [V.int .i64 0] 3=[.int .i64 0, .int .i64 0, .int .i64 0]:=rfl;have hr1:rep0 [V.int .i64 0] 1=[.int .i64 0]:=rfl;have hr4:rep0 [V.int .i64 0, .int .u64 0, .nils, .nils] 1=[.int .i64 0, .int .u64 0, .nils, .nils]:=rfl;have hr8:rep0 [V.int .i64 0, .int .u64 0, .nils, .nils] 2=[.int .i64 0, .int .u64 0, .nils, .nils, .int .i64 0, .int .u64 0, .nils, .nils]:=rfl;have hre:rep0 [V.int .i64 0, .nils] 1=[.int .i64 0, .nils]:=rfl;have hrb:rep0 [V.nils, .nils, .int .i64 0, .int .i64 0, .nils, .nils] 2=[.nils, .nils, .int .i64 0, .int .i64 0, .nils, .nils, .nils, .nils, .int .i64 0, .int .i64 0, .nils, .nils]:=rfl;refine qd (c:=jd Tryz.f40) Tryz.func40 rfl (by conv=>lhs; reduce) (by simp [Tryz.ntmps40]) ?_;rw [Tryz.ntmps40];intro hwf;refine QT ?_;refine QY ?_
 refine QT ?_;refine QY ?_ (r:=by conv=>lhs;simp[QV,hr2,hr1,hr4,hre])
 apply jo
 ·exact Reach.nilCell (k:=2) (i:=2) (by simp) (by rfl) (by rfl)
 simp only [List.set_cons_succ,List.set_cons_zero]
 apply jo
 ·exact Reach.nilCell (k:=2) (i:=3) (by simp) (by rfl) (by rfl)
 simp only [List.set_cons_succ,List.set_cons_zero]
 apply jo
 ·exact Reach.frzCellS (enc:=jg) (s:=4) (fun _=>rfl) qo (k:=4) (j:=2) (i:=1) [⟨258,0,[],[]⟩] (by decide) (by simp) (by simp) (by rfl) (by rfl) (by rfl)
 simp only [List.set_cons_succ,List.set_cons_zero]
 apply jo
 ·exact Reach.frzCell (k:=4) (j:=1) (i:=0) (by decide) (by simp) (by simp) (by rfl) (by rfl) (by rfl) (by rfl) (by rfl)
 simp only [List.set_cons_succ,List.set_cons_zero]
 apply jo
 ·exact Reach.nilCell (k:=3) (i:=1) (by simp) (by rfl) (by rfl)
 simp only [List.set_cons_succ,List.set_cons_zero]
 apply jo
 ·exact Reach.frzCellS (enc:=jf) (s:=2) (fun _=>rfl) qp (k:=4) (j:=3) (i:=4) [⟨1,[]⟩] (by decide) (by simp) (by simp) (by rfl) (by rfl) (by rfl)
 simp only [List.set_cons_succ,List.set_cons_zero]
 apply jo
 ·exact Reach.nilCell (k:=4) (i:=5) (by simp) (by rfl) (by rfl)
 simp only [List.set_cons_succ,List.set_cons_zero];refine QT ?_;refine QY ?_ (r:=by conv=>lhs;simp[QV,hr2,hr1,hr8,hre])
 apply jo
 ·exact Reach.nilCell (k:=7) (i:=2) (by simp) (by rfl) (by rfl)
 simp only [List.set_cons_succ,List.set_cons_zero]
 apply jo
 ·exact Reach.nilCell (k:=7) (i:=3) (by simp) (by rfl) (by rfl)
 simp only [List.set_cons_succ,List.set_cons_zero]
 apply jo
 ·exact Reach.frzCell (k:=7) (j:=5) (i:=6) (by decide) (by simp) (by simp) (by rfl) (by rfl) (by rfl) (by rfl) (by rfl)
 simp only [List.set_cons_succ,List.set_cons_zero]
 apply jo
 ·exact Reach.frzCell (k:=7) (j:=6) (i:=7) (by decide) (by simp) (by simp) (by rfl) (by rfl) (by rfl) (by rfl) (by rfl)
 simp only [List.set_cons_succ,List.set_cons_zero]
 apply jo
 ·exact Reach.frzCellS (enc:=jg) (s:=4) (fun _=>rfl) qo (k:=9) (j:=7) (i:=1) [⟨258,0,[],[]⟩,⟨106,0,[0,1],[2]⟩] (by decide) (by simp) (by simp) (by rfl) (by rfl) (by rfl)
 simp only [List.set_cons_succ,List.set_cons_zero]
 apply jo
 ·exact Reach.nilCell (k:=8) (i:=1) (by simp) (by rfl) (by rfl)
 simp only [List.set_cons_succ,List.set_cons_zero]
 apply jo
 ·exact Reach.frzCellS (enc:=jf) (s:=2) (fun _=>rfl) qp (k:=9) (j:=8) (i:=4) [⟨1,[]⟩] (by decide) (by simp) (by simp) (by rfl) (by rfl) (by rfl)
 simp only [List.set_cons_succ,List.set_cons_zero]
 apply jo
 ·exact Reach.nilCell (k:=9) (i:=0) (by simp) (by rfl) (by rfl)
 simp only [List.set_cons_succ,List.set_cons_zero]
 apply jo
 ·exact Reach.nilCell (k:=9) (i:=5) (by simp) (by rfl) (by rfl)
 simp only [List.set_cons_succ,List.set_cons_zero];refine QT ?_;refine QY ?_ (r:=by conv=>lhs;simp[QV,hr2,hr3,hrb])
 apply jo
 ·exact Reach.frzCell (k:=0) (j:=10) (i:=0) (by decide) (by simp) (by simp) (by rfl) (by rfl) (by rfl) (by rfl) (by rfl)
 simp only [List.set_cons_succ,List.set_cons_zero]
 apply jo
 ·exact Reach.nilCell (k:=0) (i:=1) (by simp) (by rfl) (by rfl)
 simp only [List.set_cons_succ,List.set_cons_zero]
 apply jo
 ·exact Reach.frzCell (k:=0) (j:=11) (i:=2) (by decide) (by simp) (by simp) (by rfl) (by rfl) (by rfl) (by rfl) (by rfl)
 simp only [List.set_cons_succ,List.set_cons_zero]
 apply jo
 ·exact Reach.frzCellS (enc:=jb) (s:=6) (fun _=>rfl) zM (k:=0) (j:=12) (i:=3) [⟨[0,1],[⟨258,0,[],[]⟩],⟨1,0,[⟨1,[]⟩],[]⟩⟩,⟨[],[⟨258,0,[],[]⟩,⟨106,0,[0,1],[2]⟩],⟨1,0,[⟨1,[]⟩],[]⟩⟩] (by decide) (by simp) (by simp) (by rfl) (by rfl) (by rfl)
 simp only [List.set_cons_succ,List.set_cons_zero]
 repeat first|refine QG ?_|refine QY ?_
 exact Zp (by simp; rfl) (ja hwf (by simp [Ss.smallL,vl]) rfl)
theorem envL_ghost (S:Store):Ghost (.agg [.nils, .int .i64 0, .nils, .nils, .bool false]) S (zk Ss.envL) S:=by
 refine Ghost.agg_nl rfl fun i x y hx hy => ?_
 match i,hx,hy with
 | 0,hx,hy=>cases hx; cases hy; exact .inr ⟨rfl,rfl⟩
 | 1,hx,hy=>cases hx; cases hy; exact .inl rfl
 | 2,hx,hy=>cases hx; cases hy; exact .inr ⟨rfl,rfl⟩
 | 3,hx,hy=>cases hx; cases hy; exact .inr ⟨rfl,rfl⟩
 | 4,hx,hy=>cases hx; cases hy; exact .inl rfl
theorem Alive14_v:VPure Tryz.prog 12 [] (.bool true):=by
 intro S;have hr1:rep0 [V.int .i64 0] 1=[.int .i64 0]:=rfl;have cs:=loop14_v;have cb:=LicP_v Ss.envL Ss.smallL Ss.envL_fits Ss.smallL_fits;have cp:=Porch_v Ss.smallL Ss.smallL_fits 1 [1] (by decide);rw [Ss.smallL_out] at cb;rw [Ss.smallL_porch] at cp;have hF':ql Ss.smallL' = .agg [vl vint [127,127],vl vint [],vl vint [127,127,127],vl jb [⟨[0,1],[⟨258,0,[],[]⟩,⟨106,0,[0,1],[2]⟩],⟨1,0,[⟨1,[]⟩],[]⟩⟩,⟨[],[⟨258,0,[],[]⟩],⟨1,0,[⟨1,[]⟩],[]⟩⟩]]:=rfl;obtain ⟨f1,f2,f3,f4,hF,o1,o2,o3,o4,c1,c2,c3,c4⟩ : ∃ f1 f2 f3 f4,ql Ss.smallL = .agg [f1,f2,f3,f4]∧f1.one=true∧f2.one=true∧f3.one=true∧f4.one=true∧f1.closed1=true∧f2.closed1=true∧f3.closed1=true∧f4.closed1=true:=⟨_,_,_,_,rfl,rfl,rfl,rfl,rfl,rfl,rfl,rfl,rfl⟩
 rw [hF] at cs cb cp;rw [hF'] at cb;refine QB (c:=jd Tryz.f12) Tryz.func12 Tryz.ntmps12 fun hwf=>?_
 refine QT ?_;refine QY ?_;refine QT ?_;refine QP ?_;refine jm rfl (cs) ?_;refine zr rfl (GhostArgs.one [] [_] (envL_ghost _)) cb ?_;refine QW ?_;refine QH 1 0 ?_;refine QT ?_;refine QP ?_;refine jm rfl (cs) ?_;refine QM (by conv=>lhs;simp[QV,hr1]) ?_;refine zr rfl (GhostArgs.one [_,_] [] (frz1 (k:=1) (len:=1) (by simp) rfl rfl rfl)) cp ?_;simp only [WH];refine QW ?_;have hix0 : ∀ S,qj 6 S (vl jb [⟨[0,1],[⟨258,0,[],[]⟩,⟨106,0,[0,1],[2]⟩],⟨1,0,[⟨1,[]⟩],[]⟩⟩,⟨[],[⟨258,0,[],[]⟩],⟨1,0,[⟨1,[]⟩],[]⟩⟩]) (.int .i64 0)=some (.ref (.agg [vl vint [0,1],vl jg [⟨258,0,[],[]⟩,⟨106,0,[0,1],[2]⟩], .int .i64 1, .int .i64 0,vl jf [⟨1,[]⟩],vl vint []])):=fun _=>rfl
 have hix1 : ∀ S,qj 6 S (vl jb [⟨[0,1],[⟨258,0,[],[]⟩,⟨106,0,[0,1],[2]⟩],⟨1,0,[⟨1,[]⟩],[]⟩⟩,⟨[],[⟨258,0,[],[]⟩],⟨1,0,[⟨1,[]⟩],[]⟩⟩]) (.int .i64 1)=some (.ref (.agg [vl vint [],vl jg [⟨258,0,[],[]⟩], .int .i64 1, .int .i64 0,vl jf [⟨1,[]⟩],vl vint []])):=fun _=>rfl
 repeat first|refine QG ?_|refine QY ?_ (r:=by conv=>lhs;simp[QV,hix0,hix1])
 exact ja (X := .bool true) hwf (by simp) rfl
end Go.Vw
namespace Go.Vw
open Go.Proofs Go.RowKit
def Own1 (T:Store) (ids:List Nat) (o n:Nat):Prop:=o∈ids∧n≤140737488355328 ∧ ∃ c,T.get o=some (1,c)∧c.length=n ∧ ∀ x∈c,x.closed1=true
theorem jcl {T:Store} {o n:Nat} {cells ys:List V} {ids i:List Nat} (hl:LimO T ids) (ho:T.get o=some (1,cells)) (d:OwL T (reps n [.c]) cells (ys.flatMap V.cells) i) (hn:ys.length=n) (hm:o∈ids):Own1 T ids o n:=by
 have hlen:cells.length=n:=by rw [d.len.1,qL]; simp
 have e:=zf (n:=n*1) (by rw [←KW]; exact d);refine ⟨hm, ?_,cells,ho,hlen,by rw [e.1]; exact d.closed⟩;have:=hl o hm _ _ ho;omega
theorem insD_inv2 {T:Store} {r x:List V} {ii ids:List Nat} (hl:LimO T ids) (hi : ∀ o∈ii,o∈ids) (h:OwL T insD r x ii) : ∃ (u v:V) (oa na ou nu:Nat),r=[u,v, .slice oa 0 na, .slice ou 0 nu]∧Own1 T ids oa na∧Own1 T ids ou nu:=by
 cases h with
 | c h1 h=>cases h with
  | c h2 h=>cases h with
   | s ho hs d h=>cases h with
    | s ho2 hs2 d2 h=>cases h with
     | nil=>exact ⟨_,_,_,_,_,_,rfl,jcl hl ho d rfl (hi _ (by simp)),jcl hl ho2 d2 rfl (hi _ (by simp))⟩
theorem edgeD_inv2 {T:Store} {r x:List V} {ii ids:List Nat} (hl:LimO T ids) (hi : ∀ o∈ii,o∈ids) (h:OwL T Ko r x ii) : ∃ (u:V) (oa na:Nat),r=[u, .slice oa 0 na]∧u.closed1=true∧Own1 T ids oa na:=by
 cases h with
 | c h1 h=>cases h with
  | s ho hs d h=>cases h with
   | nil=>exact ⟨_,_,_,rfl,h1,jcl hl ho d rfl (hi _ (by simp))⟩
theorem blkD_inv2 {T:Store} {r x:List V} {ii ids:List Nat} (hl:LimO T ids) (hi : ∀ o∈ii,o∈ids) (h:OwL T blkD r x ii) : ∃ (op np oc nc oe ne:Nat) (u a z:V) (cc ce xi xe:List V) (ci ei:List Nat),r=[.slice op 0 np, .slice oc 0 nc,u,a, .slice oe 0 ne,z]∧Own1 T ids op np∧u.closed1=true∧oc∈ids∧T.get oc=some (4,cc)∧OwL T (reps nc insD) cc xi ci∧(∀ o∈ci,o∈ids) ∧
  oe∈ids∧T.get oe=some (2,ce)∧OwL T (reps ne Ko) ce xe ei∧(∀ o∈ei,o∈ids):=by
 cases h with
 | s ho hs d h=>cases h with
  | s ho2 hs2 d2 h=>cases h with
   | c h1 h=>cases h with
    | c h2 h=>cases h with
     | s ho3 hs3 d3 h=>cases h with
      | c h3 h=>cases h with
       | nil=>exact ⟨_,_,_,_,_,_,_,_,_,_,_,_,_,_,_,rfl,jcl hl ho d rfl (hi _ (by simp)),h1,hi _ (by simp),ho2,d2,fun o ho=>hi _ (by simp [ho]),hi _ (by simp),ho3,d3,fun o ho=>hi _ (by simp [ho])⟩
theorem Shp.full {S T0 T1:Store} {ob n k:Nat} {ids:List Nat} (h:Shp S T0 ob n ids T1) (hk:k<n) : ∃ (cells:List V) (op np oc nc oe ne:Nat) (u:V) (cc ce:List V),T1.get ob=some (6,cells)∧cells[k*6]? = some (.slice op 0 np)∧cells[k*6+1]? = some (.slice oc 0 nc)∧cells[k*6+2]? = some u∧u.closed1=true∧cells[k*6+4]? = some (.slice oe 0 ne) ∧
  Own1 T1 ids op np∧oc∈ids∧T1.get oc=some (4,cc)∧oe∈ids∧T1.get oe=some (2,ce)∧nc≤140737488355328∧ne≤140737488355328∧(∀ j<nc, ∃ (oa na ou nu:Nat),cc[j*4+2]? = some (.slice oa 0 na)∧Own1 T1 ids oa na∧cc[j*4+3]? = some (.slice ou 0 nu)∧Own1 T1 ids ou nu) ∧
  ∀ q<ne, ∃ (u:V) (oa na:Nat),ce[q*2]? = some u∧u.closed1=true∧ce[q*2+1]? = some (.slice oa 0 na)∧Own1 T1 ids oa na:=by
 obtain ⟨cells,xs,h4,h5⟩:=h.own;obtain ⟨c1,r,c2,x1,x,x2,i1,ii,i2,rfl,hl,rfl,rfl,k1,k2,k3⟩:=h5.elem hk;obtain ⟨op,np,oc,nc,oe,ne,u,a,z,cc,ce,xi,xe,ci,ei,rfl,hop,hu,hoc,hcc,hci,hcs,hoe,hce,hei,hes⟩:=blkD_inv2 h.lim (fun o ho=>by simp [ho]) k2;refine ⟨_,op,np,oc,nc,oe,ne,u,cc,ce,h4,by have:=zC (m:=6) (p:=0) (c2:=c2) hl (r:=[.slice op 0 np, .slice oc 0 nc,u,a, .slice oe 0 ne,z]) rfl; simpa using this,zC (m:=6) (p:=1) hl rfl,zC (m:=6) (p:=2) hl rfl,hu,zC (m:=6) (p:=4) hl rfl,hop,hoc,hcc,hoe,hce, ?_, ?_,fun j hj => ?_,fun q hq => ?_⟩
 ·have h8:=h.lim oc hoc _ _ hcc;have h9:cc.length=nc*4:=by rw [hci.len.1,qL]; rfl
  omega
 ·have h8:=h.lim oe hoe _ _ hce;have h9:ce.length=ne*2:=by rw [hei.len.1,qL]; rfl
  omega
 ·obtain ⟨d1,s,d2,y1,y,y2,j1,jj,j2,rfl,hl2,rfl,rfl,m1,m2,m3⟩:=hci.elem hj;obtain ⟨u',v',oa,na,ou,nu,rfl,ha,hu2⟩:=insD_inv2 h.lim (fun o ho=>hcs o (by simp [ho])) m2;exact ⟨oa,na,ou,nu,zC (m:=4) (p:=2) hl2 rfl,ha,zC (m:=4) (p:=3) hl2 rfl,hu2⟩
 ·obtain ⟨d1,s,d2,y1,y,y2,j1,jj,j2,rfl,hl2,rfl,rfl,m1,m2,m3⟩:=hei.elem hq;obtain ⟨u',oa,na,rfl,hu',ha⟩:=edgeD_inv2 h.lim (fun o ho=>hes o (by simp [ho])) m2;exact ⟨u',oa,na,by have:=zC (m:=2) (p:=0) (c2:=d2) hl2 (r:=[u', .slice oa 0 na]) rfl; simpa using this,hu',zC (m:=2) (p:=1) hl2 rfl,ha⟩
def Shq (S T0:Store) (ob n:Nat) (ids:List Nat) (ot:Nat) (T1:Store):Prop:=Shp S T0 ob n ids T1∧T1.get ot=T0.get ot
theorem Shq.write {S T0 T1:Store} {ob n o s q ot:Nat} {ids:List Nat} {cs:List V} {u v:V} (h:Shq S T0 ob n ids ot T1) (hnd:(ot::ob::ids).Nodup) (hid : ∀ o∈ob::ids,S.nx≤o∧o<T0.nx) (ho:o∈ob::ids) (hg:T1.get o=some (s,cs)) (hq:cs[q]? = some u) (hu:u.closed1=true) (hv:v.closed1=true) :
  Shq S T0 ob n ids ot (T1.upd o (s,cs.set q v)):=by
 have hn:=List.nodup_cons.1 hnd;exact ⟨h.1.write hn.2 hid ho hg hq hu hv,by rw [ju (fun e=>hn.1 (by rw [e]; exact ho))]; exact h.2⟩
structure Tyq (S T0:Store) (ot n:Nat) (T1:Store):Prop where
 nx:T1.nx=T0.nx
 wf:T1.Wf
 old : ∀ o,o<S.nx→T1.get o=S.get o
 own : ∃ c,T1.get ot=some (1,c)∧c.length=n
theorem Tyq.write {S T0 T1:Store} {ot n q:Nat} {c:List V} {v:V} (h:Tyq S T0 ot n T1) (h1:S.nx≤ot) (h2:ot<T0.nx) (hg:T1.get ot=some (1,c)) (hv:v.closed1=true):Tyq S T0 ot n (T1.upd ot (1,c.set q v)):=by
 obtain ⟨k1,k2,k3,c',k4,k5⟩:=h;rw [hg] at k4
 cases k4
 have hcw:V.idsL (fun o=>decide (o<T1.nx)) (c.set q v)=true:=by
  have:=k2.ids ot _ hg;simp only [qS,List.all_eq_true] at this ⊢;intro x hx;rcases List.mem_or_eq_of_mem_set hx with hx | rfl
  ·exact this x hx
  ·exact Wr hv _
 exact ⟨k1,jbk k2 (by omega) hcw,fun o' ho'=>by rw [ju (by omega)]; exact k3 o' ho',_,zl,by rw [List.length_set]; exact k5⟩
end Go.Vw
