import Derived.Test.YtkfllaokjaldnaaGreatC21
import Derived.Test.YtkfllaokjaldnaaGreatC20
/- Part of the proof. -/
set_option linter.unusedVariables false
set_option linter.unusedSimpArgs false
set_option maxRecDepth 100000
set_option maxHeartbeats 8000000
namespace Go.Vw
open Go.Proofs Go.RowKit
attribute [-simp] List.map_set
theorem at9 (S:Store) (e:Ss.Env) (f:Ss.Fn) (he:e.Fits) (hf:f.Fits) (hc:Ss.check e f=true):b9 9 [qQ e,jM f] S fun r T => ∃ r',r = .tuple [r',cj 0]/\CopiedD S (Ss.licF f) r' T:=by
 have hs:=Ss.aa0 hc;have hd:=Ss.aa3 hc;have cck:=Check_v e f he hf;have crp:=fun S=>akz S f [] hf hs (by simp)
 have hgr:=Ss.graphic hc;have clo:=akb (Ss.succs f.blocks) (al3 hf);have hlp:G.loopsI (Ss.succs f.blocks)=Ss.lps f.blocks:=by rw [G.loopsI,hgr.right,if_pos rfl]; rfl
 rw [hlp] at clo;have hlpl:(Ss.lps f.blocks).length<=256:=by rw [<-hlp]; exact G.ami _
 have hlpn : ∀ l∈Ss.lps f.blocks,l.2.length<=256:=by rw [<-hlp]; exact G.af8 _
 have hlps : ∀ l∈Ss.lps f.blocks,l.2.Pairwise (· < ·):=fun l hl=>G.abi _ l hl
 have hlpb : ∀ l∈Ss.lps f.blocks, ∀ n∈l.2,n<f.blocks.length:=fun l hl n hn=>by
  obtain ⟨a1,a2,a3,a4⟩:=G.heads hgr.ok _ (a9 _) l hl;have:=a3 n hn;rw [Ss.aa7] at this; exact this
 have hL0:Ss.LOk e f f (Ss.homesI f):=Ss.LOk.start hc hf;have cho:=fun hw=>au2 f hf hs hd.pars hd.outs ⟨fun _=>none,0⟩ hw
 have csm:=jcx f hf;rw [hs] at csm;have hsm:=(Ss.aao f).1 hs;have hh:=hsm.1;simp only [Ss.Fn.heads,af,aj] at hh;obtain ⟨⟨⟨hh1,hh2⟩,_⟩,_⟩:=hh;simp only [Ss.replace_nil] at crp;have hcl0 : ∀ x∈[jM f],x.closed=true:=fun x hx=>by rw [aU] at hx; rw [hx]; rfl
 generalize hfin:Ss.licF f=fin at *
 generalize Ss.check e f=ck at *
 obtain ⟨⟨fi,fo⟩,ts,bs⟩:=f;obtain ⟨sg,im,gl,mu,me⟩:=e;simp only at *
 have cck':b8 23 [.agg [vl jn sg,cj im,vl cj gl,vl V.bool mu, .bool me], .agg [vl cj fi,vl cj fo,vl cj ts,vl je bs]] (.bool ck):=cck;have crp' : ∀ S,b9 24 [.agg [vl cj fi,vl cj fo,vl cj ts,vl je bs], .nils] S (CopiedD S ⟨⟨fi,fo⟩,ts,bs⟩):=fun S=>by
  refine Ke (GhostArgs.one [_] [] (Ghost.nl S)) ?_;exact crp S
 refine qB (c:=jc Tryz.f9) Tryz.func9 rfl (by conv=>lhs; reduce) (by simp [Tryz.ntmps9]) ?_;rw [Tryz.ntmps9];intro hwf;refine QY ?_;refine QH 2 0 ?_;refine QH 3 1 ?_;refine QO [2,3,4,5] ?_;refine QK [2] ?_
 refine bz ?_
 refine QP ?_;refine QL (cck') ?_;refine bJ hc ?_;refine QN ?_
 refine bD hc ?_
 refine QP ?_;refine jK rfl (crp' _) ?_;rintro X T ⟨hag0,hwT,ot,ob,cells,ids,rfl,hotg,hob,how,hnd,hids⟩;simp only at hotg how;refine as7 hwT ?_;refine QW ?_;have hag1:=hag0.1;rw [jR] at hag1 hids;simp only [aC,aM,a8,lid] at hag1 hids;have h4:T.get (lid S.nx 0)=some (4,[V.nils,V.nils,V.nils,V.nils]):=by
  rw [hag0.2 (lid S.nx 0) (by rw [jR]; simp [lid]),jB]; rfl
 have h4lt:lid S.nx 0<T.nx:=by simp only [lid]; omega
 have hwf0:=hwf;obtain ⟨rs0,rfl,hrl0,hrows0⟩:=jcH (fun x=>by rw [zk]; rfl) how;have g0 : ∀ o l,o<T.nx->(St T [] l).get o=T.get o:=fun o l ho=>by rw [jk ho]; rfl
 have hlt : ∀ o∈ot::ob::ids,o<T.nx:=fun o ho=>(hids o ho).2
 refine jcn fun hw0 => ?_
 generalize hT0:St T [] [some (4,[vl cj fi,vl cj fo,V.slice ot 0 ts.length,V.slice ob 0 bs.length])]=T0 at *
 have hinv:BInv S T0 [lid S.nx 0,lid T.nx 0,ot] ob bs T0 rs0 ids:=by
  subst hT0;refine ⟨⟨by rw [jR,lid]; have:=hag0.1; omega,fun o ho => ?_⟩,fun o _=>rfl, ?_, ?_, ?_, ?_, ?_⟩
  .rw [g0 o _ (by omega),hag0.2 o (by rw [jR,lid]; omega),jk ho]; rfl
  .intro o ho;simp only [aL,List.not_mem_nil,or_false] at ho;rcases ho with rfl | rfl | rfl
   .rw [g0 _ _ h4lt,h4]; rfl
   .rw [jB]; rfl
   .rw [g0 _ _ (hlt _ (by simp)),hotg]; rfl
  .rw [g0 _ _ (hlt ob (by simp))]; exact hob
  .exact hrows0.mono fun o ho=>g0 o _ (hlt o (by simp [ho]))
  .have hno : ∀ o,T.nx<=o->o∉ot::ob::ids:=fun o ho hm=>by have:=hlt o hm; omega
   refine List.nodup_cons.2 ⟨?_,List.nodup_cons.2 ⟨hno _ (by simp only [lid]; omega),hnd⟩⟩;simp only [lid] at h4lt ⊢;refine fun hm => ?_
   rcases aL.1 hm with h | hm
   .omega
   .have:=(hids _ hm).1; omega
  .intro o ho;simp only [bl,bm,aL] at ho;rcases ho with h | h | h | h | h
   .subst h; simp only [lid]; omega
   .subst h; simp only [lid]; omega
   .have:=(hids o (by simp [h])).1; omega
   .have:=(hids o (by simp [h])).1; omega
   .have:=(hids o (by simp [h])).1; omega
 have hgH:T0.get (lid T.nx 0)=some (4,[vl cj fi,vl cj fo,V.slice ot 0 ts.length,V.slice ob 0 bs.length]):=by rw [<-hT0,jB]; rfl
 have h4H:T0.get (lid S.nx 0)=some (4,[V.nils,V.nils,V.nils,V.nils]):=by rw [<-hT0,g0 _ _ h4lt]; exact h4
 have htH:T0.get ot=some (1,ts.map cj):=by rw [<-hT0,g0 _ _ (hlt _ (by simp))]; exact hotg
 generalize hp4:lid S.nx 0=p4 at *
 generalize hpg:lid T.nx 0=pg at *
 clear hT0;refine jbF hw0 ?_;have lg:=ju hw0 hgH;have bg:=fun u l => @jk T0 u l pg lg
 have ghf : ∀ l, ∃ S',GhostArgs [.agg [vl cj fi,vl cj fo, .slice ot 0 ts.length, .slice ob 0 bs.length]] (St T0 [] l) [jM ⟨⟨fi,fo⟩,ts,bs⟩] S':=fun l =>
  (hinv.st hw0 l).ghost (by simp) (by rw [jk (ju hw0 htH)]; exact htH) []
 have cSu:b9 26 [.agg [vl cj fi,vl cj fo, .slice ot 0 ts.length, .slice ob 0 bs.length]] (St T0 [] []) fun r T'=>r=vl (vl cj) (Ss.succs bs)/\T'=St T0 [] []:=by
  rw [qv hw0];exact avc hinv (fun l=>by
   obtain ⟨S',hg⟩:=ghf l;exact csm.thaw hg hcl0) hh2 (fun b hb=>((qn hs).2.2.1 b hb).2.1)
 refine bz ?_
 refine bQ bg hgH ?_;refine jK rfl cSu ?_;rintro X T9 ⟨rfl,rfl⟩;refine QL clo ?_;refine bK bg hgH ?_;refine QN ?_;have cHo:b9 27 [.agg [vl cj fi,vl cj fo, .slice ot 0 ts.length, .slice ob 0 bs.length]] (St T0 [] []) fun r T'=>r = .slice (lid T0.nx 0) 0 ts.length/\T'=St T0 [] [some (1,(Ss.homesI ⟨⟨fi,fo⟩,ts,bs⟩).map cj)]:=by
  obtain ⟨S',hg⟩:=ghf [];rw [qv hw0] at hg ⊢;have hwz:(⟨fun _=>none,0⟩:Store).Wf:=⟨fun _ _=>rfl,fun _ _ h=>by cases h⟩
  refine ((cho hwz).thaw hg hcl0 ?_).mono ?_
  .rintro r T' ⟨rfl,rfl⟩;refine ⟨rfl,fun o c hc x hx => ?_⟩;simp only [St,Nat.not_lt_zero,if_false,Nat.sub_zero] at hc
   cases o with
   | zero =>
    simp only [aK,Option.join_some,ay] at hc;subst hc;obtain ⟨y,_,rfl⟩:=bi.1 hx
    rfl
   | succ k=>simp at hc
  .rintro r T' ⟨r0,T9,⟨rfl,rfl⟩,rfl,rfl⟩;exact ⟨by simp [jbK,WG,lid],aso hw0 _⟩
 refine bz ?_
 refine bQ bg hgH ?_;refine jK rfl cHo ?_;rintro X T9 ⟨rfl,rfl⟩;refine bK bg hgH ?_;refine QN ?_;have hhl:(Ss.homesI ⟨⟨fi,fo⟩,ts,bs⟩).length=ts.length:=Ss.ach _;generalize hhm0:Ss.homesI ⟨⟨fi,fo⟩,ts,bs⟩=hm0 at *
 refine jcn fun hw1 => ?_
 have hnx1:T0.nx<=(St T0 [] [some (1,hm0.map cj),some (1,[V.slice (lid T0.nx 0) 0 ts.length])]).nx:=by rw [jR,lid]; omega
 have hin1:=(hinv.ext hw0 hnx1 fun o ho=>by rw [jk ho]; rfl).hold (jj:=[lid T0.nx 1,lid T0.nx 0]) (fun o ho=>by
  simp only [aL,List.not_mem_nil,or_false] at ho;rcases ho with rfl | rfl<;>(rw [jB]; rfl)) (by
  have hall:=hinv.all_lt hw0;refine List.nodup_append.2 ⟨by simp [lid],hinv.nd,fun a ha b hb => ?_⟩;have:=hall b hb;simp only [aL,List.not_mem_nil,or_false,lid] at ha;rcases ha with rfl | rfl<;>omega) (fun o ho=>by
  have:=hinv.old.1;simp only [aL,List.not_mem_nil,or_false,lid] at ho;rcases ho with rfl | rfl<;>omega)
 have hphH:(St T0 [] [some (1,hm0.map cj),some (1,[V.slice (lid T0.nx 0) 0 ts.length])]).get (lid T0.nx 1)=some (1,[V.slice (lid T0.nx 0) 0 ts.length]):=by rw [jB]; rfl
 have hohH:(St T0 [] [some (1,hm0.map cj),some (1,[V.slice (lid T0.nx 0) 0 ts.length])]).get (lid T0.nx 0)=some (1,hm0.map cj):=by rw [jB]; rfl
 have hgH1:(St T0 [] [some (1,hm0.map cj),some (1,[V.slice (lid T0.nx 0) 0 ts.length])]).get pg=some (4,[vl cj fi,vl cj fo,V.slice ot 0 ts.length,V.slice ob 0 bs.length]):=by rw [jk (ju hw0 hgH)]; exact hgH
 have h4H1:(St T0 [] [some (1,hm0.map cj),some (1,[V.slice (lid T0.nx 0) 0 ts.length])]).get p4=some (4,[V.nils,V.nils,V.nils,V.nils]):=by rw [jk (ju hw0 h4H)]; exact h4H
 have htH1:(St T0 [] [some (1,hm0.map cj),some (1,[V.slice (lid T0.nx 0) 0 ts.length])]).get ot=some (1,ts.map cj):=by rw [jk (ju hw0 htH)]; exact htH
 simp only [bl,bm] at hin1;generalize St T0 [] [some (1,hm0.map cj),some (1,[V.slice (lid T0.nx 0) 0 ts.length])]=T1 at *
 generalize lid T0.nx 1=ph at *
 generalize lid T0.nx 0=oh at *
 clear hinv hgH h4H htH ghf cSu cHo hnx1 bg lg hw0;obtain ⟨lp,hlpe⟩ : ∃ lp,lp=Ss.lps bs:=⟨_,rfl⟩
 rw [<-hlpe] at hlpl hlpn hlps hlpb ⊢
 refine bz ?_
 refine bX [4,6,7,9] (fun c σ S' => ∃ (g:Ss.Fn) (hm:List Int) (H:Store) (rs:List (List V)) (ids:List Nat),Ss.LOk ⟨sg,im,gl,mu,me⟩ ⟨⟨fi,fo⟩,ts,bs⟩ g hm/\BInv S H [ph,oh,p4,pg,ot] ob g.blocks S' rs ids/\H.get ph=some (1,[.slice oh 0 ts.length])/\H.get oh=some (1,hm.map cj)/\H.get p4=some (4,[V.nils,V.nils,V.nils,V.nils])/\H.get pg=some (4,[vl cj fi,vl cj fo,V.slice ot 0 ts.length,V.slice ob 0 bs.length])/\H.get ot=some (1,ts.map cj)/\c=Ss.wt g/\σ=[(4, .ptr p4 0),(6, .ptr pg 0),(7,vl qd lp),(9, .ptr ph 0)]) (Ss.wt ⟨⟨fi,fo⟩,ts,bs⟩) ?_ ?_
 .exact ⟨_,hm0,T1,rs0,ids,hL0,hin1,hphH,hohH,h4H1,hgH1,htH1,rfl,by simp [Fr.oy,Fr.lk]⟩
 .rintro c σ T2 ⟨g,hm,H,rs,ids,hL,hI,hph,hoh,h4H,hgH,htH,rfl,rfl⟩;clear hin1 hphH hohH hgH1 h4H1 htH1 hw1 hL0;refine jcn fun hw2=>jbF hw2 ?_
  have hgl:g.blocks.length=bs.length:=by
   have:=congrArg List.length hL.succs;simpa [Ss.succs] using this
  have hst:=fun p n i hf=>Ss.LOk.step hL (p:=p) (n:=n) (i:=i) (by rw [<-hlpe]; exact hf)
  have hend:=fun hf=>Ss.LOk.end hL (by rw [<-hlpe]; exact hf)
  have hfg:=hL.fits;have hsg:=hL.sig;have htg:=hL.types;have hcg:=hL.chk;have hmN:hm.length=ts.length:=hL.len;obtain ⟨⟨gi,go'⟩,gt,gb⟩:=g;simp only at hsg htg hgl hI
  cases hsg
  subst gt;have hsmg:=Ss.aa0 hcg;have hdg:=Ss.aa3 hcg;obtain ⟨_,hgb1,hgb2,_⟩:=qn hsmg;have cPo:=fun hd nd h=>ajb ⟨⟨fi,fo⟩,ts,gb⟩ hfg hd nd h
  have hpoe : ∀ hd nd,Ss.porchF ⟨⟨fi,fo⟩,ts,gb⟩ hd nd=Ss.porch gb hd nd:=fun hd nd=>by rw [Ss.porchF,if_pos hsmg]
  simp only at hgb1 hgb2;have hph2:=(hI.hd ph (by simp)).trans hph;have hoh2:=(hI.hd oh (by simp)).trans hoh
  refine bz ?_
  obtain ⟨hk2,hhk2⟩ : ∃ q,q=Ss.first gb (Ss.tabOf hm) lp:=⟨_,rfl⟩
  rw [<-hhk2] at hst hend;refine bX [4,6,7,9,34,35,36] (fun c σ S' => ∃ (k:Nat),k<=lp.length/\c=lp.length-k/\Ss.first gb (Ss.tabOf hm) (lp.drop k)=hk2/\BInv S H [ph,oh,p4,pg,ot] ob gb S' rs ids/\σ=[(4, .ptr p4 0),(6, .ptr pg 0),(7,vl qd lp),(9, .ptr ph 0),(34,vl qd lp),(35,cu lp.length),(36,cu k)]) lp.length ?_ ?_
  .exact ⟨0,by omega,rfl,hhk2.symm,by rw [qv hw2]; exact hI,by simp [Fr.oy,Fr.lk]⟩
  .clear hI hw2 hph2 hoh2;rintro c σ T3 ⟨k,hk,rfl,hfk,hI,rfl⟩;refine jcn fun hw3=>jbF hw3 ?_
   by_cases hkt:k<lp.length
   .have hw:=jg hkt (by omega);have hlm:lp[k]∈lp:=ah hkt;have hln:=hlpn _ hlm;have hls:=hlps _ hlm;have hlb:=hlpb _ hlm;rw [am hkt,Ss.first] at hfk;obtain ⟨⟨hed,nodes⟩,hlk⟩ : ∃ l,lp[k]=l:=⟨_,rfl⟩
    rw [hlk] at hfk hln hls hlb;simp only at hfk hln hls hlb;refine jal (b':=T3.nx) hI.old.1 ?_;have hgT:=(hI.hd pg (by simp)).trans hgH;have lg:=ju hw3 hgT;have bg:=fun u l => @jk T3 u l pg lg
    refine bR hkt ?_;refine QT ?_;refine jC rfl rfl rfl ?_;refine QT ?_;refine jz rfl ?_;refine QT ?_;refine jL 3 rfl rfl ?_;have hoi : ∀ S',jF 2 S' (vl qd lp) (V.int .i64 (k:Int))=some (.ref (.agg [cu hed,vl cu nodes])):=fun S'=>by
     have:=zl (S:=S') (enc:=qd) (l:=lp) (k := .i64) (i:=k) (x:=(hed,nodes)) (s:=2) rfl (by rw [ac hkt,hlk]);simpa [qd] using this
    refine bR hoi ?_;have hwfS:=hwf;clear hwf;have hwf:=hw3;refine QH 11 0 ?_;have hnm:nodes.map Int.ofNat=nodes.map Int.ofNat:=rfl;have cPo2 : ∀ l,b9 28 [.agg [vl cj fi,vl cj fo, .slice ot 0 ts.length, .slice ob 0 gb.length],cj (hed:Int),vl cj (nodes.map Int.ofNat)] (St T3 [] l) fun r T'=>r=porchV (Ss.porch gb (hed:Int) (nodes.map Int.ofNat))/\T'=St T3 [] l:=fun l=>by
     have hIl:=hI.st hw3 l;have htl:=(hIl.hd ot (by simp)).trans htH;obtain ⟨S',hg⟩:=hIl.ghost (fi:=fi) (fo:=fo) (ts:=ts) (ot:=ot) (by simp) htl [cj (hed:Int),vl cj (nodes.map Int.ofNat)];have:=cPo (hed:Int) (nodes.map Int.ofNat) (by rw [aI]; omega);rw [hpoe] at this;refine this.thawF hg (fun x hx => ?_) ?_ ?_
     .simp only [aL,List.not_mem_nil,or_false] at hx;rcases hx with rfl | rfl | rfl<;>rfl
     .cases Ss.porch gb (hed:Int) (nodes.map Int.ofNat)<;>rfl
     .intro n
      cases Ss.porch gb (hed:Int) (nodes.map Int.ofNat)<;>rfl
    rw [hgl, <-aoy] at cPo2;obtain ⟨po,hpo⟩ : ∃ po,po=Ss.porch gb (hed:Int) (nodes.map Int.ofNat):=⟨_,rfl⟩
    rw [<-hpo] at hfk cPo2;refine bQ bg hgT ?_;refine jK rfl (cPo2 _) ?_;rintro X T9 ⟨rfl,rfl⟩
    cases po with
    | none =>
     simp only at hfk;simp only [porchV];refine QW ?_
     refine bD hw ?_
     show jx _ _ _ _ _ _ _;exact again ⟨ao hkt (aW k),k+1,hkt,rfl,hfk,hI.st hw3 _,by simp [Fr.oy,Fr.lk]⟩
    | some p =>
     simp only at hfk;obtain ⟨pn,bp,hpn,_⟩:=Ss.acj hpo.symm;subst hpn;rw [bq] at hfk;simp only [porchV];refine bV ?_
     have hI4:=hI.st hw3 [none];clear cPo2 hoi;generalize St T3 [] [none]=T4 at hI4 ⊢;obtain ⟨fB,hfB⟩ : ∃ q,q=Ss.firstB gb (Ss.tabOf hm) nodes nodes:=⟨_,rfl⟩
     rw [<-hfB] at hfk;have hnmem : ∀ z:Int,z∈nodes.map Int.ofNat ↔ ∃ u∈nodes,(u:Int)=z:=fun z=>bi
     have hsrt:(nodes.map Int.ofNat).Pairwise (· < ·):=List.pairwise_map.2 (hls.imp fun h=>by simpa using h);refine bX [4,6,7,9,12,14,34,35,36,53,54,55] (fun c σ S' => ∃ (j:Nat),j<=nodes.length/\c=nodes.length-j/\Ss.firstB gb (Ss.tabOf hm) nodes (nodes.drop j)=fB/\BInv S H [ph,oh,p4,pg,ot] ob gb S' rs ids/\σ=[(4, .ptr p4 0),(6, .ptr pg 0),(7,vl qd lp),(9, .ptr ph 0),(12,cu pn),(14, .func 29 [(V.agg [cu hed,vl cu nodes]).ref, .ptr ph 0]),(34,vl qd lp),(35,cu lp.length),(36,cu k),(53,vl cu nodes),(54,cu nodes.length),(55,cu j)]) nodes.length ?_ ?_
     .exact ⟨0,by omega,rfl,hfB.symm,hI4,by simp [Fr.oy,Fr.lk]⟩
     .clear hI hw3 hI4 hwf hgT lg bg;rintro c σ T5 ⟨j,hj,rfl,hfj,hI,rfl⟩;refine jcn fun hw5=>jbF hw5 ?_
      by_cases hjt:j<nodes.length
      .have hwj:=jg hjt (by omega);rw [am hjt,Ss.firstB] at hfj;obtain ⟨n,hn⟩ : ∃ n,nodes[j]=n:=⟨_,rfl⟩
       have hnb:n<gb.length:=by rw [hgl]; exact hn▸hlb _ (ah hjt)
       rw [hn] at hfj;have hgd:gb.getD n default=gb[n]:=by rw [ag,ac hnb]; rfl
       rw [hgd] at hfj;obtain ⟨op,oc,oe,rc,re,hrow,hlen,hcell,_,hgc,_,_,_,_,_,_,hcode⟩:=hI.row hw5 hnb;have hcn:=(hgb2 _ (ah hnb)).2.2.2;have hgT:=(hI.hd pg (by simp)).trans hgH;have lg:=ju hw5 hgT;have bg:=fun u l => @jk T5 u l pg lg
       have hIb:=hI.cb;have lb:=ju hw5 hIb;have bb:=fun u l => @jk T5 u l ob lb
       have lc:=ju hw5 hgc;have bc:=fun u l => @jk T5 u l oc lc
       obtain ⟨cells,hcells⟩ : ∃ c,c=rs.flatten:=⟨_,rfl⟩
       obtain ⟨cc,hcce⟩ : ∃ c,c=rc.flatten:=⟨_,rfl⟩
       rw [<-hcells] at hrow hlen hcell hIb;rw [<-hcce] at hgc;have hcl1:n*6+1<cells.length:=(ae.1 hcell).1;have hgl':n<bs.length:=by omega
       have hcodeb:=hdg.args _ (ah hnb);have hfb:=(hfg.2.2.2 _ (ah hnb)).2.1;obtain ⟨⟨ps,code,tm⟩,hbn⟩ : ∃ b,gb[n]=b:=⟨_,rfl⟩
       simp only [hbn] at hcode hcodeb hfj hcn hrow hcell hfb;have hcl0:code.length<2^62:=by omega
       have hcv:cells[n*6+1] = .slice oc 0 code.length:=by rw [ac hcl1] at hcell; exact Option.some.inj hcell
       repeat first|refine QG ?_|refine QY ?_ (r:=by conv=>lhs;simp[QV,hjt,hn,bg,hgT,hIb,bb,hcv,hcl1,hgl',bc,hgc])
       have hI5:=hI;rw [<-qv hw5] at hI5;clear bc bb bg lc lb lg hrow hlen;refine bX [4,6,7,9,12,14,16,34,35,36,53,54,55,64,65,66] (fun c σ S' => ∃ (i:Nat),i<=code.length/\c=code.length-i/\(∀ (q:Nat) (hq:q<code.length),q<i->Ss.canMove (Ss.tabOf hm) nodes code[q]=false)/\BInv S H [ph,oh,p4,pg,ot] ob gb S' rs ids/\σ=[(4, .ptr p4 0),(6, .ptr pg 0),(7,vl qd lp),(9, .ptr ph 0),(12,cu pn),(14, .func 29 [(V.agg [cu hed,vl cu nodes]).ref, .ptr ph 0]),(16,cu n),(34,vl qd lp),(35,cu lp.length),(36,cu k),(53,vl cu nodes),(54,cu nodes.length),(55,cu j),(64, .slice oc 0 code.length),(65,cu code.length),(66,cu i)]) code.length ?_ ?_
       .exact ⟨0,by omega,rfl,fun q hq h=>by omega,hI5,by simp [Fr.oy,Fr.lk]⟩
       .clear hI hI5 hw5 hgT hIb hgc hcode;rintro c σ T6 ⟨i,hi,rfl,hno,hI,rfl⟩;refine jcn fun hw6=>jbF hw6 ?_
        by_cases hit:i<code.length
        .have hwi:=jg hit (by omega);obtain ⟨op',oc',oe',rc',re',hrow,hlen,hcell',hgop,hgc,hr4,hrcl,_,_,_,_,hcode⟩:=hI.row hw6 hnb;rw [<-hcells] at hrow hlen hcell';simp only [hbn] at hcode hcell';have hoc:oc'=oc:=by
          have:=hcell'.symm.trans hcell;injection this with h; injection h
         subst hoc;obtain ⟨oa,ou,hx4,hoa,hou⟩:=hcode i hit;have hgT:=(hI.hd pg (by simp)).trans hgH;have lg:=ju hw6 hgT;have bg:=fun u l => @jk T6 u l pg lg
         have lc:=ju hw6 hgc;have bc:=fun u l => @jk T6 u l oc' lc
         have la:=ju hw6 hoa;have ba:=fun u l => @jk T6 u l oa la
         have lu:=ju hw6 hou;have bu:=fun u l => @jk T6 u l ou lu
         have hrfl:rc'.flatten.length=code.length*4:=by rw [zp hr4,hrcl]; simp [hbn]
         obtain ⟨cc',hcc'⟩ : ∃ c,c=rc'.flatten:=⟨_,rfl⟩
         rw [<-hcc'] at hgc hx4 hrfl;have hc4:i*4+4<=cc'.length:=by omega
         have hxm:=ah hit;have hxa:=hcodeb _ hxm;have hxf:=hfb.2 _ hxm;obtain ⟨⟨xo,xn,xa,xs⟩,hxe⟩ : ∃ x,code[i]=x:=⟨_,rfl⟩
         have hcanx:Ss.canMove (Ss.tabOf hm) nodes code[i]=(Ss.pure xo&&xa.all fun a => !decide (Ss.tabOf hm a∈nodes.map Int.ofNat)):=by rw [hxe]; rfl
         rw [hxe] at hx4 hoa hou hxa hxf;simp only at hx4 hoa hou hxa;have cpu:=aye xo hxf.1
         refine bO hit bc hgc hx4 hc4 ?_
         refine QP ?_;refine QL cpu ?_;have skip:Ss.canMove (Ss.tabOf hm) nodes code[i]=false -> ∀ (q:Nat) (hq:q<code.length),q<i+1->Ss.canMove (Ss.tabOf hm) nodes code[q]=false:=fun h q hq hlt=>by
          rcases bt q i with h1 | h1
          .exact hno q hq h1
          .have:q=i:=by omega
           subst this; exact h
         cases hpu:Ss.pure xo with
         | false =>
          rw [hpu,aV] at hcanx;refine QW ?_
          refine bD hwi ?_
          show jx _ _ _ _ _ _ _;exact again ⟨ao hit (aW i),i+1,hit,rfl,skip hcanx,hI.st hw6 _,by simp [Fr.oy,Fr.lk]⟩
         | true =>
          rw [hpu,aE] at hcanx;obtain ⟨S6,hS6⟩ : ∃ S6,S6=St T6 [] [some (4,[V.int .i64 xo,V.int .u64 xn,V.slice oa 0 xa.length,V.slice ou 0 xs.length])]:=⟨_,rfl⟩
          have hph6:S6.get ph=some (1,[.slice oh 0 hm.length]):=by
           have:=(hI.hd ph (by simp)).trans hph;rw [hS6,jk (ju hw6 this),hmN]; exact this
          have hoh6:S6.get oh=some (1,hm.map cj):=by
           have:=(hI.hd oh (by simp)).trans hoh;rw [hS6,jk (ju hw6 this)]; exact this
          have cAny:=ayi (S:=S6) (l:=xa) (oc:=oa) (fid:=29) (caps:=[.ref (.agg [cj (hed:Int),vl cj (nodes.map Int.ofNat)]), .ptr ph 0]) (p:=fun a=>decide (Ss.tabOf hm a∈nodes.map Int.ofNat)) rfl (by have:=hxf.2.2.1.1; simp only at this; omega) (fun v hv=>by
           obtain ⟨v0,v1⟩:=hxa v hv;obtain ⟨m,rfl⟩ : ∃ m:Nat,v=(m:Int):=⟨v.toNat,by omega⟩
           have hm1:m<hm.length:=by omega
           have:=ax3 S6 (h:=(hed:Int)) hph6 hoh6 hsrt (by rw [aI]; omega) hm1;have e1:Ss.tabOf hm (m:Int)=hm[m]:=by rw [Ss.tabOf,bq,ag,ac hm1]; rfl
           rw [e1]; exact this) (by rw [hS6,jk la]; exact hoa)
          rw [<-aoy,hS6] at cAny;refine QZ ?_;refine jK rfl cAny ?_;rintro X T9 ⟨rfl,rfl⟩;clear cAny hph6 hoh6 hS6
          cases hany:xa.any fun a=>decide (Ss.tabOf hm a∈nodes.map Int.ofNat) with
          | true =>
           have hcf:Ss.canMove (Ss.tabOf hm) nodes code[i]=false:=by
            rw [hcanx,List.all_eq_not_any_not];simp only [Bool.not_not];rw [hany]; rfl
           refine QW ?_
           refine bD hwi ?_
           show jx _ _ _ _ _ _ _;exact again ⟨ao hit (aW i),i+1,hit,rfl,skip hcf,hI.st hw6 _,by simp [Fr.oy,Fr.lk]⟩
          | false =>
           have hct:Ss.canMove (Ss.tabOf hm) nodes code[i]=true:=by
            rw [hcanx,List.all_eq_not_any_not];simp only [Bool.not_not];rw [hany]; rfl
           have hfi:code.findIdx? (Ss.canMove (Ss.tabOf hm) nodes)=some i:=List.findIdx?_eq_some_iff_getElem.2 ⟨hit,hct,fun q hq=>by rw [hno q (by omega) hq]; simp⟩;rw [hfi] at hfj;simp only at hfj;rw [<-hfj] at hfk;simp only at hfk;obtain ⟨hpb,hnb2,hib,o,hne,houts,hoN,hmv,hL',hwt⟩:=hst pn n i hfk.symm;refine bV ?_
           clear skip hcanx hct hno hfi hfj cpu hfk hany hend hst;obtain ⟨S7,hS7⟩ : ∃ S7,S7=St T6 [] [some (4,[V.int .i64 xo,V.int .u64 xn,V.slice oa 0 xa.length,V.slice ou 0 xs.length])]:=⟨_,rfl⟩
           have hI7:=hI.st hw6 [some (4,[V.int .i64 xo,V.int .u64 xn,V.slice oa 0 xa.length,V.slice ou 0 xs.length])];have gpx:S7.get (lid T6.nx 0)=some (4,[V.int .i64 xo,V.int .u64 xn,V.slice oa 0 xa.length,V.slice ou 0 xs.length]):=by rw [hS7,jB]; rfl
           have g7 : ∀ q,q<T6.nx->S7.get q=T6.get q:=fun q hq=>by rw [hS7,jk hq]; rfl
           have hall6:=hI.all_lt hw6;have hpxne : ∀ q,q<T6.nx->lid T6.nx 0≠q:=fun q hq=>by simp only [lid]; omega
           rw [<-hS7] at hI7 ⊢;refine jcn fun hw7 => ?_
           obtain ⟨oc2,rc2,oa2,ou2,c1,c2,c3,c4,c5,c6,c7,c8,c9,c10,c11,c12,c13,hcut⟩:=hI7.cut hw7 hnb (i:=i) (by rw [hbn]; exact hit);simp only [hbn,hxe] at c1 c4 c5 c6 c7 hcut;rw [<-hcells] at c1;have hoc2:oc'=oc2:=by
            have:=hcell'.symm.trans c1;injection this with h; injection h
           subst hoc2;have hcc2:cc'=rc2.flatten:=by
            rw [g7 oc' lc,hgc] at c2;injection c2 with h; injection h
           have hi2:i<rc2.length:=(ae.1 c5).1;have e5:=ZX (k:=i) c3 hi2;rw [<-hcc2,hx4,(ae.1 c5).2] at e5;have e6:oa=oa2/\ou=ou2:=by simpa using e5
           obtain ⟨rfl,rfl⟩:=e6;have hcall:=atr c2 c3 hi2;rw [c4, <-hwi] at hcall;have gp7:=(hI7.hd pg (by simp)).trans hgH;have gb7:=hI7.cb;rw [<-hcells] at gb7;obtain ⟨hpgoc,hpgob⟩:=c9 pg (by simp);have hok : ∀ S':Store,S'.get pg=some (4,[vl cj fi,vl cj fo,V.slice ot 0 ts.length,V.slice ob 0 bs.length])->(∃ c,S'.get ob=some (6,c))->(y1 pg (4,[vl cj fi,vl cj fo,V.slice ot 0 ts.length,V.slice ob 0 bs.length])).Sub S'/\(y2 pg (4,[vl cj fi,vl cj fo,V.slice ot 0 ts.length,V.slice ob 0 bs.length]) ob (6,cells)).Shp S':=fun S' h1 h2=>by
            obtain ⟨c,h2⟩:=h2;exact ⟨aqi h1,anr h1 rfl h2 rfl⟩
           have hz1 := @ap6 pg (4,[vl cj fi,vl cj fo,V.slice ot 0 ts.length,V.slice ob 0 bs.length]);have hz2 := @agy pg ob (4,[vl cj fi,vl cj fo,V.slice ot 0 ts.length,V.slice ob 0 bs.length]) (6,cells);have hz3 := @ac0 pg ob (4,[vl cj fi,vl cj fo,V.slice ot 0 ts.length,V.slice ob 0 bs.length]) (6,cells) (Ne.symm hpgob);have hcv2:cells[n*6+1] = .slice oc' 0 code.length:=by rw [ac hcl1] at hcell'; exact Option.some.inj hcell'
           have hnbI:(n:Int)<(bs.length:Int):=by omega
           clear hx4 hcode bg bc ba bu hgT;refine bZ (y1 pg (4,[vl cj fi,vl cj fo,V.slice ot 0 ts.length,V.slice ob 0 bs.length])) (y2 pg (4,[vl cj fi,vl cj fo,V.slice ot 0 ts.length,V.slice ob 0 bs.length]) ob (6,cells)) [89,20093] ?_ (hz:=hok _ gp7 ⟨_,gb7⟩) (r:=by conv=>lhs; simp [QV,hz1,hz2,hz3,gp7,gb7,hcv2,hcl1,hgl',hnbI]);have k1:(S7.upd oc' (4,(rc2.eraseIdx i).flatten)).get pg=some (4,[vl cj fi,vl cj fo,V.slice ot 0 ts.length,V.slice ob 0 bs.length]):=by rw [qw hpgoc]; exact gp7
           have k2:(S7.upd oc' (4,(rc2.eraseIdx i).flatten)).get ob=some (6,cells):=by rw [qw c8]; exact gb7
           refine jcs rfl hcall (by rfl) (by rfl) (hok _ k1 ⟨_,k2⟩) ?_;refine QM (by conv=>lhs;simp[QV,hz1,hz2,hz3,hcl1,hgl',hnbI]) ?_;refine zd rfl (by conv=>lhs; simp [QV,k2,hcl1]) (hok _ (by rw [qw hpgob]; exact k1) ⟨_,JR⟩) ?_;refine QN ?_;simp only [<-hcells] at hcut;obtain ⟨T8,hT8⟩ : ∃ T8,T8=(S7.upd oc' (4,(rc2.eraseIdx i).flatten)).upd ob (6,cells.set (n*6+1) (.slice oc' 0 (code.length-1))):=⟨_,rfl⟩
           rw [<-hT8];obtain ⟨rs2,ids2,hset2,hI8⟩:=hcut T8 hT8;have k8 : ∀ q,q≠oc'->q≠ob->T8.get q=S7.get q:=fun q h1 h2=>by rw [hT8,qw h2,qw h1]
           have kh8 : ∀ q∈[ph,oh,p4,pg,ot],T8.get q=H.get q:=fun q hq=>by
            obtain ⟨h1,h2⟩:=c9 q hq;rw [k8 q h1 h2]; exact hI7.hd q hq
           have lb6:=hall6 ob (by simp);have gpx8:=(k8 _ (hpxne _ lc) (hpxne _ lb6)).trans gpx;have goa8:=(k8 oa c10 c12).trans c6;have gou8:=(k8 ou c11 c13).trans c7;have gp8:=(kh8 pg (by simp)).trans hgH;have hpxpg:=hpxne pg (hall6 pg (by simp));generalize lid T6.nx 0=px at *
           have hpb:pn<gb.length:=hpb;have hp8:pn<(gb.set n (Ss.cutAt ⟨ps,code,tm⟩ i)).length:=by rw [List.length_set]; exact hpb
           have hg8:(gb.set n (Ss.cutAt ⟨ps,code,tm⟩ i))[pn]'hp8=gb[pn]:=List.getElem_set_ne (Ne.symm hne) _;refine jcn fun hw8 => ?_
           obtain ⟨ocp,cellsp,d1,d2,d3,d4,d5,d6,d7,d8,d9,hpush⟩:=hI8.push hw8 hp8 (x:=⟨xo,xn,xa,xs⟩) goa8 gou8;simp only [hg8] at d1 d3 hpush;have hcp:=(hgb2 _ (ah hpb)).2.2.2;obtain ⟨⟨pps,pcode,ptm⟩,hbp⟩ : ∃ b,gb[pn]=b:=⟨_,rfl⟩
           simp only [hbp] at d1 d3 hpush hcp;obtain ⟨fc2,hfc2⟩ : ∃ c,c=rs2.flatten:=⟨_,rfl⟩
           have gb8:=hI8.cb;rw [<-hfc2] at d1 gb8;simp only [<-hfc2] at hpush;have hpc1:pn*6+1<fc2.length:=(ae.1 d1).1;have hcvp:fc2[pn*6+1] = .slice ocp 0 pcode.length:=by rw [ac hpc1] at d1; exact Option.some.inj d1
           have hpl:pn<bs.length:=by omega
           have hplI:(pn:Int)<(bs.length:Int):=by omega
           have lg8:=ju hw8 gp8;have lb8:=ju hw8 gb8;have lx8:=ju hw8 gpx8;have lp8:=ju hw8 d2;have bg8:=fun u l => @jk T8 u l pg lg8
           have bb8:=fun u l => @jk T8 u l ob lb8
           have bx8:=fun u l => @jk T8 u l px lx8
           have bp8:=fun u l => @jk T8 u l ocp lp8
           have hpgob8:=hpgob;have hpxob:=hpxne ob lb6;have hpgocp:=(d5 pg (by simp)).1;have hpxocp:px≠ocp:=by
            obtain ⟨_,ocq,_,_,_,_,_,hcq,_,hgcq,_⟩:=hI.row hw6 hpb;rw [<-hcells] at hcq;have e1:fc2[pn*6+1]? = cells[pn*6+1]? := by rw [hfc2,hset2,aQ (by omega)]
            rw [d1,hcq] at e1;have e2:ocp=ocq:=by injection e1 with h; injection h
            rw [e2]; exact hpxne _ (ju hw6 hgcq)
           clear hcv hcall hT8 hset2 hcut hz1 hz2 hz3 hok k1 k2 k8 hcv2 gp7 gb7 gpx c1 c2 c5 c6 c7 e5 hcl1 hrow hlen hcell hcell' hgc hgop hrfl hI hI7 hpxne hcells hoa hou hw7 hw6 lu la lc lg;have hb64:(pcode.length+1)*64<=140737488355328:=by omega
           have hb1:pcode.length+1<=140737488355328:=by omega
           have hr4:rep0 [V.int .i64 0, .int .u64 0, .nils, .nils] 1=[.int .i64 0, .int .u64 0, .nils, .nils]:=rfl;have d3':=d3.symm;have hdl : ∀ l,(St T8 [] l).del ocp=St T8 [(ocp,none)] l:=fun l=>by rw [ad5 lp8]; rfl
           have hup : ∀ c l,(St T8 [(ocp,none)] l).upd ob c=St T8 [(ocp,none),(ob,some c)] l:=fun c l=>by rw [qS lb8]; simp [uSet,d4,Ne.symm d4]
           refine jbF hw8 ?_;have hok : ∀ u l,uGet u pg (T8.get pg)=some (4,[vl cj fi,vl cj fo,V.slice ot 0 ts.length,V.slice ob 0 bs.length])->uGet u px (T8.get px)=some (4,[V.int .i64 xo,V.int .u64 xn,V.slice oa 0 xa.length,V.slice ou 0 xs.length])->(∃ c,uGet u ob (T8.get ob)=some (6,c))->(y2 pg (4,[vl cj fi,vl cj fo,V.slice ot 0 ts.length,V.slice ob 0 bs.length]) px (4,[V.int .i64 xo,V.int .u64 xn,V.slice oa 0 xa.length,V.slice ou 0 xs.length])).Sub (St T8 u l)/\(y2 pg (4,[vl cj fi,vl cj fo,V.slice ot 0 ts.length,V.slice ob 0 bs.length]) ob (6,fc2)).Shp (St T8 u l):=fun u l h1 h2 h3=>by
            obtain ⟨c,h3⟩:=h3;exact ⟨axy ((bg8 u l).trans h1) ((bx8 u l).trans h2),anr ((bg8 u l).trans h1) rfl ((bb8 u l).trans h3) rfl⟩
           have hz1 := @agy pg px (4,[vl cj fi,vl cj fo,V.slice ot 0 ts.length,V.slice ob 0 bs.length]) (4,[V.int .i64 xo,V.int .u64 xn,V.slice oa 0 xa.length,V.slice ou 0 xs.length]);have hz2 := @ac0 pg px (4,[vl cj fi,vl cj fo,V.slice ot 0 ts.length,V.slice ob 0 bs.length]) (4,[V.int .i64 xo,V.int .u64 xn,V.slice oa 0 xa.length,V.slice ou 0 xs.length]) hpxpg;have hz3 := @agy pg ob (4,[vl cj fi,vl cj fo,V.slice ot 0 ts.length,V.slice ob 0 bs.length]) (6,fc2);have hz4 := @ac0 pg ob (4,[vl cj fi,vl cj fo,V.slice ot 0 ts.length,V.slice ob 0 bs.length]) (6,fc2) (Ne.symm hpgob8)
           refine bz ?_
           refine bZ (y2 pg (4,[vl cj fi,vl cj fo,V.slice ot 0 ts.length,V.slice ob 0 bs.length]) px (4,[V.int .i64 xo,V.int .u64 xn,V.slice oa 0 xa.length,V.slice ou 0 xs.length])) (y2 pg (4,[vl cj fi,vl cj fo,V.slice ot 0 ts.length,V.slice ob 0 bs.length]) ob (6,fc2)) [104] ?_ (hz:=hok [] _ gp8 gpx8 ⟨_,gb8⟩) (r:=by conv=>lhs; simp [QV,hz1,hz2,hz3,hz4,bg8,bb8,bx8,gp8,gb8,gpx8,hcvp,hpl,hplI,hpc1]);refine zd rfl (by conv=>lhs; simp [QV,hz2,hr4]) (hok [] _ gp8 gpx8 ⟨_,gb8⟩) ?_;refine zd rfl (by conv=>lhs; simp [QV,bp8,d2,hb64,hb1,hdl,d3']) (hok [(ocp,none)] _ (by simp [uGet,hpgocp]; exact gp8) (by simp [uGet,hpxocp]; exact gpx8) ⟨fc2,by simp [uGet,d4]; exact gb8⟩) ?_;refine QM (by conv=>lhs;simp[QV,hz1,hz2,hz3,hz4,bg8,bb8,gp8,gb8,hpl,hplI,hpc1]) ?_;refine zd rfl (by conv=>lhs; simp [QV,hup,bb8,gb8,hpc1,d4]) (hok [(ocp,none),(ob,some (6,fc2.set (pn*6+1) (.slice (lid T8.nx 1) 0 (pcode.length+1))))] _ (by simp [uGet,hpgocp,hpgob8]; exact gp8) (by simp [uGet,hpxocp,hpxob]; exact gpx8) ⟨_,by simp [uGet,d4]; rfl⟩) ?_
           refine QN ?_;obtain ⟨T9,hT9⟩ : ∃ T9,T9=St T8 [(ocp,none),(ob,some (6,fc2.set (pn*6+1) (.slice (lid T8.nx 1) 0 (pcode.length+1))))] [some (4,[V.int .i64 xo,V.int .u64 xn,V.slice oa 0 xa.length,V.slice ou 0 xs.length]),some (4,cellsp++[V.int .i64 xo,V.int .u64 xn,V.slice oa 0 xa.length,V.slice ou 0 xs.length])]:=⟨_,rfl⟩
           obtain ⟨rs3,ids3,hset3,hI9⟩:=hpush T9 (lid T8.nx 1) (by simp [lid]) (by rw [hT9,jR,lid]; omega) (fun q hq h1 h2=>by rw [hT9,jk hq]; simp [uGet,h1,h2]) (by rw [hT9,jB]; rfl) (by rw [hT9,jk lb8]; simp [uGet,d4]);rw [<-hT9];have k9 : ∀ q,q<T8.nx->q≠ocp->q≠ob->T9.get q=T8.get q:=fun q hq h1 h2=>by rw [hT9,jk hq]; simp [uGet,h1,h2]
           have gph8:=(kh8 ph (by simp)).trans hph;have goh8:=(kh8 oh (by simp)).trans hoh;have gph9:=(hI9.hd ph (by simp)).trans gph8;have goh9:=(hI9.hd oh (by simp)).trans goh8;have gou9:=(k9 ou (ju hw8 gou8) d7 d9).trans gou8;have gpx9:=(k9 px lx8 hpxocp hpxob).trans gpx8;simp only [hbn,hxe] at houts;have hmv:Ss.moveAt gb pn n i=(gb.set n (Ss.cutAt gb[n] i)).set pn (Ss.cC gb[pn] gb[n].code[i]):=hmv;simp only [hbn,hxe,hbp] at hmv;subst houts;refine jcn fun hw9 => ?_
           have hnd9:=hI9.nd;simp only [bl,bm,List.nodup_cons,aL,not_or] at hnd9;obtain ⟨⟨e1,_⟩,⟨e2,e3,e4,_⟩,_⟩:=hnd9;clear hT9 hok hz1 hz2 hz3 hz4 hpush hdl hup bg8 bb8 bx8 bp8 d1 d2 hcvp hpc1 gb8 gpx8 goa8 gou8;have gou9':T9.get ou=some (1,[V.int .i64 (o:Int)]):=gou9;have hnpx:ou≠px:=fun e=>by rw [e,gpx9] at gou9'; cases gou9'
           have hohpx:oh≠px:=fun e=>by rw [e,gpx9] at goh9; cases goh9
           have hohou:ou≠oh:=fun e=>by
            have h1:=hI8.nd;simp only [bl,bm,List.nodup_cons,aL,not_or] at h1;exact h1.2.1.2.1 e
           have hoI:(o:Int)<(hm.length:Int):=by omega
           have hoT:o<ts.length:=by omega
           have hoTI:(o:Int)<(ts.length:Int):=by omega
           have hml:(hm.map cj).length=hm.length:=aI _;obtain ⟨HM,hHM⟩ : ∃ q,q=hm.map cj:=⟨_,rfl⟩
           rw [<-hHM] at goh9 hml;have hoH:o<HM.length:=by omega
           have hok : ∀ S':Store,S'.get px=some (4,[V.int .i64 xo,V.int .u64 xn,V.slice oa 0 xa.length,V.slice ou 0 1])->(∃ c,S'.get oh=some (1,c))->S'.get ou=some (1,[V.int .i64 (o:Int)])->(y1 px (4,[V.int .i64 xo,V.int .u64 xn,V.slice oa 0 xa.length,V.slice ou 0 1])).Sub S'/\(y3 px (4,[V.int .i64 xo,V.int .u64 xn,V.slice oa 0 xa.length,V.slice ou 0 1]) oh (1,HM) ou (1,[V.int .i64 (o:Int)])).Shp S':=fun S' h1 h2 h3=>by
            obtain ⟨c,h2⟩:=h2;exact ⟨aqi h1,ayl h1 rfl h2 rfl h3 rfl⟩
           have hz1 := @ap6 px (4,[V.int .i64 xo,V.int .u64 xn,V.slice oa 0 xa.length,V.slice ou 0 1]);have hz2 := @ay7 px oh ou (4,[V.int .i64 xo,V.int .u64 xn,V.slice oa 0 xa.length,V.slice ou 0 1]) (1,HM) (1,[V.int .i64 (o:Int)]);have hz3 := @awg px oh ou (4,[V.int .i64 xo,V.int .u64 xn,V.slice oa 0 xa.length,V.slice ou 0 1]) (1,HM) (1,[V.int .i64 (o:Int)]) hohpx;have hz4 := @av0 px oh ou (4,[V.int .i64 xo,V.int .u64 xn,V.slice oa 0 xa.length,V.slice ou 0 1]) (1,HM) (1,[V.int .i64 (o:Int)]) hnpx hohou;have gpx9':T9.get px=some (4,[V.int .i64 xo,V.int .u64 xn,V.slice oa 0 xa.length,V.slice ou 0 1]):=gpx9;refine bZ (y1 px (4,[V.int .i64 xo,V.int .u64 xn,V.slice oa 0 xa.length,V.slice ou 0 1])) (y3 px (4,[V.int .i64 xo,V.int .u64 xn,V.slice oa 0 xa.length,V.slice ou 0 1]) oh (1,HM) ou (1,[V.int .i64 (o:Int)])) [110,112,114] ?_ (hz:=hok _ gpx9' ⟨_,goh9⟩ gou9') (r:=by conv=>lhs; simp [QV,hz1,hz2,hz3,hz4,gpx9',gph9,goh9,gou9',hoT,hoTI,hoH])
           refine zd rfl (by conv=>lhs; simp [QV,goh9,hoT,hoTI,hoH]) (hok _ (by rw [qw (Ne.symm hohpx)]; exact gpx9') ⟨_,JR⟩ (by rw [qw hohou]; exact gou9')) ?_;refine QN ?_;have hI10:=hI9.held hw9 (o:=oh) (by simp) (1,HM.set o (cj pn));have hHs:HM.set o (cj pn)=(hm.set o (pn:Int)).map cj:=by rw [hHM,List.map_set]
           refine bz ?_
           show jx _ _ _ _ _ _ _;exact again ⟨hwt,Ss.moved ⟨⟨fi,fo⟩,ts,gb⟩ pn n i,hm.set o (pn:Int),T8.upd oh (1,HM.set o (cj pn)),rs3,ids3,hL',(by show BInv S _ _ ob (Ss.moveAt gb pn n i) _ rs3 ids3; rw [hmv]; exact hI10),(by rw [qw e1]; exact gph8),(by rw [JR,hHs]),(by rw [qw (Ne.symm e2),kh8 p4 (by simp)]; exact h4H),(by rw [qw (Ne.symm e3)]; exact gp8),(by rw [qw (Ne.symm e4),kh8 ot (by simp)]; exact htH),rfl,by simp [Fr.oy,Fr.lk]⟩
        .have hie:i=code.length:=by omega
         subst hie;have hfi:code.findIdx? (Ss.canMove (Ss.tabOf hm) nodes)=none:=List.findIdx?_eq_none_iff.2 fun x hx=>by
          obtain ⟨q,hq,rfl⟩:=a7 hx;exact hno q hq hq
         rw [hfi] at hfj;simp only at hfj
         refine bF hit hwj ?_
         show jx _ _ _ _ _ _ _;exact again ⟨ao hjt (aW j),j+1,hjt,rfl,hfj,by rw [qv hw6]; exact hI,by simp [Fr.oy,Fr.lk]⟩
      .have e:nodes.drop j=[]:=by rw [aH]; omega
       rw [e] at hfj;have hfj':none=fB:=hfj;rw [<-hfj'] at hfk;simp only at hfk
       refine bF hjt hw ?_
       show jx _ _ _ _ _ _ _;exact again ⟨ao hkt (aW k),k+1,hkt,rfl,hfk,by rw [qv hw5]; exact hI,by simp [Fr.oy,Fr.lk]⟩
   .have hke:k=lp.length:=by omega
    subst hke;rw [List.drop_length] at hfk;have hg:=(hend (by rw [<-hfk]; rfl)).trans hfin;subst hg;have h42:=(hI.hd p4 (by simp)).trans h4H;have hgT:=(hI.hd pg (by simp)).trans hgH;have l4:=ju hw3 h42;have lg:=ju hw3 hgT;have b4:=fun u l => @jk T3 u l p4 l4
    have bg:=fun u l => @jk T3 u l pg lg
    have h4g:pg≠p4:=fun e=>by have:=hI.nd; simp [e] at this
    refine bB hkt bg b4 hgT h42 h4g ?_
    rw [qv hw3];have hg4:(T3.upd p4 (4,[vl cj fi,vl cj fo,V.slice ot 0 ts.length,V.slice ob 0 bs.length])).get p4=some (4,[vl cj fi,vl cj fo,V.slice ot 0 ts.length,V.slice ob 0 bs.length]):=JR;refine Ye (xs:=[.agg [vl cj fi,vl cj fo, .slice ot 0 ts.length, .slice ob 0 bs.length], .int .i64 0]) (by simp [hg4]) ?_;have hall:=hI.all_lt hw3;obtain ⟨old,hd',al,cb,own,nd,lt⟩:=hI;have hw5:(T3.upd p4 (4,[vl cj fi,vl cj fo,V.slice ot 0 ts.length,V.slice ob 0 bs.length])).Wf:=ax9 hw3 l4 (hw3.ids pg _ hgT);simp only [bl,bm] at nd lt hall;have nd2:=nd;simp only [List.nodup_cons,aL,not_or] at nd2;obtain ⟨_,_,⟨a1,a2,a3,a4⟩,_,⟨k1,k2⟩,k3,nd3⟩:=nd2;refine zM ⟨_,rfl,⟨old.1,fun o ho => ?_⟩,hw5,ot,ob,rs.flatten,ids, ?_, ?_, ?_, ?_, ?_, ?_⟩
    .have:=lt p4 (by simp);rw [qw (by omega)]; exact old.2 o ho
    .simp only [hgl]
    .rw [qw (fun e=>a2 e.symm),hd' ot (by simp)]; exact htH
    .rw [qw (fun e=>a3 e.symm)]; exact cb
    .exact own.owl.mono fun o ho=>qw fun e=>a4 (e▸ho)
    .exact List.Sublist.nodup (.cons _ (.cons _ (.cons _ (.cons _ (List.Sublist.refl _))))) nd
    .intro o ho;have hm:o∈ph::oh::p4::pg::ot::ob::ids:=by
      simp only [aL] at ho ⊢;exact .inr (.inr (.inr (.inr ho)))
     exact ⟨lt o hm,hall o hm⟩
theorem aig (e:Ss.Env) (f:Ss.Fn) (he:e.Fits) (hf:f.Fits) (hc:Ss.check e f=false):b8 9 [qQ e,jM f] (.tuple [jM Ss.emptyFn,cj 6]):=by
 intro S;have cck:=Check_v e f he hf;generalize Ss.check e f=ck at *
 obtain ⟨⟨fi,fo⟩,ts,bs⟩:=f;obtain ⟨sg,im,gl,mu,me⟩:=e;have cck':b8 23 [.agg [vl jn sg,cj im,vl cj gl,vl V.bool mu, .bool me], .agg [vl cj fi,vl cj fo,vl cj ts,vl je bs]] (.bool ck):=cck;refine qB (c:=jc Tryz.f9) Tryz.func9 rfl (by conv=>lhs; reduce) (by simp [Tryz.ntmps9]) ?_;rw [Tryz.ntmps9];intro hwf;refine QY ?_;refine QH 2 0 ?_;refine QH 3 1 ?_;refine QO [2,3,4,5] ?_;refine QK [2] ?_
 refine bz ?_
 refine QP ?_;refine QL (cck') ?_;refine bJ hc ?_;refine QN ?_
 refine bD hc ?_
 refine Ye (xs:=[.agg [.nils, .nils, .nils, .nils], .int .i64 6]) (by simp) ?_;exact qI hwf ((Ghost.tp [] [_] (aij _)).toB _) zE (by rfl)
theorem aoi (e:Ss.Env) (f:Ss.Fn) (he:e.Fits) (hf:f.Fits):b8 9 [qQ e,jM f] (.tuple [jM (Ss.licOut e f).1,cj (Ss.licOut e f).2]):=by
 cases hc:Ss.check e f with
 | false=>rw [Ss.asa hc]; exact aig e f he hf hc
 | true =>
  rw [Ss.acf hc];intro S;refine Jm fun hwf=>zq ((at9 S e f he hf hc).mono ?_)
  rintro r T ⟨r',rfl,hag,hwT,ot,ob,cells,ids,rfl,hot,hob,how,hnd,hids⟩;have hg:=ac9 (fi:=(Ss.licF f).sig.inn) (fo:=(Ss.licF f).sig.out) how hob rfl hot rfl hnd;have hfin:Agree S (T.dels (ot::ob::ids)):=by
   refine ⟨by rw [jdh]; exact hag.1,fun o ho => ?_⟩;rw [Za,if_neg]
   .exact hag.2 o ho
   .intro hm;have:=(hids o hm).1; omega
  exact qI hwf ((Ghost.tp [] [_] hg).toB _) hfin (by simp [jM])
end Go.Vw
namespace Ss
open Go.Vw.G
def smallL:Fn:=⟨⟨[127,127],[]⟩,[127,127,127],[⟨[0,1],[⟨258,0,[],[]⟩],⟨1,0,[⟨1,[]⟩],[]⟩⟩,⟨[],[⟨258,0,[],[]⟩,⟨106,0,[0,1],[2]⟩],⟨1,0,[⟨1,[]⟩],[]⟩⟩]⟩
def smallL':Fn:=⟨⟨[127,127],[]⟩,[127,127,127],[⟨[0,1],[⟨258,0,[],[]⟩,⟨106,0,[0,1],[2]⟩],⟨1,0,[⟨1,[]⟩],[]⟩⟩,⟨[],[⟨258,0,[],[]⟩],⟨1,0,[⟨1,[]⟩],[]⟩⟩]⟩
def envL:Env:=⟨[],0,[],[],false⟩
theorem jas:defsOf smallL=some [⟨true,0, -1⟩,⟨true,0, -1⟩,⟨true,1,1⟩]:=by decide
theorem afo:defsOf smallL'=some [⟨true,0, -1⟩,⟨true,0, -1⟩,⟨true,0,1⟩]:=by decide
theorem Ks:succs smallL.blocks=[[1],[1]]:=by decide
theorem jcy:succs smallL'.blocks=[[1],[1]]:=by decide
theorem aiy:cD [[1],[1]]=[-1,0]:=by decide
theorem ae2:rings smallL.blocks [[1],[1]]=false:=by
 simp [rings,smallL,tickB,ringM,ringW,List.range_succ]
theorem ag4:shapeOk smallL=true:=by
 have h1:Go.Vw.G.right [[1],[1]]=true:=by decide
 have h2:Go.Vw.G.ordI [[1],[1]]=[0,1]:=by decide
 have h3:Go.Vw.G.nats [[1],[1]]=[[1],[1]]:=rfl;simp only [shapeOk,Ks,h1,h2,h3,ae2]
 decide
theorem Kt:check envL smallL=true:=by
 have h1:checkHead envL smallL=true:=by decide
 have hn:cB 106=([127,127],127,true):=by decide
 have hf : ∀ n o,form envL 106 n o=⟨[127,127],[127],0,true⟩:=fun n o=>by
  have e0:form envL 106 n o=formNum envL 106:=by simp [form]
  rw [e0,formNum,hn]
 have hf2 : ∀ n o,form envL 258 n o=⟨[],[],0,true⟩:=fun n o=>by simp [form]
 simp only [check,h1,jas,ag4,aE];rw [Ks,aiy];simp [smallL,cH,cx,insOk,hf,hf2,insOut,cv,asks,Go.Vw.eqF,termOk,termHead,termTail,branches,askOk,edgeOk]
 decide
theorem aho:froms [[1],[1]]=[[],[0,1]]:=by decide
theorem jar:loopsTo (rNear [[1],[1]]) (froms [[1],[1]]) 2 2=[(1,[1])]:=by
 have hr:rNear [[1],[1]]=[-1,0]:=by decide
 have hb:backs [-1,0] 1 [0,1]=[1]:=by decide
 have hB : ∀ n,Bk [[],[0,1]] 1 [1] n->n=1:=by
  intro n h
  induction h with
  | start hn=>simpa using hn
  | step _ hn _ ih=>exact absurd ih hn
 have hl:loopIn [[],[0,1]] 1 [1] 2=[false,true]:=by
  have h0 : ¬ (0=1\/Bk [[],[0,1]] 1 [1] 0):=by
   rintro (h | h)
   .omega
   .have:=hB 0 h; omega
  have h1 : ¬ Bk [[],[0,1]] 1 [1] 0:=fun h=>h0 (.inr h)
  simp [loopIn,List.range_succ,h1]
 have hb0:backs [-1,0] 0 ([[],[0,1]].getD 0 [])=[]:=rfl;have hb1:backs [-1,0] 1 ([[],[0,1]].getD 1 [])=[1]:=hb;rw [hr,aho,loopsTo,hb1,loopsTo,hb0,loopsTo,hl];simp [picked]
theorem aln:lps smallL.blocks=[(1,[1])]:=by
 have h3:nats [[1],[1]]=[[1],[1]]:=rfl;rw [lps,Ks,h3]; exact jar
theorem aio:lps smallL'.blocks=[(1,[1])]:=by
 have h3:nats [[1],[1]]=[[1],[1]]:=rfl;rw [lps,jcy,h3]; exact jar
theorem ahg:smallL.small=true:=aa0 Kt
theorem af1:porchF smallL 1 [1]=some 0:=by
 rw [porchF,if_pos ahg]; decide
theorem ahr:first smallL.blocks (homeOf smallL) (lps smallL.blocks)=some (0,1,1):=by
 rw [aln];have e:homeOf smallL=fun v=>(([⟨true,0, -1⟩,⟨true,0, -1⟩,⟨true,1,1⟩]:List Def).getD v.toNat default).block:=by funext v; rw [homeOf,jas]; rfl
 rw [e]; decide
theorem jcz:first smallL'.blocks (homeOf smallL') (lps smallL'.blocks)=none:=by
 rw [aio];have e:homeOf smallL'=fun v=>(([⟨true,0, -1⟩,⟨true,0, -1⟩,⟨true,0,1⟩]:List Def).getD v.toNat default).block:=by funext v; rw [homeOf,afo]; rfl
 rw [e]; decide
theorem al5:licF smallL=smallL':=by
 have h:=ac8 Kt ahr;have e:moved smallL 0 1 1=smallL':=by decide
 rw [e] at h;rw [<-h];exact aap _ jcz
theorem ak9:licOut envL smallL=(smallL',0):=by rw [acf Kt,al5]
theorem ace:smallL.Fits:=by
 simp [smallL,Fn.Fits,Sig.Fits,Ints,Block.Fits,Ins.Fits,Term.Fits,Edge.Fits,I64]
theorem an2:envL.Fits:=by
 simp [envL,Env.Fits,Ints,I64]
end Ss
namespace Go.Vw
open Go.Proofs Go.RowKit
attribute [-simp] List.map_set
theorem at0:b8 40 [] (jM Ss.smallL):=by
 intro S;have hr2:rep0 [V.int .i64 0] 2=[.int .i64 0, .int .i64 0]:=rfl;have hr3:rep0 [V.int .i64 0] 3=[.int .i64 0, .int .i64 0, .int .i64 0]:=rfl;have hr1:rep0 [V.int .i64 0] 1=[.int .i64 0]:=rfl;have hr4:rep0 [V.int .i64 0, .int .u64 0, .nils, .nils] 1=[.int .i64 0, .int .u64 0, .nils, .nils]:=rfl;have hr8:rep0 [V.int .i64 0, .int .u64 0, .nils, .nils] 2=[.int .i64 0, .int .u64 0, .nils, .nils, .int .i64 0, .int .u64 0, .nils, .nils]:=rfl;have hre:rep0 [V.int .i64 0, .nils] 1=[.int .i64 0, .nils]:=rfl;have hrb:rep0 [V.nils, .nils, .int .i64 0, .int .i64 0, .nils, .nils] 2=[.nils, .nils, .int .i64 0, .int .i64 0, .nils, .nils, .nils, .nils, .int .i64 0, .int .i64 0, .nils, .nils]:=rfl;refine qB (c:=jc Tryz.f40) Tryz.func40 rfl (by conv=>lhs; reduce) (by simp [Tryz.ntmps40]) ?_;rw [Tryz.ntmps40];intro hwf;refine QY ?_
 refine QY ?_ (r:=by conv=>lhs;simp[QV,hr2,hr1,hr4,hre])
 apply jv
 .exact Reach.nilCell (k:=2) (i:=2) (by simp) (by rfl) (by rfl)
 simp only [aq,au]
 apply jv
 .exact Reach.nilCell (k:=2) (i:=3) (by simp) (by rfl) (by rfl)
 simp only [aq,au]
 apply jv
 .exact Reach.frzCellS (enc:=js) (s:=4) (fun _=>rfl) Jg (k:=4) (j:=2) (i:=1) [⟨258,0,[],[]⟩] (by decide) (by simp) (by simp) (by rfl) (by rfl) (by rfl)
 simp only [aq,au]
 apply jv
 .exact Reach.frzCell (k:=4) (j:=1) (i:=0) (by decide) (by simp) (by simp) (by rfl) (by rfl) (by rfl) (by rfl) (by rfl)
 simp only [aq,au]
 apply jv
 .exact Reach.nilCell (k:=3) (i:=1) (by simp) (by rfl) (by rfl)
 simp only [aq,au]
 apply jv
 .exact Reach.frzCellS (enc:=ji) (s:=2) (fun _=>rfl) zT (k:=4) (j:=3) (i:=4) [⟨1,[]⟩] (by decide) (by simp) (by simp) (by rfl) (by rfl) (by rfl)
 simp only [aq,au]
 apply jv
 .exact Reach.nilCell (k:=4) (i:=5) (by simp) (by rfl) (by rfl)
 simp only [aq,au];refine QY ?_ (r:=by conv=>lhs;simp[QV,hr2,hr1,hr8,hre])
 apply jv
 .exact Reach.nilCell (k:=7) (i:=2) (by simp) (by rfl) (by rfl)
 simp only [aq,au]
 apply jv
 .exact Reach.nilCell (k:=7) (i:=3) (by simp) (by rfl) (by rfl)
 simp only [aq,au]
 apply jv
 .exact Reach.frzCell (k:=7) (j:=5) (i:=6) (by decide) (by simp) (by simp) (by rfl) (by rfl) (by rfl) (by rfl) (by rfl)
 simp only [aq,au]
 apply jv
 .exact Reach.frzCell (k:=7) (j:=6) (i:=7) (by decide) (by simp) (by simp) (by rfl) (by rfl) (by rfl) (by rfl) (by rfl)
 simp only [aq,au]
 apply jv
 .exact Reach.frzCellS (enc:=js) (s:=4) (fun _=>rfl) Jg (k:=9) (j:=7) (i:=1) [⟨258,0,[],[]⟩,⟨106,0,[0,1],[2]⟩] (by decide) (by simp) (by simp) (by rfl) (by rfl) (by rfl)
 simp only [aq,au]
 apply jv
 .exact Reach.nilCell (k:=8) (i:=1) (by simp) (by rfl) (by rfl)
 simp only [aq,au]
 apply jv
 .exact Reach.frzCellS (enc:=ji) (s:=2) (fun _=>rfl) zT (k:=9) (j:=8) (i:=4) [⟨1,[]⟩] (by decide) (by simp) (by simp) (by rfl) (by rfl) (by rfl)
 simp only [aq,au]
 apply jv
 .exact Reach.nilCell (k:=9) (i:=0) (by simp) (by rfl) (by rfl)
 simp only [aq,au]
 apply jv
 .exact Reach.nilCell (k:=9) (i:=5) (by simp) (by rfl) (by rfl)
 simp only [aq,au];refine QY ?_ (r:=by conv=>lhs;simp[QV,hr2,hr3,hrb])
 apply jv
 .exact Reach.frzCell (k:=0) (j:=10) (i:=0) (by decide) (by simp) (by simp) (by rfl) (by rfl) (by rfl) (by rfl) (by rfl)
 simp only [aq,au]
 apply jv
 .exact Reach.nilCell (k:=0) (i:=1) (by simp) (by rfl) (by rfl)
 simp only [aq,au]
 apply jv
 .exact Reach.frzCell (k:=0) (j:=11) (i:=2) (by decide) (by simp) (by simp) (by rfl) (by rfl) (by rfl) (by rfl) (by rfl)
 simp only [aq,au]
 apply jv
 .exact Reach.frzCellS (enc:=je) (s:=6) (fun _=>rfl) KE (k:=0) (j:=12) (i:=3) [⟨[0,1],[⟨258,0,[],[]⟩],⟨1,0,[⟨1,[]⟩],[]⟩⟩,⟨[],[⟨258,0,[],[]⟩,⟨106,0,[0,1],[2]⟩],⟨1,0,[⟨1,[]⟩],[]⟩⟩] (by decide) (by simp) (by simp) (by rfl) (by rfl) (by rfl)
 simp only [aq,au]
 refine bz ?_
 exact Ye (by simp; rfl) (ja hwf (by simp [Ss.smallL,vl]) rfl)
theorem al8 (S:Store):Ghost (.agg [.nils, .int .i64 0, .nils, .nils, .bool false]) S (qQ Ss.envL) S:=by
 refine Ghost.agg_nl rfl fun i x y hx hy => ?_
 match i,hx,hy with
 | 0,hx,hy=>cases hx; cases hy; exact .inr ⟨rfl,rfl⟩
 | 1,hx,hy=>cases hx; cases hy; exact .inl rfl
 | 2,hx,hy=>cases hx; cases hy; exact .inr ⟨rfl,rfl⟩
 | 3,hx,hy=>cases hx; cases hy; exact .inr ⟨rfl,rfl⟩
 | 4,hx,hy=>cases hx; cases hy; exact .inl rfl
theorem aqj:b8 12 [] (.bool true):=by
 intro S;have hr1:rep0 [V.int .i64 0] 1=[.int .i64 0]:=rfl;have cs:=at0;have cb:=aoi Ss.envL Ss.smallL Ss.an2 Ss.ace;have cp:=ajb Ss.smallL Ss.ace 1 [1] (by decide);rw [Ss.ak9] at cb;rw [Ss.af1] at cp;have hF':jM Ss.smallL' = .agg [vl cj [127,127],vl cj [],vl cj [127,127,127],vl je [⟨[0,1],[⟨258,0,[],[]⟩,⟨106,0,[0,1],[2]⟩],⟨1,0,[⟨1,[]⟩],[]⟩⟩,⟨[],[⟨258,0,[],[]⟩],⟨1,0,[⟨1,[]⟩],[]⟩⟩]]:=rfl;obtain ⟨f1,f2,f3,f4,hF,o1,o2,o3,o4,c1,c2,c3,c4⟩ : ∃ f1 f2 f3 f4,jM Ss.smallL = .agg [f1,f2,f3,f4]/\f1.one=true/\f2.one=true/\f3.one=true/\f4.one=true/\f1.cG=true/\f2.cG=true/\f3.cG=true/\f4.cG=true:=⟨_,_,_,_,rfl,rfl,rfl,rfl,rfl,rfl,rfl,rfl,rfl⟩
 rw [hF] at cs cb cp;rw [hF'] at cb;refine b7 Tryz.func12 Tryz.ntmps12 fun hwf=>?_
 refine QY ?_;refine QP ?_;refine QL cs ?_;refine zf rfl (GhostArgs.one [] [_] (al8 _)) cb ?_;refine QW ?_;refine QH 1 0 ?_;refine QP ?_;refine QL cs ?_;refine bJ hr1 ?_;refine zf rfl (GhostArgs.one [_,_] [] (frz1 (k:=1) (len:=1) (by simp) rfl rfl rfl)) cp ?_;simp only [porchV];refine QW ?_;have hix0 : ∀ S,jF 6 S (vl je [⟨[0,1],[⟨258,0,[],[]⟩,⟨106,0,[0,1],[2]⟩],⟨1,0,[⟨1,[]⟩],[]⟩⟩,⟨[],[⟨258,0,[],[]⟩],⟨1,0,[⟨1,[]⟩],[]⟩⟩]) (.int .i64 0)=some (.ref (.agg [vl cj [0,1],vl js [⟨258,0,[],[]⟩,⟨106,0,[0,1],[2]⟩], .int .i64 1, .int .i64 0,vl ji [⟨1,[]⟩],vl cj []])):=fun _=>rfl
 have hix1 : ∀ S,jF 6 S (vl je [⟨[0,1],[⟨258,0,[],[]⟩,⟨106,0,[0,1],[2]⟩],⟨1,0,[⟨1,[]⟩],[]⟩⟩,⟨[],[⟨258,0,[],[]⟩],⟨1,0,[⟨1,[]⟩],[]⟩⟩]) (.int .i64 1)=some (.ref (.agg [vl cj [],vl js [⟨258,0,[],[]⟩], .int .i64 1, .int .i64 0,vl ji [⟨1,[]⟩],vl cj []])):=fun _=>rfl
 refine bF hix0 hix1 ?_
 exact ja (X := .bool true) hwf (by simp) rfl
end Go.Vw
namespace Ev
theorem am7 {P:Prog} (h:PFits P) (hP:RightP P):PFits (licP P):=by
 refine ⟨h.env,by simpa [licP] using h.len,fun f hf => ?_⟩;simp only [licP,bi] at hf;obtain ⟨g,hg,rfl⟩:=hf;obtain ⟨i,hi⟩:=aB.1 hg;exact Ss.aef (hP.fns i g hi).2.1 (h.fns g hg)
end Ev
namespace Go.Vw
open Go.Proofs Go.RowKit
attribute [-simp] List.map_set
theorem aiw (P:Ev.Prog) (n:Int) (args:List Int) (s:Ev.State) (hPF:Ev.PFits P) (hn:Ss.I64 n) (ha:Ev.words args) (hs:Ev.StFits s):b8 5 [JF P,encAsk n args s] (.bool true):=by
 intro S;have crt:=agf P hPF;have cal:=aqj;obtain ⟨al,hal⟩ : ∃ al,al=true:=⟨_,rfl⟩
 rw [<-hal] at cal;obtain ⟨O,hO,hOk⟩:=axp;have hB:=fun h:Ev.rightB P=true=>Ev.asz hPF h
 have c1:=fun hP:Ev.RightP P=>aps O hO hOk P hPF hP s hs n hn args ha
 have c2:=fun hP:Ev.RightP P=>aps O hO hOk (Ev.licP P) (Ev.am7 hPF hP) (Ev.ak8 hP) s hs n hn args ha
 have he:=fun hP:Ev.RightP P=>Ev.at1 hOk hP hs ha (Q:=Ev.licP P) (n:=n) rfl fun t r h0 ht hf hs h=>Ev.apw hOk hP h0 ht hf ha.2 hs h
 have hrf:=fun hP:Ev.RightP P=>Ev.awy hOk hP hs (n:=n) ha
 have hlen:=hPF.len;have cbc:Ev.RightP P -> ∀ f∈P.fns,b8 9 [qQ P.env,jM f] (.tuple [jM (Ss.licF f),cj 0]):=fun hP f hf=>by
  obtain ⟨i,hi⟩:=aB.1 hf;have:=aoi P.env f hPF.env (hPF.fns f hf)
  rwa [Ss.acf (hP.fns i f hi).2.1] at this
 generalize hrb:Ev.rightB P=rb at *
 clear hPF hs
 by_cases hr:rb=true
 rotate_left
 .have hr:rb=false:=by simpa using hr
  clear c1 c2 he hrf cbc hO hOk hB hrb;obtain ⟨⟨sg,im,gl,mu,me⟩,fns⟩:=P;obtain ⟨mem,most,glb,fuel,inp,log⟩:=s;have crt:b8 14 [.agg [vl jn sg,cj im,vl cj gl,vl V.bool mu, .bool me,vl jM fns]] (.bool rb):=crt;show b9 5 [.agg [vl jn sg,cj im,vl cj gl,vl V.bool mu, .bool me,vl jM fns], .agg [cj n,vl vu args,vl vby mem,cj most,vl vu glb,cj fuel,vl vu inp,vl vu log]] S _;refine b7 Tryz.func5 Tryz.ntmps5 fun hwf=>?_
  refine QY ?_;refine QH 2 0 ?_;refine QH 3 1 ?_;refine QP ?_;refine QL (crt) ?_;refine bJ hr ?_;refine QN ?_
  refine bD hr ?_
  refine QP ?_;refine QL (cal) ?_;refine bJ hal ?_;refine bW ?_
  exact ja (X := .bool true) hwf (by simp) rfl
 have hP:=hB hr;have c1:=c1 hP;have c2:=c2 hP;have he:=he hP;have hrf:=hrf hP;have cbc:=cbc hP;clear hB hrb;rw [he] at c2;generalize Ev.runR O P s n args=res at *
 obtain ⟨out,t,er⟩:=res;simp only at c1 c2 hrf;have cw:=aup out (by have:=hrf.2; omega);have cs:=aw8 t (by have:=hrf.1.globals.1; omega) (by have:=hrf.1.input.1; omega) (by have:=hrf.1.log.1; omega);obtain ⟨w1,hw1⟩ : ∃ b,b=true:=⟨_,rfl⟩
 rw [<-hw1] at cw;obtain ⟨w2,hw2⟩ : ∃ b,b=true:=⟨_,rfl⟩
 rw [<-hw2] at cs;have hl64:P.fns.length<=64:=by
  have h1:=hP.len;have h2:=hP.env;simp only [Ss.Env.right,af,aj] at h2;have h3:=h2.1.1.1.1.1;have h4:=h2.1.1.1.2;omega
 clear he hrf hP hO hOk;have hQ:JF (Ev.licP P) = .agg [vl jn P.env.sigs,cj P.env.imports,vl cj P.env.globals,vl V.bool P.env.muts, .bool P.env.mem,vl jM (P.fns.map Ss.licF)]:=rfl;rw [hQ] at c2;clear hQ;obtain ⟨⟨sg,im,gl,mu,me⟩,fns⟩:=P;obtain ⟨mem,most,glb,fuel,inp,log⟩:=s;obtain ⟨mem',most',glb',fuel',inp',log'⟩:=t;simp only at hlen cbc c2 hl64;have es:qe ⟨mem,most,glb,fuel,inp,log⟩ = .agg [vl vby mem,cj most,vl vu glb,cj fuel,vl vu inp,vl vu log]:=rfl;have et:qe ⟨mem',most',glb',fuel',inp',log'⟩ = .agg [vl vby mem',cj most',vl vu glb',cj fuel',vl vu inp',vl vu log']:=rfl;have ep:JF ⟨⟨sg,im,gl,mu,me⟩,fns⟩ = .agg [vl jn sg,cj im,vl cj gl,vl V.bool mu, .bool me,vl jM fns]:=rfl;rw [ep,es,et] at c1;rw [es,et] at c2;rw [et] at cs;rw [ep] at crt ⊢;show b9 5 [.agg [vl jn sg,cj im,vl cj gl,vl V.bool mu, .bool me,vl jM fns], .agg [cj n,vl vu args,vl vby mem,cj most,vl vu glb,cj fuel,vl vu inp,vl vu log]] S _
 have cbc : ∀ f∈fns,b8 9 [.agg [vl jn sg,cj im,vl cj gl,vl V.bool mu, .bool me],jM f] (.tuple [jM (Ss.licF f),cj 0]):=cbc
 obtain ⟨gs,hgs⟩ : ∃ gs,fns.map Ss.licF=gs:=⟨_,rfl⟩
 rw [hgs] at c2;have hgl:gs.length=fns.length:=by rw [<-hgs,aI]
 have hcf : ∀ f,(jM f).closed=true:=fun _=>rfl
 refine b7 Tryz.func5 Tryz.ntmps5 fun hwf=>?_
 refine QY ?_;refine QH 2 0 ?_;refine QH 3 1 ?_;refine QP ?_;refine QL (crt) ?_;refine bJ hr ?_;refine QN ?_
 refine bD hr ?_
 apply jv
 .exact Reach.voidCell 4 (k:=2) (i:=5) (by simp) (by rfl) (by rfl)
 simp only [bl,bm,aC,aM,aq,au];refine QO [2,3,5,23,24,25] ?_;refine QK [2,3] ?_;refine bX [2,3,5,23,24,25] (fun c σ S' => ∃ (k:Nat),k<=fns.length/\c=fns.length-k/\σ=[(2, .ref (.agg [vl jn sg,cj im,vl cj gl,vl V.bool mu, .bool me,vl jM fns])),(3, .ref (.agg [cj n,vl vu args,vl vby mem,cj most,vl vu glb,cj fuel,vl vu inp,vl vu log])),(5, .ptr (lid S.nx 0) 0),(23,vl jM fns),(24,cu fns.length),(25,cu k)]/\S'=St S [] [some (6,[vl jn sg,cj im,vl cj gl,vl V.bool mu, .bool me, .slice (lid S.nx 1) 0 k]),some (4,jq jM (gs.take k))]) fns.length ?_ ?_
 .exact ⟨0,Nat.zero_le _,rfl,by simp [Fr.oy,Fr.lk],rfl⟩
 .rintro c σ S' ⟨k,hk,rfl,rfl,rfl⟩
  by_cases hkt:k<fns.length
  .have hw:=jg hkt (by omega);have ck:=cbc _ (ah hkt);obtain ⟨⟨⟨fi,fo⟩,ts,bs⟩,hx⟩ : ∃ f,fns[k]=f:=⟨_,rfl⟩
   rw [hx] at ck;obtain ⟨⟨⟨gi,go⟩,gt,gb⟩,hg⟩ : ∃ g,Ss.licF ⟨⟨fi,fo⟩,ts,bs⟩=g:=⟨_,rfl⟩
   rw [hg] at ck;obtain ⟨e0,he0⟩ : ∃ e:Int,e=0:=⟨_,rfl⟩
   rw [<-he0] at ck;have ck:b8 9 [.agg [vl jn sg,cj im,vl cj gl,vl V.bool mu, .bool me], .agg [vl cj fi,vl cj fo,vl cj ts,vl je bs]] (.tuple [.agg [vl cj gi,vl cj go,vl cj gt,vl je gb],cj e0]):=ck;have h15 : ¬ e0=15:=by omega
   refine bF hkt hx ?_
   refine QP ?_;refine QL (ck) ?_;refine QW ?_;have hgk:gs[k]'(by omega)=⟨⟨gi,go⟩,gt,gb⟩:=by simp only [<-hgs,List.getElem_map,hx,hg]
   have hs1:jq jM (gs.take (k+1))=jq jM (gs.take k)++[vl cj gi,vl cj go,vl cj gt,vl je gb]:=by
    rw [List.take_succ_eq_append_getElem (by omega),hgk,Jl]; rfl
   have hl1:(jq jM (gs.take k)).length=k*4:=by
    rw [JK (s:=4) (fun _=>rfl),List.length_take,Nat.min_eq_left (by omega)]
   have hb1:(k+1)*96<=140737488355328:=by omega
   have hb2:k+1<=140737488355328:=by omega
   have hr4:rep0 [V.nils, .nils, .nils, .nils] 1=[.nils, .nils, .nils, .nils]:=rfl;have hir : ∀ f (l:List Ss.Fn),V.renL f (jq jM l)=jq jM l:=fun f l=>KC hcf f l
   have hii : ∀ p (l:List Ss.Fn),V.idsL p (jq jM l)=true:=fun p l=>KD hcf p l
   refine bF he0 h15 ?_
   refine QY ?_ (r:=by conv=>lhs;simp[QV,hr4,hl1,hb1,hb2])
   refine bD hw ?_
   refine qh [0,5] (by conv=>lhs; simp [Fr.oy]) hwf (by decide) (by simp [hir,hii]) (by conv=>lhs; simp [hir,hii]) (by conv=>lhs; simp [hir,hii]) (by conv=>lhs; simp [hir,hii]) ⟨?_,k+1,hkt,rfl,by simp,by simp [hs1]⟩;omega
  .have hke:k=fns.length:=by omega
   subst hke;rw [<-hgl,List.take_length]
   refine bD hkt ?_
   apply jv
   .exact Reach.frzCellS (enc:=jM) (s:=4) (fun _=>rfl) hcf (k:=0) (j:=1) (i:=5) gs (by decide) (by simp) (by simp) (by rfl) (by rfl) (by rfl)
   simp only [aq,au];refine QH 5 0 ?_;refine QP ?_;refine QL (c1) ?_;refine bV ?_
   refine QP ?_;refine QL (c2) ?_;refine bV ?_
   refine QP ?_;refine QL (cw) ?_;refine bJ hw1 ?_;refine QL (cs) ?_;refine bJ hw2 ?_;refine QL (cal) ?_;refine bJ hal ?_;refine bW ?_
   exact ja (X := .bool true) hwf (by simp) rfl
end Go.Vw
namespace Go.Vw
open Go.Proofs Go.RowKit Go.ChangeShapes Go.WideShapes
theorem ax7 {n:Int} (h:(Lit.int .u64 n).wf=true):Ev.U64 n:=by have h1:=bounds_u64 h; exact ⟨by omega,by omega⟩
theorem ayb:ReadsC Tryz.prog 63 (fun n:Int=>[vu n]) Ev.U64 :=
 (ReadsC.int Tryz.underlying63).map id (fun _=>rfl) (fun n h=>ax7 h)
theorem jcM:ReadsC Tryz.prog 43 (fun l:List Int=>[vl vu l]) Ev.words :=
 (ReadsC.slice vu Tryz.underlying43 ayb (aP (by kernel_rfl)) (fun _ => .inr rfl)).map id (fun _=>rfl) (fun l h=>⟨Yb (aP (by kernel_rfl)) h.1.2,h.2⟩)
theorem ays:ReadsC Tryz.prog 5 (fun n:Int=>[vby n]) (fun n=>0<=n/\n<256) :=
 (ReadsC.int Tryz.underlying5).map id (fun _=>rfl) (fun n h=>by have h1:=bounds_u8 h; simp only [id]; omega)
theorem au9:ReadsC Tryz.prog 44 (fun l:List Int=>[vl vby l]) byteL :=
 (ReadsC.slice vby Tryz.underlying44 ays (aP (by kernel_rfl)) (fun _ => .inr rfl)).map id (fun _=>rfl) (fun l h=>⟨Yb (aP (by kernel_rfl)) h.1.2,h.2⟩)
theorem ave:ReadsC Tryz.prog 46 (fun s:Ev.State=>[vl vby s.mem,cj s.most,vl vu s.globals,cj s.fuel,vl vu s.input,vl vu s.log]) Ev.StFits :=
 (ReadsC.struct Tryz.underlying46 (by kernel_rfl) (ReadsF.cons (by kernel_rfl) au9 (ReadsF.cons (by kernel_rfl) jcN (ReadsF.cons (by kernel_rfl) jcM (ReadsF.cons (by kernel_rfl) jcN (ReadsF.cons (by kernel_rfl) jcM (ReadsF.cons (by kernel_rfl) jcM ReadsF.nil))))))).map (fun p=>(⟨p.1,p.2.1,p.2.2.1,p.2.2.2.1,p.2.2.2.2.1,p.2.2.2.2.2.1⟩:Ev.State)) (fun _=>rfl) (fun p h=>⟨h.1,⟨h.2.1.1,by have:=h.2.1.2; simp only; omega⟩,h.2.2.1,⟨h.2.2.2.1.1,by have:=h.2.2.2.1.2; simp only; omega⟩,h.2.2.2.2.1,h.2.2.2.2.2.1⟩)
theorem azb:ReadsC Tryz.prog 40 (fun l:List Ss.Fn=>[vl jM l]) (fun l=>l.length<=140737488355328 /\ ∀ s∈l,s.Fits) :=
 (ReadsC.slice jM Tryz.underlying40 rdFn (aP (by kernel_rfl)) (fun _ => .inl rfl)).map id (fun _=>rfl) (fun l h=>⟨Yb (aP (by kernel_rfl)) h.1.2,h.2⟩)
theorem ayy:ReadsC Tryz.prog 42 (fun P:Ev.Prog=>[vl jn P.env.sigs,cj P.env.imports,vl cj P.env.globals,vl V.bool P.env.muts, .bool P.env.mem,vl jM P.fns]) Ev.PFits :=
 (ReadsC.struct Tryz.underlying42 (by kernel_rfl) (ReadsF.cons (by kernel_rfl) azi (ReadsF.cons (by kernel_rfl) azb ReadsF.nil))).map (fun p=>(⟨p.1,p.2.1⟩:Ev.Prog)) (fun _=>rfl) (fun p h=>⟨h.1,h.2.1.1,h.2.1.2⟩)
end Go.Vw
