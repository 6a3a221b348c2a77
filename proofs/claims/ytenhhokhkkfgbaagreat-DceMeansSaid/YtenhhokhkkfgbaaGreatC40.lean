import Derived.Test.YtenhhokhkkfgbaaGreatC39
import Derived.Test.YtenhhokhkkfgbaaGreatC29
/- Part of the proof. -/
set_option linter.unusedVariables false
set_option linter.unusedSimpArgs false
set_option maxRecDepth 10000
set_option maxHeartbeats 4000000
namespace Go.Vw
open Go.Proofs Go.RowKit
attribute [-simp] List.map_set
theorem some_lt1 {T:Store} (hw:T.Wf) {o:Nat} (h:(T.get o).isSome=true):o<T.nx:=by
 cases hg:T.get o with
 | none=>rw [hg] at h; cases h
 | some c=>exact jl hw hg
structure TInv (S:Store) (pn on pa oa M:Nat) (need:List Bool) (t:List (List Int)) (T:Store):Prop where
 old:Agree S T
 gn:T.get pn=some (1,[.slice on 0 need.length])
 go:T.get on=some (1,need.map V.bool)
 ga:T.get pa=some (1,[.slice oa 0 need.length])
 tab:Tab T M oa t
 len:t.length=need.length
 ls:S.nx<=oa/\oa<M/\pn<M/\on<M/\pa<M/\pn≠oa/\on≠oa/\pa≠oa
section
variable {S:Store} {pn on pa oa M:Nat} {need:List Bool} {t:List (List Int)} {T:Store}
theorem TInv.mono (h:TInv S pn on pa oa M need t T) (hw:T.Wf) {T':Store} (hnx:T.nx<=T'.nx) (hk : ∀ o,o<T.nx->T'.get o=T.get o):TInv S pn on pa oa M need t T':=by
 obtain ⟨old,gn,go,ga,tab,len,ls⟩:=h;have hoa:oa<T.nx:=by obtain ⟨rs,ids,g,_⟩:=tab; exact jl hw g
 exact ⟨⟨bh old.1 hnx,fun o ho=>(hk o (aU ho old.1)).trans (old.2 o ho)⟩,(hk pn (jl hw gn)).trans gn,(hk on (jl hw go)).trans go,(hk pa (jl hw ga)).trans ga,tab.mono (hk oa hoa) (fun o _ hs=>hk o (some_lt1 hw hs)),len,ls⟩
theorem TInv.at (h:TInv S pn on pa oa M need t T) (hw:T.Wf) {v:Nat} (hv:v<t.length) : ∃ (cells:List V) (o:Nat),T.get oa=some (1,cells)/\cells.length=t.length/\cells[v]? = some (.slice o 0 t[v].length)/\T.get o=some (1,t[v].map vint)/\o≠oa/\o≠pa /\
  ∀ (T':Store) (o':Nat) (l':List Int),T.nx<=o'->T.nx<=T'.nx->(∀ x,x<T.nx->x≠oa->x≠o->T'.get x=T.get x)->T'.get o'=some (1,l'.map vint)->T'.get oa=some (1,cells.set v (.slice o' 0 l'.length))->TInv S pn on pa oa M need (t.set v l') T':=by
 obtain ⟨old,gn,go,ga,tab,len,l1,l2,l3,l4,l5,l6,l7,l8⟩:=h;obtain ⟨cells,o,g1,g2,g3,g4,g5,g6⟩:=tab.at hv;refine ⟨cells,o,g1,g2,g3,g4,by omega,by omega,fun T' o' l' h1 h2 h3 h4 h5 => ?_⟩;have h0:=old.1;refine ⟨⟨by omega,fun x hx => ?_⟩, ?_, ?_, ?_,g6 T' o' l' ?_ (.inl (hw.gone _ h1)) (fun x hx hne hs=>h3 x (some_lt1 hw hs) (by omega) hne) h4 h5,by rw [List.length_set]; exact len,l1,l2,l3,l4,l5,l6,l7,l8⟩
 ·rw [h3 x (by omega) (by omega) (by omega)]; exact old.2 x hx
 ·rw [h3 pn (jl hw gn) l6 (by omega)]; exact gn
 ·rw [h3 on (jl hw go) l7 (by omega)]; exact go
 ·rw [h3 pa (jl hw ga) l8 (by omega)]; exact ga
 ·have:=jl hw g4; omega
end
def z1 (o:Nat) (c:Nat × List V):Store:=⟨fun q=>if q=o then some c else none,0⟩
theorem z1_sub {o:Nat} {c:Nat × List V} {S:Store} (h:S.get o=some c):(z1 o c).Sub S:=fun q d hd=>by
 simp only [z1] at hd; split at hd
 ·rename_i e; subst e; cases hd; exact h
 ·cases hd
theorem z1_shp {o:Nat} {c d:Nat × List V} {S:Store} (h:S.get o=some d) (hc:d.1=c.1):(z1 o c).Shp S:=fun q e he=>by
 simp only [z1] at he; split at he
 ·rename_i e2; subst e2; cases he; exact ⟨d,h,hc⟩
 ·cases he
theorem idsL_rep {p:Nat->Bool} {x:V} {n:Nat} (h:x.ids p=true):V.idsL p (List.replicate n x)=true:=by
 simp only [qr,aD];intro y hy;rw [List.mem_replicate] at hy;rw [hy.2]; exact h
theorem Needed0_v (f:Ss.Fn) (hf:f.Fits) (hs:f.small=true) (hd:Ss.DOk f) (htr : ∀ t,Ss.askTab f=t -> ∀ l∈t, ∀ u∈l,Ss.InR f.types.length u):bS 25 [jI f] (vl V.bool (Ss.dNeed f)):=by
 intro S;have hsm:=(Ss.small_iff f).1 hs;have hdn:=Ss.dNeed_marks hd;generalize Ss.dNeed f=D at *
 have cpu:=Pure_v;have hh:=hsm.1;simp only [Ss.Fn.heads,af,aj] at hh;obtain ⟨⟨⟨hh1,hh2⟩,_⟩,_⟩:=hh;have hfb:=hf.2.2.2;obtain ⟨hne,dout,done,darg,dpar,dtargs,dtarg,deargs,detos,_,_⟩:=hd;generalize hT:Ss.askTab f=tab at *
 obtain ⟨⟨fi,fo⟩,ts,bs⟩:=f;simp only [Ss.askTab] at hT htr;simp only at *
 generalize hN:ts.length=N at *
 refine QB (c:=jc Tryz.f25) Tryz.func25 Tryz.ntmps25 fun hwf=>?_
 refine QY ?_;refine QH 1 0 ?_;have e1:N*1<=140737488355328:=by omega
 have e2:N*24<=140737488355328:=by omega
 have e3:N<=140737488355328:=by omega
 refine bD hN e1 e2 e3 ?_
 have hr0:=tab_void (Nf:=149) (b:=S.nx) (oa:=lid S.nx 3) (n:=N) (St_wf hwf (l:=[none,some (1,List.replicate N (V.bool false)),some (1,[V.slice (lid S.nx 1) 0 N]),some (1,List.replicate N V.nils),some (1,[V.slice (lid S.nx 3) 0 N])]) (by simp [V.idsL,V.ids,lid]; exact ⟨idsL_rep rfl,idsL_rep rfl⟩)) (by rw [jv]; rfl) (σ:=[(1,(V.agg [vl vint fi,vl vint fo,vl vint ts,vl je bs]).ref),(3,V.ptr (lid S.nx 2) 0),(4,V.ptr (lid S.nx 4) 0),(27,vl je bs),(28,V.int IntKind.i64 ↑bs.length),(29,V.int IntKind.i64 0)]);obtain ⟨T0,hre,htab,hnx,hk0⟩:=hr0;refine QO [1,3,4,27,28,29] ?_;refine jE hre ?_;have eM:(St S [] [none,some (1,List.replicate N (V.bool false)),some (1,[V.slice (lid S.nx 1) 0 N]),some (1,List.replicate N V.nils),some (1,[V.slice (lid S.nx 3) 0 N])]).nx=S.nx+5:=by rw [jL]; rfl
 rw [eM] at htab hk0 hnx;have hinv0:TInv S (lid S.nx 2) (lid S.nx 1) (lid S.nx 4) (lid S.nx 3) (S.nx+5) (List.replicate N false) (List.replicate N []) T0:=by
  refine ⟨⟨by omega,fun o ho => ?_⟩, ?_, ?_, ?_,htab,by simp, ?_⟩
  ·rw [hk0 o (by omega) (by simp [lid]; omega),jh ho]; rfl
  ·rw [hk0 _ (by simp [lid]) (by simp [lid]),jv]; simp
  ·rw [hk0 _ (by simp [lid]) (by simp [lid]),jv]; simp
  ·rw [hk0 _ (by simp [lid]) (by simp [lid]),jv]; simp
  ·simp [lid]
 have hdis:lid S.nx 2≠lid S.nx 4/\lid S.nx 1≠lid S.nx 4/\lid S.nx 1≠lid S.nx 2:=by simp [lid]
 have hge:S.nx<=lid S.nx 1/\S.nx<=lid S.nx 4/\S.nx<=lid S.nx 2:=by simp [lid]
 generalize lid S.nx 2=pn at *
 generalize lid S.nx 1=on at *
 generalize lid S.nx 4=pa at *
 generalize lid S.nx 3=oa at *
 generalize S.nx+5=M at *
 generalize hn0:List.replicate N false=need0 at *
 have hn0l:need0.length=N:=by rw [<-hn0]; simp
 clear hre htab hk0 eM hnx;refine QT ?_;refine jd [1,3,4,27,28,29] rfl (fun c σ S' => ∃ (k:Nat) (t:List (List Int)),TInv S pn on pa oa M need0 t S'/\k<=bs.length/\c=bs.length-k/\(bs.drop k).foldl (Ss.askBlock bs) t=tab/\(∀ l∈t,l.length<=4096+16777216*k)/\σ=[(1,(V.agg [vl vint fi,vl vint fo,vl vint ts,vl je bs]).ref),(3, .ptr pn 0),(4, .ptr pa 0),(27,vl je bs),(28,vnat bs.length),(29,vnat k)]) bs.length ?_ ?_
 ·exact ⟨0,_,hinv0,by omega,rfl,hT,fun l hl=>by rw [List.mem_replicate] at hl; rw [hl.2]; simp,by simp [Fr.only]⟩
 ·rintro c σ T ⟨k,t,hI,hk,rfl,hfold,hbd,rfl⟩;have hwf0:=hwf;refine Yi fun hwT=>Jq hwT ?_
  by_cases hkt:k<bs.length
  ·have hw:=jg hkt (by omega);have hbm:bs[k]∈bs:=ah hkt;rw [am hkt,List.foldl_cons] at hfold;have hbsm:=hsm.2.1 _ hbm;have hbf:=hfb _ hbm;have e0:=dout _ hbm;have e1':=done _ hbm;have e2':=deargs _ hbm;have e3':=detos _ hbm;obtain ⟨⟨ps,code,⟨tk,ta,to,az⟩⟩,hb⟩ : ∃ b,bs[k]=b:=⟨_,rfl⟩
   rw [hb] at hfold hbsm hbf e0 e1' e2' e3';simp only [Ss.Block.small,af,aj,aD] at hbsm;obtain ⟨⟨⟨⟨s1,s2⟩,s3⟩,s4⟩,s5⟩:=hbsm;simp only [Ss.askBlock] at hfold;simp only at e0 e1' e2' e3' s4 s5;obtain ⟨_,⟨hcl,hcf⟩,_⟩:=hbf;simp only at hcl hcf
   refine bt hkt hb ?_
   refine QH 6 0 ?_;refine QT ?_;refine jd [1,3,4,6,27,28,29,34,35,36] rfl (fun c σ S' => ∃ (j:Nat) (t1:List (List Int)),TInv S pn on pa oa M need0 t1 S'/\j<=code.length/\c=code.length-j/\(code.drop j).foldl Ss.askIns t1=code.foldl Ss.askIns t/\(∀ l∈t1,l.length<=4096+16777216*k)/\σ=[(1,(V.agg [vl vint fi,vl vint fo,vl vint ts,vl je bs]).ref),(3, .ptr pn 0),(4, .ptr pa 0),(6,(V.agg [vl vint ps,vl jp code,vint tk,vint ta,vl jk to,vl vint az]).ref),(27,vl je bs),(28,vnat bs.length),(29,vnat k),(34,vl jp code),(35,vnat code.length),(36,vnat j)]) code.length ?_ ?_
   ·refine ⟨0,t,hI.mono hwT (by rw [jL,lid]; simp) (fun o ho=>by rw [jh ho]; rfl),by omega,rfl,rfl,hbd,by simp [Fr.only]⟩
   ·rintro c σ T1 ⟨j,t1,hI1,hj,rfl,hfold1,hbd1,rfl⟩;refine Yi fun hwT1=>Jq hwT1 ?_
    by_cases hjt:j<code.length
    ·have hwj:=jg hjt (by omega);have hxm:code[j]∈code:=ah hjt;rw [am hjt,List.foldl_cons] at hfold1;have x0:=e0 _ hxm;have x1:=e1' _ hxm;have x2:=s4 _ hxm;have x3:=hcf _ hxm;obtain ⟨⟨op,n,args,outs⟩,hx⟩ : ∃ x,code[j]=x:=⟨_,rfl⟩
     rw [hx] at hfold1 x0 x1 x2 x3;simp only [Ss.Ins.small,af,aj,Ss.askIns] at x0 x1 x2 hfold1;have cp:=cpu op x3.1
     refine bt hjt hx ?_
     refine QH 8 0 ?_;refine QO [1,3,4,6,8,27,28,29,34,35,36] ?_;have hI2:=hI1.mono hwT1 (T':=St T1 [] [none]) (by rw [jL,lid]; simp) (fun o ho=>by rw [jh ho]; rfl);have hw2:(St T1 [] [none]).Wf:=St_wf hwT1 rfl;generalize St T1 [] [none]=T2 at hI2 hw2 ⊢;refine Jq hw2 ?_;generalize Ss.pure op=pp at *
     refine QP ?_;refine QL (cp) ?_
     cases pp with
     | false =>
      obtain ⟨q,hq⟩ : ∃ q,q=false:=⟨_,rfl⟩
      simp only [aF,if_false] at hfold1;refine QW ?_
      refine bx hwj ?_
      show js _ _ _ _ _ _ _;exact again ⟨ao hjt (aY j),j+1,t1,by rw [jM hw2]; exact hI2,hjt,rfl,hfold1,hbd1,by simp [Fr.only,Fr.look]⟩
     | true =>
      simp only [if_true] at hfold1;obtain ⟨o,rfl⟩:=x1 rfl;obtain ⟨v0,v1⟩:=x0 o (by simp);obtain ⟨m,rfl⟩ : ∃ m:Nat,o=m:=⟨o.toNat,by omega⟩
      have hm:m<t1.length:=by rw [hI2.len]; omega
      obtain ⟨cells,ro,g1,g2,g3,g4,g5,g5',g6⟩:=hI2.at hw2 hm;simp only [List.getD_cons_zero,Int.toNat_natCast] at hfold1;have cc:bU 67 [vl vint args] (St T2 [] []) (fun r T=>r = .slice (lid T2.nx 0) 0 args.length/\T=St T2 [] [some (1,args.map vint)]):=by rw [jM hw2]; exact Yf T2 args (by omega)
      have la:=jl hw2 hI2.ga;have lo:=jl hw2 g1;have ba:=fun u l => @jh T2 u l pa la
      have bo:=fun u l => @jh T2 u l oa lo
      have gga:=hI2.ga;have hmc:m<cells.length:=by omega
      have hmN:m<need0.length:=by omega
      have hup : ∀ c l,(St T2 [] l).upd oa c=St T2 [(oa,some c)] l:=fun c l=>by rw [jP lo]; rfl
      have hok : ∀ u l,uGet u pa (T2.get pa)=some (1,[.slice oa 0 need0.length])->(∃ c,uGet u oa (T2.get oa)=some (1,c))->(z1 pa (1,[.slice oa 0 need0.length])).Sub (St T2 u l)/\(z1 oa (1,cells)).Shp (St T2 u l):=fun u l h1 h2=>by
       obtain ⟨c,h2⟩:=h2;exact ⟨z1_sub ((ba u l).trans h1),z1_shp ((bo u l).trans h2) rfl⟩
      have hz1:(z1 pa (1,[.slice oa 0 need0.length])).get pa=some (1,[.slice oa 0 need0.length]):=by simp [z1]
      have hz2:(z1 oa (1,cells)).get oa=some (1,cells):=by simp [z1]
      have hpo:oa≠pa:=Ne.symm hI2.ls.2.2.2.2.2.2.2;refine bQ ?_
      refine QT ?_;refine QJ (z1 pa (1,[.slice oa 0 need0.length])) (z1 oa (1,cells)) [10050] ?_ (hz:=hok [] _ gga ⟨_,g1⟩) (r:=by conv=>lhs; simp [QV,hz1,hz2,ba,bo,gga,g1,hmN,hmc]);refine Kp rfl cc (by rfl) (Ks (zl _ _ (by simp [subU])) (by simp [subL])) (hok [] _ gga ⟨_,g1⟩) ?_;refine QM (by conv=>lhs;simp[QV,hz1,hz2,ba,bo,gga,g1,hmN,hmc,g2]) ?_;refine zr rfl (by conv=>lhs; simp [QV,hup,bo,g1,hmc]) (hok [(oa,some (1,cells.set m (.slice (lid T2.nx 0) 0 args.length)))] _ (by simp [uGet,Ne.symm hpo]; exact gga) ⟨_,by simp [uGet]; rfl⟩) ?_;refine QN ?_
      refine bx hwj ?_
      have h6:=g6 (St T2 [(oa,some (1,cells.set m (.slice (lid T2.nx 0) 0 args.length)))] [some (1,args.map vint)]) (lid T2.nx 0) args (by simp [lid]) (by rw [jL,lid]; omega) (fun x hx h1 h2=>by rw [jh hx]; simp [uGet,h1]) (by rw [jv]; rfl) (by rw [jh lo]; simp [uGet]);show js _ _ _ _ _ _ _;exact again ⟨ao hjt (aY j),j+1,t1.set m args,h6,hjt,rfl,hfold1,(fun l hl=>by rcases List.mem_or_eq_of_mem_set hl with h | rfl; exact hbd1 l h; omega),by simp [Fr.only,Fr.look]⟩
    ·have hje:j=code.length:=by omega
     subst hje;rw [List.drop_length,List.foldl_nil] at hfold1;subst hfold1
     refine bx hjt ?_
     refine QT ?_;refine jd [1,3,4,27,28,29,55,56,57] rfl (fun c σ S' => ∃ (j:Nat) (t1:List (List Int)),TInv S pn on pa oa M need0 t1 S'/\j<=to.length/\c=to.length-j/\(to.drop j).foldl (Ss.askEdge bs) t1=to.foldl (Ss.askEdge bs) (code.foldl Ss.askIns t)/\(∀ l∈t1,l.length<=4096+16777216*k+4096*j)/\σ=[(1,(V.agg [vl vint fi,vl vint fo,vl vint ts,vl je bs]).ref),(3, .ptr pn 0),(4, .ptr pa 0),(27,vl je bs),(28,vnat bs.length),(29,vnat k),(55,vl jk to),(56,vnat to.length),(57,vnat j)]) to.length ?_ ?_
     ·exact ⟨0,_,by rw [jM hwT1]; exact hI1,by omega,rfl,rfl,hbd1,by simp [Fr.only]⟩
     ·rintro c σ T1 ⟨j,t1,hI1,hj,rfl,hfold1,hbd1,rfl⟩;refine Yi fun hwT1=>Jq hwT1 ?_
      by_cases hjt:j<to.length
      ·have hwj:=jg hjt (by omega);have hem:to[j]∈to:=ah hjt;rw [am hjt,List.foldl_cons] at hfold1;have x0:=e2' _ hem;obtain ⟨y0,y1,y2⟩:=e3' _ hem;have x2:=s5 _ hem;obtain ⟨⟨et,ea⟩,hx⟩ : ∃ x,to[j]=x:=⟨_,rfl⟩
       rw [hx] at hfold1 x0 y0 y1 y2 x2;simp only [Ss.Edge.small,aj] at x0 y0 y1 y2 x2;obtain ⟨q,rfl⟩ : ∃ q:Nat,et=q:=⟨et.toNat,by omega⟩
       have hq:q<bs.length:=by omega
       have hgd:bs.getD ((q:Int)).toNat default=bs[q]:=by rw [ag,Int.toNat_natCast,ac hq]; rfl
       have hqm:bs[q]∈bs:=ah hq;have hpr:=dpar _ hqm;have hpl:bs[q].params.length<=4096:=by
        have:=hsm.2.1 _ hqm;simp only [Ss.Block.small,af,aj] at this;exact this.1.1.1.1
       simp only [Ss.askEdge] at hfold1;rw [hgd] at hfold1 y2;obtain ⟨⟨qs,qc,qt⟩,hb2⟩ : ∃ b,bs[q]=b:=⟨_,rfl⟩
       rw [hb2] at hfold1 y2 hpr hpl;obtain ⟨qt1,qt2,qt3,qt4⟩:=qt;simp only at hfold1 y2 hpr hpl
       refine bD hjt hx hq hb2 ?_
       refine QH 10 0 ?_;refine QT ?_;refine jd [1,3,4,10,27,28,29,55,56,57,67,68,69] rfl (fun c σ S' => ∃ (i:Nat) (t2:List (List Int)),TInv S pn on pa oa M need0 t2 S'/\i<=qs.length/\c=qs.length-i/\((qs.zip ea).drop i).foldl Ss.askPar t2=(qs.zip ea).foldl Ss.askPar t1/\(∀ l∈t2,l.length<=4096+16777216*k+4096*j+i)/\σ=[(1,(V.agg [vl vint fi,vl vint fo,vl vint ts,vl je bs]).ref),(3, .ptr pn 0),(4, .ptr pa 0),(10,(V.agg [vint q,vl vint ea]).ref),(27,vl je bs),(28,vnat bs.length),(29,vnat k),(55,vl jk to),(56,vnat to.length),(57,vnat j),(67,vl vint qs),(68,vnat qs.length),(69,vnat i)]) qs.length ?_ ?_
       ·exact ⟨0,t1,hI1.mono hwT1 (by rw [jL,lid]; simp) (fun o ho=>by rw [jh ho]; rfl),by omega,rfl,rfl,hbd1,by simp [Fr.only]⟩
       ·rintro c σ T2 ⟨i,t2,hI2,hi,rfl,hfold2,hbd2,rfl⟩;refine Yi fun hw2=>Jq hw2 ?_
        by_cases hit:i<qs.length
        ·have hwi:=jg hit (by omega);have hie:i<ea.length:=by omega
         have hiz:i<(qs.zip ea).length:=by rw [List.length_zip]; omega
         rw [am hiz,List.foldl_cons,List.getElem_zip] at hfold2;obtain ⟨v0,v1⟩:=hpr qs[i] (ah hit);obtain ⟨m,hqi⟩ : ∃ m:Nat,qs[i]=(m:Int):=⟨qs[i].toNat,by omega⟩
         obtain ⟨a,hai⟩ : ∃ a,ea[i]=a:=⟨_,rfl⟩
         rw [hqi] at v0 v1;rw [hqi,hai] at hfold2;have hm:m<t2.length:=by rw [hI2.len]; omega
         have hgd2:t2.getD m []=t2[m]:=by rw [ag,ac hm]; rfl
         simp only [Ss.askPar,Int.toNat_natCast] at hfold2;rw [hgd2] at hfold2;obtain ⟨cells,ro,g1,g2,g3,g4,g5,g5',g6⟩:=hI2.at hw2 hm;have hrl:=hbd2 t2[m] (ah hm);have la:=jl hw2 hI2.ga;have lo:=jl hw2 g1;have lr:=jl hw2 g4;have ba:=fun u l => @jh T2 u l pa la
         have bo:=fun u l => @jh T2 u l oa lo
         have br:=fun u l => @jh T2 u l ro lr
         have gga:=hI2.ga;have hmc:m<cells.length:=by omega
         have hmN:m<need0.length:=by omega
         have hpo:oa≠pa:=Ne.symm hI2.ls.2.2.2.2.2.2.2;have hdl : ∀ l,(St T2 [] l).del ro=St T2 [(ro,none)] l:=fun l=>by rw [St_delOld lr]; rfl
         have hup : ∀ c l,(St T2 [(ro,none)] l).upd oa c=St T2 [(ro,none),(oa,some c)] l:=fun c l=>by rw [jP lo]; simp [uSet,Ne.symm g5]
         have hok : ∀ u l,uGet u pa (T2.get pa)=some (1,[.slice oa 0 need0.length])->(∃ c,uGet u oa (T2.get oa)=some (1,c))->(z1 pa (1,[.slice oa 0 need0.length])).Sub (St T2 u l)/\(z1 oa (1,cells)).Shp (St T2 u l):=fun u l h1 h2=>by
          obtain ⟨c,h2⟩:=h2;exact ⟨z1_sub ((ba u l).trans h1),z1_shp ((bo u l).trans h2) rfl⟩
         have hz1:(z1 pa (1,[.slice oa 0 need0.length])).get pa=some (1,[.slice oa 0 need0.length]):=by simp [z1]
         have hz2:(z1 oa (1,cells)).get oa=some (1,cells):=by simp [z1]
         generalize hrow:t2[m]=row at *
         have hcm:cells[m] = .slice ro 0 row.length:=by have:=g3; rw [ac hmc] at this; exact Option.some.inj this
         have g5n:oa≠ro:=Ne.symm g5;have hur:uGet [] ro (T2.get ro)=some (1,row.map vint):=g4;have hb8:(row.length+1)*8<=140737488355328:=by omega
         have hb1:row.length+1<=140737488355328:=by omega
         refine bt hit hqi ?_
         refine QT ?_;refine QJ (z1 pa (1,[.slice oa 0 need0.length])) (z1 oa (1,cells)) [79] ?_ (hz:=hok [] _ gga ⟨_,g1⟩) (r:=by conv=>lhs; simp [QV,hz1,hz2,ba,bo,gga,g1,hcm,hmN,hmc,hie,hai]);refine zr rfl (by conv=>lhs; simp [QV,hai]) (hok [] _ gga ⟨_,g1⟩) ?_;refine zr rfl (by conv=>lhs; simp [QV,br,g4,hb8,hb1,hdl]) (hok [(ro,none)] _ (by simp [uGet,Ne.symm g5']; exact gga) ⟨cells,by simp [uGet,Ne.symm g5]; exact g1⟩) ?_;refine QM (by conv=>lhs;simp[QV,hz1,hz2,ba,bo,gga,g1,hmN,hmc]) ?_;refine zr rfl (by conv=>lhs; simp [QV,hup,bo,g1,hmc,g5n]) (hok [(ro,none),(oa,some (1,cells.set m (.slice (lid T2.nx 1) 0 (row.length+1))))] _ (by simp [uGet,Ne.symm g5',Ne.symm hpo]; exact gga) ⟨_,by simp [uGet,Ne.symm g5]; rfl⟩) ?_;refine QN ?_
         refine bx hwi ?_
         have h6:=g6 (St T2 [(ro,none),(oa,some (1,cells.set m (.slice (lid T2.nx 1) 0 (row.length+1))))] [some (1,[.int .i64 a]),some (1,row.map vint++[.int .i64 a])]) (lid T2.nx 1) (row++[a]) (by simp [lid]) (by rw [jL,lid]; simp) (fun x hx h1 h2=>by rw [jh hx]; simp [uGet,h1,h2]) (by rw [jv]; simp) (by rw [jh lo]; simp [uGet,Ne.symm g5]);show js _ _ _ _ _ _ _;exact again ⟨ao hit (aY i),i+1,t2.set m (row++[a]),h6,hit,rfl,hfold2,(fun l hl=>by rcases List.mem_or_eq_of_mem_set hl with h | rfl; exact bh (hbd2 l h) (by omega); simp; omega),by simp [Fr.only,Fr.look]⟩
        ·have hie:i=qs.length:=by omega
         subst hie;rw [List.drop_of_length_le (by rw [List.length_zip]; omega),List.foldl_nil] at hfold2;rw [<-hfold2] at hfold1
         refine bt hit hwj ?_
         show js _ _ _ _ _ _ _;exact again ⟨ao hjt (aY j),j+1,t2,by rw [jM hw2]; exact hI2,hjt,rfl,hfold1,(fun l hl=>bh (hbd2 l hl) (by omega)),by simp [Fr.only,Fr.look]⟩
      ·have hje:j=to.length:=by omega
       subst hje;rw [List.drop_length,List.foldl_nil] at hfold1;rw [<-hfold1] at hfold
       refine bt hjt hw ?_
       show js _ _ _ _ _ _ _;exact again ⟨ao hkt (aY k),k+1,t1,by rw [jM hwT1]; exact hI1,hkt,rfl,hfold,(fun l hl=>bh (hbd1 l hl) (by omega)),by simp [Fr.only,Fr.look]⟩
  ·have hke:k=bs.length:=by omega
   subst hke;rw [List.drop_length,List.foldl_nil] at hfold;subst hfold;rw [jM hwT];obtain ⟨ids,hgh,hids⟩:=hI.tab.freeze hI.ls.2.1;have hrc:=Reach.cell (N:=149) (b0:=S.nx) (o:=pa) (i:=0) (s:=1) (cs:=[.slice oa 0 need0.length]) (x := .slice oa 0 t.length) (x':=vl (vl vint) t) (S1:=T.dels (oa::ids)) hgh rfl hI.ga (by rw [hI.len]; rfl) (by
    rw [KB,if_neg]
    ·exact hI.ga
    ·intro hm;rcases aL.1 hm with h | h
     ·exact hI.ls.2.2.2.2.2.2.2 h
     ·have:=hids _ h; have:=hI.ls.2.2.2.2.1; omega) (σ:=[(1,(V.agg [vl vint fi,vl vint fo,vl vint ts,vl je bs]).ref),(3,V.ptr pn 0),(4,V.ptr pa 0),(27,vl je bs),(28,vnat bs.length),(29,vnat bs.length)])
   refine jE hrc ?_;obtain ⟨old,gn,go,ga,_,len,l1,l2,l3,l4,l5,l6,l7,l8⟩:=hI;have hkeep : ∀ o,o<M->o≠oa->o≠pa->((T.dels (oa::ids)).upd pa (1,[vl (vl vint) t])).get o=T.get o:=fun o h1 h2 h3=>by
    rw [qH h3,KB,if_neg];intro hm;rcases aL.1 hm with h | h
    ·exact h2 h
    ·have:=hids _ h; omega
   have gn3:=(hkeep pn l3 l6 hdis.1).trans gn;have go3:=(hkeep on l4 l7 hdis.2.1).trans go;have ga3:((T.dels (oa::ids)).upd pa (1,[vl (vl vint) t])).get pa=some (1,[vl (vl vint) t]):=zY;have old3:Agree S ((T.dels (oa::ids)).upd pa (1,[vl (vl vint) t])):=⟨by show S.nx<=(T.dels (oa::ids)).nx; rw [jaR]; exact old.1,fun o ho=>by
    rw [hkeep o (by omega) (by omega) (by omega)]; exact old.2 o ho⟩
   simp only [au];generalize (T.dels (oa::ids)).upd pa (1,[vl (vl vint) t])=T3 at gn3 go3 ga3 old3 ⊢;have hlen:t.length=N:=by rw [len,hn0l]
   rw [hn0l] at gn3;have hrlen : ∀ l∈t,l.length<2^62:=fun l hl=>by have:=hbd l hl; omega
   rw [<-hn0] at go3;clear hgh hrc hkeep hids old gn go ga len hbd;have htin : ∀ l∈t, ∀ u∈l,Ss.InR N u:=htr t rfl
   refine Yi fun hwf3=>Jq hwf3 ?_
   have n3:=jl hwf3 gn3;have o3:=jl hwf3 go3;have a3:=jl hwf3 ga3;refine Yl (b':=T3.nx) old3.1 ?_;have hwf9:=hwf;clear hwf;have hwf:=hwf3;have bn:=fun u l => @jh T3 u l pn n3
   have bo:=fun u l => @jh T3 u l on o3
   have ba:=fun u l => @jh T3 u l pa a3
   have pP:=fun ks=>qv (n:=T3.nx) ks n3
   have pT:=fun ks=>jZ (n:=T3.nx) ks n3
   have aP:=fun ks=>qv (n:=T3.nx) ks a3
   have aT:=fun ks=>jZ (n:=T3.nx) ks a3
   have hup : ∀ x c l,(St T3 [(on,x)] l).upd on c=St T3 [(on,some c)] l:=fun x c l=>by rw [jP o3]; simp [uSet]
   have cmark : ∀ (nd:List Bool) (l:List Int) (m:List (Option (Nat × List V))),nd.length=N->l.length<=4096->(∀ v∈l,Ss.InR N v)->bU 68 [vl vint l, .ptr pn 0, .ptr (lid T3.nx 0) 0, .ptr pa 0] (St T3 [(on,some (1,nd.map V.bool))] (some (1,[.func 68 [.ptr pn 0, .ptr (lid T3.nx 0) 0, .ptr pa 0]])::m)) fun v T=>v = .tuple []/\T=St T3 [(on,some (1,(Ss.dfs t (N+1) nd l).map V.bool))] (some (1,[.func 68 [.ptr pn 0, .ptr (lid T3.nx 0) 0, .ptr pa 0]])::m):=fun nd l m h1 h2 h3=>by
    have h4:Ss.off nd<=nd.length:=List.countP_le_length;have:=Mark_v t N pn (lid T3.nx 0) pa on hlen (by omega) hrlen htin (N+1) nd l (St T3 [(on,some (1,nd.map V.bool))] (some (1,[.func 68 [.ptr pn 0, .ptr (lid T3.nx 0) 0, .ptr pa 0]])::m)) (by omega) h1 (by omega) h3 ((bn _ _).trans (by simp [uGet,Ne.symm hdis.2.2]; exact gn3)) ((bo _ _).trans (by simp [uGet])) ((ba _ _).trans (by simp [uGet,Ne.symm hdis.2.1]; exact ga3)) (by rw [jv]; rfl) hdis.2.2 hdis.2.1 (by simp only [lid]; omega);rw [hup] at this;exact this
   have hmk : ∀ (nd:List Bool) (l:List Int),nd.length=N->(∀ v∈l,Ss.InR N v)->Ss.Marks t nd l (Ss.dfs t (N+1) nd l):=fun nd l h1 h2=>by
    have h4:Ss.off nd<=nd.length:=List.countP_le_length;exact Ss.dfs_marks (N:=N) (fun l hl u hu=>by obtain ⟨h1,h2⟩:=htin l hl u hu; omega) (N+1) nd l h1 (fun v hv=>by obtain ⟨h1,h2⟩:=h2 v hv; omega) (by omega)
   obtain ⟨⟨p0,c0,w0⟩,bs',hbs⟩ : ∃ b bs',bs=b::bs':=by cases bs with | nil=>exact absurd rfl hne | cons b bs'=>exact ⟨b,bs',rfl⟩
   have hb0:bs[0]? = some ⟨p0,c0,w0⟩:=by rw [hbs]; rfl
   have hb0m:(⟨p0,c0,w0⟩:Ss.Block)∈bs:=by rw [hbs]; simp
   have hp0:=dpar _ hb0m;have hp0l:p0.length<=4096:=by
    have:=hsm.2.1 _ hb0m;simp only [Ss.Block.small,af,aj] at this;exact this.1.1.1.1
   have hst0:St T3 [] []=St T3 [(on,some (1,(List.replicate N false).map V.bool))] []:=by
    rw [jM hwf3];exact (jdc hwf3 [(on,some (1,(List.replicate N false).map V.bool))] (fun p hp=>by simp only [aW] at hp; subst hp; exact go3)).symm
   rw [hst0];generalize hnd0:List.replicate N false=nd0 at *
   have hnd0l:nd0.length=N:=by rw [<-hnd0]; simp
   have hmr:Ss.Marks t nd0 ([]++p0) (Ss.dfs t (N+1) nd0 p0):=hmk nd0 p0 hnd0l hp0;have hlt0:0<bs.length:=by rw [hbs]; simp
   have hb00:bs[0]=⟨p0,c0,w0⟩:=by have:=hb0; rw [ac hlt0] at this; exact Option.some.inj this
   refine bw ?_
   refine QT ?_;refine QJ (zE) (zE) [92,93,94,95,96,97,20098] ?_ (hz:=zE_ok _) (r:=by conv=>lhs; simp [QV,bn,ba,hb0,hb00,hlt0]);refine vcallv_t (by rfl) (by rfl) (by rfl) (cmark nd0 p0 [] hnd0l hp0l hp0) (by rfl) (by rfl) (zE_ok _) ?_;refine bQ ?_
   have hroots:Ss.roots ⟨⟨fi,fo⟩,ts,bs⟩=([]++p0)++bs.flatMap Ss.rootsB:=by simp only [Ss.roots,List.nil_append]; rw [hbs]; rfl
   generalize Ss.roots ⟨⟨fi,fo⟩,ts,bs⟩=R at *
   refine QT ?_;refine jd [3,13,100,101,102] rfl (fun c σ S' => ∃ (k:Nat) (nd:List Bool) (L:List Int),Ss.Marks t nd0 L nd/\R=L++(bs.drop k).flatMap Ss.rootsB/\k<=bs.length/\c=bs.length-k/\σ=[(3, .ptr pn 0),(13, .ptr (lid T3.nx 0) 0),(100,vl je bs),(101,vnat bs.length),(102,vnat k)]/\S'=St T3 [(on,some (1,nd.map V.bool))] [some (1,[.func 68 [.ptr pn 0, .ptr (lid T3.nx 0) 0, .ptr pa 0]])]) bs.length ?_ ?_
   ·exact ⟨0,_,_,hmr,hroots,by omega,rfl,by simp [Fr.only],rfl⟩
   ·rintro c σ T ⟨k,nd,L,hM,hR,hk,rfl,rfl,rfl⟩
    by_cases hkt:k<bs.length
    ·have hw:=jg hkt (by omega);have hbm:bs[k]∈bs:=ah hkt;rw [am hkt,List.flatMap_cons] at hR;have hbsm:=hsm.2.1 _ hbm;have hbf:=hfb _ hbm;have f0:=dout _ hbm;have f1:=darg _ hbm;have f2:=dtargs _ hbm;have f3:=dtarg _ hbm;obtain ⟨⟨ps,code,⟨tk,ta,to,az⟩⟩,hb⟩ : ∃ b,bs[k]=b:=⟨_,rfl⟩
     rw [hb] at hR hbsm hbf f0 f1 f2 f3;simp only [Ss.Block.small,af,aj,aD] at hbsm;obtain ⟨⟨⟨⟨s1,s2⟩,s3⟩,s4⟩,s5⟩:=hbsm;simp only [Ss.rootsB] at hR;simp only at f0 f1 f2 f3 s4 s5;obtain ⟨_,⟨hcl,hcf⟩,_⟩:=hbf;simp only at hcl hcf;generalize hrest:((bs.drop (k+1)).flatMap Ss.rootsB)=rest at hR
     refine bt hkt hb ?_
     refine QH 15 1 ?_;refine QT ?_;refine jd [3,13,15,100,101,102,107,108,109] rfl (fun c σ S' => ∃ (j:Nat) (nd:List Bool) (L:List Int),Ss.Marks t nd0 L nd/\R=L++(((code.drop j).flatMap fun x=>if Ss.pure x.op then [] else x.args++x.outs)++(az++if Ss.branches ⟨tk,ta,to,az⟩ then [ta] else []))++rest/\j<=code.length/\c=code.length-j/\σ=[(3, .ptr pn 0),(13, .ptr (lid T3.nx 0) 0),(15,(V.agg [vl vint ps,vl jp code,vint tk,vint ta,vl jk to,vl vint az]).ref),(100,vl je bs),(101,vnat bs.length),(102,vnat k),(107,vl jp code),(108,vnat code.length),(109,vnat j)]/\S'=St T3 [(on,some (1,nd.map V.bool))] [some (1,[.func 68 [.ptr pn 0, .ptr (lid T3.nx 0) 0, .ptr pa 0]]),none]) code.length ?_ ?_
     ·exact ⟨0,nd,L,hM,by rw [hR]; simp,by omega,rfl,by simp [Fr.only],rfl⟩
     ·rintro c σ T ⟨j,nd,L,hM,hR,hj,rfl,rfl,rfl⟩;have hndl:nd.length=N:=by rw [hM.len,hnd0l]
      by_cases hjt:j<code.length
      ·have hwj:=jg hjt (by omega);have hxm:code[j]∈code:=ah hjt;rw [am hjt,List.flatMap_cons] at hR;have x0:=f0 _ hxm;have x1:=f1 _ hxm;have x2:=s4 _ hxm;have x3:=hcf _ hxm;obtain ⟨⟨op,n,args,outs⟩,hx⟩ : ∃ x,code[j]=x:=⟨_,rfl⟩
       rw [hx] at hR x0 x1 x2 x3;simp only [Ss.Ins.small,af,aj] at x0 x1 x2 hR;have cp:=cpu op x3.1
       refine bt hjt hx ?_
       refine QH 17 2 ?_;generalize Ss.pure op=pp at *
       refine QP ?_;refine QL (cp) ?_
       cases pp with
       | true =>
        simp only [if_true,List.nil_append] at hR;refine QW ?_
        refine bx hwj ?_
        show js _ _ _ _ _ _ _;refine zu (b':=T3.nx) old3.1 ?_;refine jT [0,1] (by conv=>lhs; simp [Fr.only]) hwf (by decide) (by simp [pP,pT,aP,aT]) (by conv=>lhs; simp [pP,pT,aP,aT]) (by conv=>lhs; simp [pP,pT,aP,aT]) (by conv=>lhs; simp [pP,pT,aP,aT]) ⟨?_,j+1,nd,L,hM,hR,hjt,rfl,by simp [Fr.only,Fr.look,hwj],by simp⟩;omega
       | false =>
        simp only [aF,if_false] at hR;have m1:=hmk nd args hndl x1;have m2:=hmk _ outs (m1.len.trans hndl) x0;have m3:=Ss.marks_trans (Ss.marks_trans hM m1) m2;have cm1:=cmark nd args [none,none] hndl x2.1 x1;have cm2:=cmark _ outs [none,none] (m1.len.trans hndl) x2.2 x0;generalize Ss.dfs t (N+1) nd args=nd1 at *
        generalize Ss.dfs t (N+1) nd1 outs=nd2 at *
        refine bQ ?_
        refine QP ?_;refine ql rfl (by rfl) rfl cm1 ?_;rintro X T9 ⟨rfl,rfl⟩;refine QW ?_;refine QP ?_;refine ql rfl (by rfl) rfl cm2 ?_;rintro X T9 ⟨rfl,rfl⟩;refine QW ?_
        refine bx hwj ?_
        show js _ _ _ _ _ _ _;refine zu (b':=T3.nx) old3.1 ?_;refine jT [0,1] (by conv=>lhs; simp [Fr.only]) hwf (by decide) (by simp [pP,pT,aP,aT]) (by conv=>lhs; simp [pP,pT,aP,aT]) (by conv=>lhs; simp [pP,pT,aP,aT]) (by conv=>lhs; simp [pP,pT,aP,aT]) ⟨?_,j+1,nd2,L++args++outs,m3,by rw [hR]; simp,hjt,rfl,by simp [Fr.only,Fr.look,hwj],by simp⟩;omega
      ·have hje:j=code.length:=by omega
       subst hje;rw [List.drop_length,List.flatMap_nil,List.nil_append] at hR;have hndl:nd.length=N:=by rw [hM.len,hnd0l]
       have m1:=hmk nd az hndl f2;have m2:=Ss.marks_trans hM m1;have cm1:=cmark nd az [none] hndl s3 f2;generalize Ss.dfs t (N+1) nd az=nd1 at *
       refine bx hjt ?_
       refine QP ?_;refine ql rfl (by rfl) rfl cm1 ?_;rintro X T9 ⟨rfl,rfl⟩;refine QW ?_
       by_cases hbr:Ss.branches ⟨tk,ta,to,az⟩=true
       ·have hta:=f3 hbr;rw [if_pos hbr] at hR;have hta1 : ∀ v∈[ta],Ss.InR N v:=fun v hv=>by rw [aW] at hv; subst hv; exact hta
        have m3:=hmk nd1 [ta] (m1.len.trans hndl) hta1;have m4:=Ss.marks_trans m2 m3;have cm2:=cmark nd1 [ta] [none,none] (m1.len.trans hndl) (by simp) hta1;generalize Ss.dfs t (N+1) nd1 [ta]=nd2 at *
        simp only [Ss.branches,bq,aj] at hbr
        by_cases h2:tk=2
        ·refine bx h2 ?_
         refine QP ?_;refine ql rfl (by rfl) rfl (zk (GhostArgs.one [] _ (frz1 (k:=2) (len:=1) (by simp) rfl rfl rfl)) cm2) ?_;rintro X T9 ⟨rfl,rfl⟩;refine QW ?_
         refine bx hw ?_
         show js _ _ _ _ _ _ _;refine zu (b':=T3.nx) old3.1 ?_;refine jT [0] (by conv=>lhs; simp [Fr.only]) hwf (by decide) (by simp [pP,pT,aP,aT]) (by conv=>lhs; simp [pP,pT,aP,aT]) (by conv=>lhs; simp [pP,pT,aP,aT]) (by conv=>lhs; simp [pP,pT,aP,aT]) ⟨?_,k+1,nd2,L++az++[ta],m4,by rw [hR,hrest]; simp,hkt,rfl,by simp [Fr.only,Fr.look,hw],by simp⟩;omega
        ·have h3:tk=3:=by rcases hbr with h | h; exact absurd h h2; exact h
         refine bt h2 h3 ?_
         refine QP ?_;refine ql rfl (by rfl) rfl (zk (GhostArgs.one [] _ (frz1 (k:=2) (len:=1) (by simp) rfl rfl rfl)) cm2) ?_;rintro X T9 ⟨rfl,rfl⟩;refine QW ?_
         refine bx hw ?_
         show js _ _ _ _ _ _ _;refine zu (b':=T3.nx) old3.1 ?_;refine jT [0] (by conv=>lhs; simp [Fr.only]) hwf (by decide) (by simp [pP,pT,aP,aT]) (by conv=>lhs; simp [pP,pT,aP,aT]) (by conv=>lhs; simp [pP,pT,aP,aT]) (by conv=>lhs; simp [pP,pT,aP,aT]) ⟨?_,k+1,nd2,L++az++[ta],m4,by rw [hR,hrest]; simp,hkt,rfl,by simp [Fr.only,Fr.look,hw],by simp⟩;omega
       ·rw [if_neg hbr] at hR;simp only [Ss.branches,bq,aj,not_or] at hbr;obtain ⟨h2,h3⟩:=hbr
        refine bv h2 h3 hw ?_
        show js _ _ _ _ _ _ _;refine zu (b':=T3.nx) old3.1 ?_;refine jT [0] (by conv=>lhs; simp [Fr.only]) hwf (by decide) (by simp [pP,pT,aP,aT]) (by conv=>lhs; simp [pP,pT,aP,aT]) (by conv=>lhs; simp [pP,pT,aP,aT]) (by conv=>lhs; simp [pP,pT,aP,aT]) ⟨?_,k+1,nd1,L++az,m2,by rw [hR,hrest]; simp,hkt,rfl,by simp [Fr.only,Fr.look,hw],by simp⟩;omega
    ·have hke:k=bs.length:=by omega
     subst hke;rw [List.drop_length,List.flatMap_nil,List.append_nil] at hR;subst hR;have heq:nd=D:=Ss.marks_eq (by rw [hnd0]; exact hM) (by rw [hnd0,hn0]; exact hdn) fun v=>Iff.rfl
     subst heq;have hndl:nd.length=N:=by rw [hM.len,hnd0l]
     have hno:pn≠on:=Ne.symm hdis.2.2
     refine bJ hkt bn bo gn3 hno ?_
     have hgo:(St T3 [(on,some (1,nd.map V.bool))] [some (1,[.func 68 [.ptr pn 0, .ptr (lid T3.nx 0) 0, .ptr pa 0]])]).get on=some (1,nd.map V.bool):=(bo _ _).trans (by simp [uGet]);refine qy hwf9 ((Ghost.freeze1 hgo (jq V.bool (fun _=>rfl) _) (by simp [hndl])).toB _) ⟨?_,fun o ho => ?_⟩ (by simp)
     ·show S.nx<=lid T3.nx _;have:=old3.1;simp only [lid]; omega
     ·have h1:o≠on:=by have:=hge.1; omega
      rw [KC,if_neg h1,jh (by have:=old3.1; omega)];simp only [uGet,if_neg h1];exact old3.2 o ho
end Go.Vw
namespace Ss
theorem dceOut_t {e:Env} {f:Fn} (h:check e f=true):dceOut e f=(dceF f,0):=by simp [dceOut,h]
theorem dceOut_f {e:Env} {f:Fn} (h:check e f=false):dceOut e f=(⟨⟨[],[]⟩,[],[]⟩,6):=by simp [dceOut,h]
theorem tab_in {f:Fn} (h:DOk f) : ∀ t,askTab f=t -> ∀ l∈t, ∀ u∈l,InR f.types.length u:=by
 rintro t rfl l hl u hu;obtain ⟨i,hi⟩:=aB.1 hl;have hu':u∈(askTab f).getD ((i:Int)).toNat []:=by
  rw [ag,Int.toNat_natCast,hi]; exact hu
 rcases ZX h (i:Int) u (by omega) hu' with ⟨b,hb,x,hx,_,_,hxu⟩ | ⟨b,hb,e,he,hq⟩
 ·exact h.args b hb x hx u hxu
 ·exact h.eargs b hb e he u (List.of_mem_zip hq).2
theorem dNeed_len {f:Fn} (h:DOk f):(dNeed f).length=f.types.length:=by
 rw [(dNeed_marks h).len,List.length_replicate]
end Ss
namespace Go.Vw
open Go.Proofs Go.RowKit
theorem Needed_v (e:Ss.Env) (f:Ss.Fn) (hf:f.Fits) (hc:Ss.check e f=true):bS 25 [jI f] (vl V.bool (Ss.dNeed f)) :=
 Needed0_v f hf (Ss.check_small hc) (Ss.check_dok hc) (Ss.tab_in (Ss.check_dok hc))
/-! Blocks of one's own, of which one is turned at a time. -/
structure BInv (S H:Store) (hs:List Nat) (ob:Nat) (bs:List Ss.Block) (T:Store) (rs:List (List V)) (ids:List Nat):Prop where
 old:Agree S T
 hd : ∀ o∈hs,T.get o=H.get o
 al : ∀ o∈hs,(H.get o).isSome=true
 cb:T.get ob=some (6,rs.flatten)
 own:Rows T blkD je bs rs ids
 nd:(hs++ob::ids).Nodup
 lt : ∀ o∈hs++ob::ids,S.nx<=o
theorem some_lt {T:Store} (hw:T.Wf) {o:Nat} (h:(T.get o).isSome=true):o<T.nx:=by
 cases hg:T.get o with
 | none=>rw [hg] at h; cases h
 | some c=>exact jl hw hg
theorem BInv.all_lt {S H:Store} {hs:List Nat} {ob:Nat} {bs:List Ss.Block} {T:Store} {rs:List (List V)} {ids:List Nat} (h:BInv S H hs ob bs T rs ids) (hw:T.Wf) : ∀ o∈hs++ob::ids,o<T.nx:=fun o ho=>by
 refine some_lt hw ?_;rcases aG.1 ho with ho | ho
 ·rw [h.hd o ho]; exact h.al o ho
 ·rcases aL.1 ho with rfl | ho
  ·rw [h.cb]; rfl
  ·exact h.own.owl.alive o ho
theorem BInv.at {S H:Store} {hs:List Nat} {ob:Nat} {bs:List Ss.Block} {T:Store} {rs:List (List V)} {ids:List Nat} (h:BInv S H hs ob bs T rs ids) (hw:T.Wf) {i:Nat} (hi:i<bs.length) :
  ∃ (r1:List (List V)) (r2:List (List V)) (i1 i2:List Nat) (op oc oe:Nat) (rc:List (List V)) (ce:List V) (ip ic ie:List Nat),rs=r1++[.slice op 0 bs[i].params.length, .slice oc 0 bs[i].code.length,vint bs[i].term.kind,vint bs[i].term.arg, .slice oe 0 bs[i].term.to.length,vl vint bs[i].term.args]::r2/\(∀ s∈r1,s.length=6)/\r1.length=i /\
   T.get op=some (1,bs[i].params.map vint)/\T.get oc=some (4,rc.flatten)/\Rows T insD jp bs[i].code rc ic/\T.get oe=some (2,ce)/\OwL T (reps bs[i].term.to.length KZ) ce (ju jk bs[i].term.to) ie /\
   ids=i1++((op::oc::(ic++oe::ie))++i2)/\(hs++ob::(op::oc::(ic++oe::ie))).Nodup /\
   ∀ (T':Store) (r':List V) (b':Ss.Block) (ii':List Nat),T.nx<=T'.nx->(∀ o,o<T.nx->o≠ob->o∉op::oc::(ic++oe::ie)->T'.get o=T.get o)->T'.get ob=some (6,(r1++r'::r2).flatten)->OwL T' blkD r' (je b').cells ii'->ii'.Nodup->(∀ o∈ii',o∈op::oc::(ic++oe::ie)\/T.nx<=o) ->
    BInv S H hs ob (bs.set i b') T' (r1++r'::r2) (i1++(ii'++i2)):=by
 have hlt:=h.all_lt hw;obtain ⟨old,hd,al,cb,own,nd,lt⟩:=h;obtain ⟨r1,r,r2,i1,ii,i2,rfl,hl,rfl,hb,hput⟩:=own.at (ac hi);have hr6:=own.len.2;obtain ⟨op,oc,oe,rc,ce,ip,ic,ie,rfl,rfl,hop,hoc,hrc,hoe,hie⟩:=block_row hb;have sub:List.Sublist (op::oc::(ic++oe::ie)) (i1++((op::oc::(ic++oe::ie))++i2)):=(List.sublist_append_left _ _).trans (List.sublist_append_right _ _);refine ⟨r1,r2,i1,i2,op,oc,oe,rc,ce,ip,ic,ie,rfl,fun s hs=>hr6 s (by simp [hs]),hl,hop,hoc,hrc,hoe,hie,rfl,List.Sublist.nodup ((List.Sublist.refl hs).append (sub.cons_cons ob)) nd, ?_⟩;intro T' r' b' ii' hnx hk hcb how hnd hin;generalize op::oc::(ic++oe::ie)=ii at *
 have cnt : ∀ o,(hs++ob::(i1++(ii++i2))).count o<=1:=fun o=>List.nodup_iff_count.1 nd o
 simp only [List.count_append,List.count_cons] at cnt;have pos : ∀ {o:Nat} {l:List Nat},o∈l->1<=l.count o:=fun h=>List.count_pos_iff.2 h
 have nob : ∀ o,o∈hs\/o∈i1\/o∈ii\/o∈i2->o≠ob:=by
  rintro o ho rfl;have c:=cnt o;simp only [beq_self_eq_true,if_true] at c;rcases ho with ho | ho | ho | ho<;>(have:=pos ho; omega)
 have nii : ∀ o,o∈hs\/o∈i1\/o∈i2->o∉ii:=by
  intro o ho hm;have c:=cnt o;have:=pos hm;rcases ho with ho | ho | ho<;>(have:=pos ho; omega)
 have keep : ∀ o,o∈hs\/o∈i1\/o∈i2->T'.get o=T.get o:=fun o ho=>by
  refine hk o (hlt o ?_) (nob o ?_) (nii o ho)
  ·rcases ho with ho | ho | ho<;>simp [ho]
  ·rcases ho with ho | ho | ho<;>simp [ho]
 refine ⟨⟨bh old.1 hnx,fun o ho => ?_⟩,fun o ho=>(keep o (.inl ho)).trans (hd o ho),al,hcb,hput T' r' b' ii' (fun o ho=>keep o ?_) how, ?_,fun o ho => ?_⟩
 ·rw [hk o (aU ho old.1) ?_ ?_]
  ·exact old.2 o ho
  ·rintro rfl;have:=lt o (by simp); omega
  ·intro hm;have:=lt o (by simp [hm]); omega
 ·rcases aG.1 ho with ho | ho
  ·exact .inr (.inl ho)
  ·exact .inr (.inr ho)
 ·refine List.nodup_iff_count.2 fun o => ?_
  simp only [List.count_append,List.count_cons];have c:=cnt o
  by_cases hm:o∈ii'
  ·have h1:=List.nodup_iff_count.1 hnd o;rcases hin o hm with hm2 | hge
   ·have:=pos hm2; omega
   ·have z1:hs.count o=0:=List.count_eq_zero.2 fun h=>by have:=hlt o (by simp [h]); omega
    have z2:i1.count o=0:=List.count_eq_zero.2 fun h=>by have:=hlt o (by simp [h]); omega
    have z3:i2.count o=0:=List.count_eq_zero.2 fun h=>by have:=hlt o (by simp [h]); omega
    have z4:(if (ob==o)=true then 1 else 0)=0:=by
     have:=hlt ob (by simp);rw [if_neg];simp only [beq_iff_eq]; omega
    omega
  ·have:ii'.count o=0:=List.count_eq_zero.2 hm;omega
 ·simp only [aG,aL] at ho;rcases ho with ho | ho | ho | ho | ho
  ·exact lt o (by simp [ho])
  ·exact lt o (by simp [ho])
  ·exact lt o (by simp [ho])
  ·rcases hin o ho with h | h
   ·exact lt o (by simp [h])
   ·have:=old.1; omega
  ·exact lt o (by simp [ho])
end Go.Vw
