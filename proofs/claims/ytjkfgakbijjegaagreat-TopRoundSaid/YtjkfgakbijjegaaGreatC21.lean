import Derived.Test.YtjkfgakbijjegaaGreatC20
/- Part of the proof. -/
set_option linter.unusedVariables false
set_option linter.unusedSimpArgs false
set_option maxRecDepth 10000
set_option maxHeartbeats 4000000

namespace Go.Vw
open Go.Proofs Go.RowKit Wm
attribute [-simp] List.map_set
theorem aj1 (ob co:Nat) (cs:List V) (n:Nat) (S:Store) (h:S.get ob=some (1,[.ptr co 0])) (h2:S.get co=some (6,cs)) (h3:cs[5]? = some (bI n)):bG 91 [.ptr ob 0] S fun r T=>r=bI n/\T=S:=by
 refine bE Tryz.func91 Tryz.ntmps91 fun hwf=>?_;have l1:=jx hwf h;have l2:=jx hwf h2;have g1 : ∀ l,(St S [] l).get ob=_:=fun l=>(jk l1).trans h;have g2 : ∀ l,(St S [] l).get co=_:=fun l=>(jk l2).trans h2;have h3':cs[5]? = some (.int .i64 (n:Int)):=h3;refine bj g1 g2 h3' ?_;exact bw
theorem av2 (m:Mod) (k:Nat) (f:Wm.Func) (s:Wm.Sig) (hs:m.types[f.type.toNat]?.getD ⟨[],[]⟩=s):funC m k f=(inC m f.body [] s.out s.out (fun c=>c.ops) ⟨k,0,s.inn++f.locals,[],0⟩).map fun _=>():=by
 unfold funC inC;simp only [hs];cases seqC m f.body (KM [] s.out s.out ⟨k,0,s.inn++f.locals,[],0⟩)<;>rfl
theorem auj {S:Store} {o:Nat} {xs ys:List Int} (ho:S.get o=some (1,xs.map bH)) (hb:xs.length+ys.length<=1000000):jB 1 8 S (.slice o 0 xs.length) (vl bH ys)=some (.slice S.nx 0 (xs.length+ys.length),(S.del o).add (1,(xs++ys).map bH)):=by
 have:=acz (rest:=[]) (ys:=ys) (by rw [List.append_nil]; exact ho) (by omega);rw [this,List.map_append]
theorem awj {co ob:Nat} {mv:V} {own:List Nat} {S:Store} (h:S.get ob=some (1,[.ptr co 0])) (hw:S.Wf) (hno:ob∉own):AtOk Tryz.prog (.func 91 [.ptr ob 0]) (fun c=>c.ops) co mv own S:=by
 refine ⟨_,_,rfl,rfl,rfl,fun c own' U hi hk => ?_⟩;obtain ⟨fo,ps,rfl,hx⟩:=hi;obtain ⟨fc,h1,_⟩:=hx.obj;exact aj1 ob co _ c.ops U ((hk.2 ob (jx hw h) hno).trans h) h1 rfl
theorem aos (m:Mod) (hm:okM m) (htm:tM m) (hty : ∀ f∈m.funcs, ∃ i:Nat,f.type=i /\ ∃ h:i<m.types.length,m.types[i].inn.length+f.locals.length<=32) (htl : ∀ f∈m.funcs,tL f.body/\cL f.body<=512) (hgl:m.globals.length<=1000000) (S:Store) (E:EP) (hE : ∀ e T,jdV m 0 m.funcs = .error e->Kept S [] T->E (jY 55 e) T) :
  VCallsX Tryz.prog 19 [.ref (jR m)] S (fun r T=>jdV m 0 m.funcs = .ok ()/\r = .tuple []/\Kept S [] T) E:=by
 have q3:=hm.fs.1;obtain ⟨MV,hMV⟩ : ∃ MV,V.ref (jR m)=MV:=⟨_,rfl⟩
 have hmv0:MV = .ref (.agg [vl je m.types,vl jp m.imports,vl encF m.funcs,bH m.pages,bH m.most,vl jv m.globals,vl jr m.exports,bH m.start,vl jq m.datas]):=hMV.symm;have hins : ∀ co x,tI x->InsX Tryz.prog 127 co MV m x:=fun co x hx=>by rw [<-hMV]; exact ah9 co m htm _ x (aT _) hx
 simp only [jR] at hMV ⊢;refine jc (c:=jf Tryz.f19) Tryz.func19 rfl rfl (by simp [Tryz.ntmps19]) ?_;rw [Tryz.ntmps19];intro hwf;refine bk ?_;refine bB [0,10,11,12] (fun j σ T => ∃ k:Nat,k<=m.funcs.length/\j=m.funcs.length-k/\jdV m k (m.funcs.drop k)=jdV m 0 m.funcs/\Kept S [] T/\T.Wf/\σ=[(0, .ref (.agg [vl je m.types,vl jp m.imports,vl encF m.funcs,bH m.pages,bH m.most,vl jv m.globals,vl jr m.exports,bH m.start,vl jq m.datas])),(10,vl encF m.funcs),(11,bI m.funcs.length),(12,bI k)]) m.funcs.length ?_ ?_
 .exact ⟨0,by omega,by omega,rfl,jN (by simp),by rw [jh hwf]; exact hwf,by simp [Fr.oy,Fr.lk]⟩
 .rintro j σ T ⟨k,hk,rfl,hr,hkT,wT,rfl⟩;rw [<-jh wT];by_cases hkl:k<m.funcs.length
  .rw [aj hkl,jdV] at hr;have hix : ∀ S,jz 3 S (vl encF m.funcs) (.int .i64 (k:Int))=some (.ref (encF m.funcs[k])):=fun S=>ZQ encF 3 (fun _=>rfl) _ _ hkl _ S;have hw:IntKind.i64.wrap ((k:Int)+1)=(k:Int)+1:=jP hkl (by omega);have hfm:=ah hkl;obtain ⟨i,hti,hil,hlo⟩:=hty _ hfm;obtain ⟨htl1,htl2⟩:=htl _ hfm;have hbl:=(hm.fs.2 _ hfm).2.1;obtain ⟨x,hx⟩ : ∃ x,m.funcs[k]=x:=⟨_,rfl⟩
   rw [hx] at hr hix hti hlo htl1 htl2 hbl;obtain ⟨sg,hsg⟩ : ∃ sg,m.types[i]=sg:=⟨_,rfl⟩
   have hts:=htm _ (ah hil);rw [hsg] at hlo hts;have hfe:=av2 m k x sg (by rw [hti,ba,aa hil,hsg]; rfl);rw [hfe] at hr;obtain ⟨xt,xl,xb⟩:=x;simp only at hti hlo htl1 htl2 hr hfe hbl;subst hti;have hgi : ∀ T,jz 2 T (vl je m.types) (.int .i64 (i:Int))=some (.ref (je sg)):=fun T=>by rw [<-hsg]; exact ZQ je 2 (fun _=>rfl) _ _ hil _ T
   simp only [je,encF] at hgi hix;refine ar7 (b':=T.nx) hkT.1 ?_;have hwf:=wT;refine bm hkl hix ?_;show VWp _ _ _ _ _ _ _;refine qi 3 rfl (WH (k:=0) (s:=3) (cs:=[bI i,vl bH xl,vl encI xb]) (by simp) (by simp) rfl (by simp)) (by conv=>lhs; simp [Fr.set]) ?_;refine QT ?_;refine XD E (⟨DU [],DU [],T,[],lid T.nx 1,false⟩) [] [0,1,2,3,4,5,6,7,8,9,10] [] (ho:=jeU T 1) (hz:=jaY T [none] 1 (by simp)) (r:=by conv=>lhs;simp[QV,↓ju,ZR,Zs,zz,jl,ji,V.nj,V.nj1,V.bK,hgi]) (k:=?_);refine jo rfl (by conv=>lhs; simp [QV]) (jaY T _ 1 (by simp)) ?_;refine jo rfl (by conv=>lhs; simp [QV]) (jaY T _ 1 (by simp)) ?_;refine ZM (r:=by conv=>lhs;simp[QV,↓ju,ZR,Zs,zz,jl,ji,V.nj,V.nj1,V.bK]) (k:=?_);refine jy ?_;refine qi 4 rfl (WH (k:=1) (s:=2) (cs:=[vl bH sg.inn,vl bH sg.out]) (by simp) (by simp) rfl (by simp)) (by conv=>lhs; simp [Fr.set]) ?_;refine QO [0,2,3,4,10,11,12] ?_;refine QK [] ?_;have hmv2:V.ref (.agg [vl je m.types,vl jp m.imports,vl encF m.funcs, .int .i64 m.pages, .int .i64 m.most,vl jv m.globals,vl jr m.exports, .int .i64 m.start,vl jq m.datas])=MV:=hmv0.symm;rw [<-hmv0,hmv2];have hmr : ∀ f,MV.ren f=MV:=fun f=>by rw [hmv0]; simp
   have hmi : ∀ f,MV.ids f=true:=fun f=>by rw [hmv0]; simp
   have hmv1:MV.one=true:=by rw [hmv0]; rfl
   have hmn:MV.ncells=1:=by rw [hmv0]; rfl
   have hmc:MV.cells=[MV]:=by rw [hmv0]; rfl
   have hmjj:MV.nj1=true:=by rw [hmv0]; rfl
   obtain ⟨CI,hCI⟩ : ∃ CI,sg.inn.map bH=CI:=⟨_,rfl⟩
   obtain ⟨CA,hCA⟩ : ∃ CA,(sg.inn++xl).map bH=CA:=⟨_,rfl⟩
   obtain ⟨n1,hn1⟩ : ∃ n,sg.inn.length=n:=⟨_,rfl⟩
   obtain ⟨n2,hn2⟩ : ∃ n,sg.inn.length+xl.length=n:=⟨_,rfl⟩
   have hCA1 : ∀ f,V.renL f CA=CA:=fun f=>by rw [<-hCA]; exact ab4 f _
   have hCA2 : ∀ f,V.idsL f CA=true:=fun f=>by rw [<-hCA]; exact abx f _
   have hcl : ∀ l,bG 89 [vl bH sg.inn] (St T [] l) (fun r U=>r = .slice (lid T.nx l.length) 0 n1/\U=St T [] (l++[some (1,CI)])):=fun l=>by
    have:=ae7 (St T [] l) sg.inn (by omega);rw [jH,aco,Nat.add_zero, <-at6,hn1,hCI] at this;exact this
   have hap : ∀ (l:OL) (p:Nat),(St T [] l).get (lid T.nx p)=some (1,CI)->p<l.length->jB 1 8 (St T [] l) (.slice (lid T.nx p) 0 n1) (vl bH xl)=some (.slice (lid T.nx l.length) 0 n2,St T [] (l.set p none++[some (1,CA)])):=fun l p hg hp=>by
    have:=auj (S:=St T [] l) (o:=lid T.nx p) (xs:=sg.inn) (ys:=xl) (by rw [hg,hCI]) (by omega);rw [hn1] at this;rw [this,YQ hp,qT,hCA];rw [show n1+xl.length=n2 by omega];rw [show (St T [] l).nx=lid T.nx l.length from jH ..]
   refine QT ?_;refine ajc (ZZ.mk _ (St T [] []) (St T [] []) [10030]) rfl (by kernel_rfl) (by conv=>lhs; reduce) (by kernel_rfl) zOk (Store.sub_refl _) (sz:=12) (by kernel_rfl) [0,1,2,3,5,6] (by kernel_rfl) (by conv=>lhs; reduce) (fuel:=6) rfl [(0,MV),(3, .ref (.agg [.int .i64 (i:Int),vl bH xl,vl encI xb])),(4, .ref (.agg [vl bH sg.inn,vl bH sg.out])),(5, .ptr (lid T.nx 0) 0),(10,vl encF m.funcs),(11, .int .i64 (m.funcs.length:Int)),(12, .int .i64 (k:Int))] (St T [] [some (1,[.ptr (lid T.nx 1) 0]),some (6,[MV, .int .i64 (k:Int), .int .i64 0, .slice (lid T.nx 2) 0 n2, .nils, .int .i64 0]),some (1,CA)]) ?K ?H
   case H =>
    refine QW ?_;refine jap 4 10 (by kernel_rfl) ?_ ?_
    .refine acl rfl rfl rfl (acs (jcu _ _ (by simp [subU])) (by simp [subL])) (hcl _) zOk ?_;refine jap 7 10 (by kernel_rfl) ?_ ?_
     .refine qL rfl rfl rfl (hap _ 0 (by simp) (by simp)) zOk ?_;refine jap 8 10 (by kernel_rfl) ?_ ?_
      .refine KE rfl rfl ⟨_,by conv=>lhs; simp [jg,hmv1,hmn,hmc]⟩ rfl ?_;refine jap 9 10 (by kernel_rfl) ?_ ?_
       .refine qL rfl rfl rfl (by conv=>lhs; simp [jg,hmv1,hmn,hmc]) zOk ?_;refine ql 10 (by kernel_rfl) ?_;refine qL rfl rfl rfl (by conv=>lhs; simp [jg]) zOk ?_;refine ql 11 (by kernel_rfl) ?_;refine qL rfl rfl rfl (by conv=>lhs; simp [jg]) zOk ?_;refine JX (by kernel_rfl) ⟨_,rfl, ?_⟩;exact Yd [0,3,4,5,10,11,12] [3,2,1] (by conv=>lhs; simp [Fr.oy,Fr.lk]) hwf (by decide) (by simp [hmr,hmi,hCA1,hCA2]) (by conv=>lhs; simp [hmr,hmi,hCA1,hCA2]) (by conv=>lhs; simp [hmr,hmi,hCA1,hCA2]) (by conv=>lhs; simp [hmr,hmi,hCA1,hCA2])
       .refine qL rfl rfl rfl (by conv=>lhs; simp [jg]) zOk ?_;refine ql 9 (by kernel_rfl) ?_;refine qL rfl rfl rfl (by conv=>lhs; simp [jg,hmv1,hmn,hmc]) zOk ?_;refine ql 11 (by kernel_rfl) ?_;refine qL rfl rfl rfl (by conv=>lhs; simp [jg]) zOk ?_;refine JX (by kernel_rfl) ⟨_,rfl, ?_⟩;exact Yd [0,3,4,5,10,11,12] [2,3,1] (by conv=>lhs; simp [Fr.oy,Fr.lk]) hwf (by decide) (by simp [hmr,hmi,hCA1,hCA2]) (by conv=>lhs; simp [hmr,hmi,hCA1,hCA2]) (by conv=>lhs; simp [hmr,hmi,hCA1,hCA2]) (by conv=>lhs; simp [hmr,hmi,hCA1,hCA2])
      .refine qL rfl rfl rfl (by conv=>lhs; simp [jg]) zOk ?_;refine ql 8 (by kernel_rfl) ?_;refine KE rfl rfl ⟨_,by conv=>lhs; simp [jg,hmv1,hmn,hmc]⟩ rfl ?_;refine ql 9 (by kernel_rfl) ?_;refine qL rfl rfl rfl (by conv=>lhs; simp [jg,hmv1,hmn,hmc]) zOk ?_;refine ql 11 (by kernel_rfl) ?_;refine qL rfl rfl rfl (by conv=>lhs; simp [jg]) zOk ?_;refine JX (by kernel_rfl) ⟨_,rfl, ?_⟩;exact Yd [0,3,4,5,10,11,12] [2,3,1] (by conv=>lhs; simp [Fr.oy,Fr.lk]) hwf (by decide) (by simp [hmr,hmi,hCA1,hCA2]) (by conv=>lhs; simp [hmr,hmi,hCA1,hCA2]) (by conv=>lhs; simp [hmr,hmi,hCA1,hCA2]) (by conv=>lhs; simp [hmr,hmi,hCA1,hCA2])
     .refine qL rfl rfl rfl (by conv=>lhs; simp [jg]) zOk ?_;refine ql 7 (by kernel_rfl) ?_;refine qL rfl rfl rfl (hap _ 0 (by simp) (by simp)) zOk ?_;refine ql 8 (by kernel_rfl) ?_;refine KE rfl rfl ⟨_,by conv=>lhs; simp [jg,hmv1,hmn,hmc]⟩ rfl ?_;refine ql 9 (by kernel_rfl) ?_;refine qL rfl rfl rfl (by conv=>lhs; simp [jg,hmv1,hmn,hmc]) zOk ?_;refine ql 11 (by kernel_rfl) ?_;refine qL rfl rfl rfl (by conv=>lhs; simp [jg]) zOk ?_;refine JX (by kernel_rfl) ⟨_,rfl, ?_⟩;exact Yd [0,3,4,5,10,11,12] [1,3,2] (by conv=>lhs; simp [Fr.oy,Fr.lk]) hwf (by decide) (by simp [hmr,hmi,hCA1,hCA2]) (by conv=>lhs; simp [hmr,hmi,hCA1,hCA2]) (by conv=>lhs; simp [hmr,hmi,hCA1,hCA2]) (by conv=>lhs; simp [hmr,hmi,hCA1,hCA2])
    .refine qL rfl rfl rfl (by conv=>lhs; simp [jg]) zOk ?_;refine ql 4 (by kernel_rfl) ?_;refine acl rfl rfl rfl (acs (jcu _ _ (by simp [subU])) (by simp [subL])) (hcl _) zOk ?_;refine ql 7 (by kernel_rfl) ?_;refine qL rfl rfl rfl (hap _ 1 (by simp) (by simp)) zOk ?_;refine ql 8 (by kernel_rfl) ?_;refine KE rfl rfl ⟨_,by conv=>lhs; simp [jg,hmv1,hmn,hmc]⟩ rfl ?_;refine ql 9 (by kernel_rfl) ?_;refine qL rfl rfl rfl (by conv=>lhs; simp [jg,hmv1,hmn,hmc]) zOk ?_;refine ql 11 (by kernel_rfl) ?_;refine qL rfl rfl rfl (by conv=>lhs; simp [jg]) zOk ?_;refine JX (by kernel_rfl) ⟨_,rfl, ?_⟩;exact Yd [0,3,4,5,10,11,12] [0,3,2] (by conv=>lhs; simp [Fr.oy,Fr.lk]) hwf (by decide) (by simp [hmr,hmi,hCA1,hCA2]) (by conv=>lhs; simp [hmr,hmi,hCA1,hCA2]) (by conv=>lhs; simp [hmr,hmi,hCA1,hCA2]) (by conv=>lhs; simp [hmr,hmi,hCA1,hCA2])
   case K =>
    have hLn:(sg.inn++xl).length=n2:=by rw [lA]; exact hn2
    obtain ⟨L,hL⟩ : ∃ L,sg.inn++xl=L:=⟨_,rfl⟩
    rw [hL] at hLn hCA hr;have hsee:Seen (St T [] [some (1,[.ptr (lid T.nx 1) 0]),some (6,[MV, .int .i64 (k:Int), .int .i64 0, .slice (lid T.nx 2) 0 n2, .nils, .int .i64 0]),some (1,CA)]) (St T [] [some (1,[.ptr (lid T.nx 1) 0]),some (6,[MV,bI k,bI 0,vl bH L, .nils,bI 0]),none]):=by
     have hfz:=jdF (B:=T) (u:=[]) (l:=[some (1,[.ptr (lid T.nx 1) 0]),some (6,[MV,bI k, .int .i64 0, .slice (lid T.nx 2) 0 n2, .nils, .int .i64 0]),some (1,CA)]) (k:=2) (enc:=bH) (s:=1) (fun _=>rfl) (fun _=>rfl) L (by simp) (by rw [Ji,hCA]; rfl);rw [hLn] at hfz;have:=Seen.cell (o:=lid T.nx 1) (s:=6) (cs:=[MV,bI k, .int .i64 0, .slice (lid T.nx 2) 0 n2, .nils, .int .i64 0]) (i:=3) hfz (Kr _ _ _) (by simp) rfl (by simp);rw [Yn (by simp)] at this;exact this
    refine Jf (Seen.reach hsee) ?_;have hkU:Kept T [] (St T [] [some (1,[.ptr (lid T.nx 1) 0]),some (6,[MV,bI k,bI 0,vl bH L, .nils,bI 0]),none]):=jN (by simp);have gob:(St T [] [some (1,[.ptr (lid T.nx 1) 0]),some (6,[MV,bI k,bI 0,vl bH L, .nils,bI 0]),none]).get (lid T.nx 0)=some (1,[.ptr (lid T.nx 1) 0]):=by simp
    have gco:(St T [] [some (1,[.ptr (lid T.nx 1) 0]),some (6,[MV,bI k,bI 0,vl bH L, .nils,bI 0]),none]).get (lid T.nx 1)=some (6,[MV,bI k,bI 0,vl bH L, .nils,bI 0]):=by simp
    obtain ⟨U,hU⟩ : ∃ U,St T [] [some (1,[.ptr (lid T.nx 1) 0]),some (6,[MV,bI k,bI 0,vl bH L, .nils,bI 0]),none]=U:=⟨_,rfl⟩
    obtain ⟨ob,hob⟩ : ∃ ob,lid T.nx 0=ob:=⟨_,rfl⟩
    obtain ⟨co,hco⟩ : ∃ co,lid T.nx 1=co:=⟨_,rfl⟩
    have hlo1:T.nx<=ob/\T.nx<=co/\ob≠co:=by rw [<-hob, <-hco]; simp [lid]
    rw [hU] at hkU gob gco ⊢;rw [hob] at gob ⊢;rw [hco] at gob gco;refine jD fun wU => ?_;have hci:Go.Vw.CI co MV ⟨k,0,L,[],0⟩ [co,co] U:=⟨co,[],rfl,⟨⟨.nils,gco, .inl ⟨rfl,rfl,rfl⟩⟩,trivial,by simp,List.Pairwise.nil⟩⟩
    have hLl:L.length<=32:=by omega
    have hg1:=jx wU gob;have hg2:=jx wU gco;have hgh:GhostArgs [.ptr co 0,vl encI xb, .agg [.nils,vl bH sg.out],vl bH sg.out, .func 91 [.ptr ob 0]] U [.ptr co 0,vl encI xb,je ⟨[],sg.out⟩,vl bH sg.out, .func 91 [.ptr ob 0]] U :=
     GhostArgs.one [.ptr co 0,vl encI xb] [vl bH sg.out, .func 91 [.ptr ob 0]] (Zj (GhostArgs.one [] [vl bH sg.out] (Ghost.nl U)))
    have hKK : ∀ T',Kept U [co,co] T'->Kept S [] T':=fun T' hk=>by
     have h1:=hkT.1;have h2:=hkU.1;have h3:=hk.1;refine ⟨by omega,fun o ho _ => ?_⟩;rw [hk.2 o (by omega) (by simp; omega),hkU.2 o (by omega) (by simp)];exact hkT.2 o ho (by simp)
    have hwi:=(acp co MV hmjj m xb ⟨[],sg.out⟩ sg.out (.func 91 [.ptr ob 0]) (fun c=>c.ops) ⟨k,0,L,[],0⟩ [co,co] U E 0 hci ⟨by simp,by simp⟩ (by simp only [aF]; omega) htm htl1 (by omega) ⟨⟨hm.im.1,hm.fs.1,hm.ty.1⟩,hgl,by show L.length<=1000000; omega⟩ (by show 0+cL xb<=1000000000000; omega) (fun x hx=>hins co x (aag htl1 x hx)) ⟨by simp,hts.2,hts.2⟩ (by omega) (awj gob wU (by simp; omega)) (fun e T' he hk=>hE e T' (by rw [<-hr,he]; rfl) (hKK T' hk))).wf;refine XQ E ?_ (r:=by conv=>lhs;simp[QV,gob]);refine jb rfl (qU hgh hwi) ?_;rintro _ T' ⟨⟨c',hin,rfl,own1,_,hk1,_⟩,w'⟩;rw [hin] at hr;simp only [Except.map] at hr;have hk':=hKK T' hk1;refine ja ?_;refine bi hw ?_;show zI _ _ _ _ _ _ _;exact again ⟨(by omega:m.funcs.length-(k+1)<m.funcs.length-k),k+1,(by omega),rfl,hr,hk',w',by simp [Fr.oy,Fr.lk,hw]⟩
  .have hke:k=m.funcs.length:=by omega
   subst hke;rw [List.drop_length,jdV] at hr;refine bk ?_;rw [jh wT];exact jn ⟨hr.symm,rfl,hkT⟩
theorem jda {w:World} {o:Oper} {y:Operand} {ρ:Operand->Value} (ho:o.op = .typeAssert y 20 55 true) (hy:ρ y = .nilIface):(execOp ρ o).run Tryz.prog w = .ok (.value (.tuple #[.agg #[.int .i64 0, .int .i64 0, .int .i64 0], .bool false])) w:=by
 simp [execOp,ho,hy,Instr.typeAssert,run_underlying Tryz.underlying55,Result.andThen]
theorem jee {w:World} {o:Oper} {y:Operand} {ρ:Operand->Value} {v:Value} (ho:o.op = .typeAssert y 20 55 true) (hy:ρ y = .iface 55 v):(execOp ρ o).run Tryz.prog w = .ok (.value (.tuple #[v, .bool true])) w:=by
 simp [execOp,ho,hy,Instr.typeAssert,run_underlying Tryz.underlying55,Result.andThen]
theorem af7 {w:World} {o:Oper} {y:Operand} {ρ:Operand->Value} (ho:o.op = .typeAssert y 20 55 true) (e:Option Flt) (hy:ρ y=WA 55 e) (m:Imm) (β:Objs) : ∃ v,(execOp ρ o).run Tryz.prog w = .ok (.value v) w/\Rep m β (assV e) v:=by
 cases e with
 | none=>exact ⟨_,jda ho hy,jcA _ (jcB _ _ _ _ _)⟩
 | some e=>exact ⟨_,jee ho hy,jcA _ (jcB _ _ _ _ _)⟩
def chkK (fo:Nat) (S:Store) (e:Option Flt) (T:Store):Prop := ∃ l,T=St S [(fo,some (3,[.int .i64 (e.getD (0,0,0)).1, .int .i64 (e.getD (0,0,0)).2.1, .int .i64 (e.getD (0,0,0)).2.2]))] l
theorem aly (fo:Nat) (S:Store) (d0 d1 d2:V) (u u':FrameMode) (e:Option Flt) (hf:S.get fo=some (3,[d0,d1,d2])) (hu:Recov u (WA 55 e) u'):jgi Tryz.prog 15 [.ptr fo 0] u u' S (chkK fo S e):=by
 refine ahd (c:=jf Tryz.f15) Tryz.func15 rfl rfl (by simp [Tryz.ntmps15]) rfl rfl rfl rfl rfl rfl rfl rfl (by simp [Tryz.ntmps15]) hu ?_;rw [Tryz.ntmps15];intro hwf;refine aam hwf ?_;refine QS (c:=Code.snd (jf Tryz.f15)) ?_;refine KR (x:=assV e) (fun _ _=>False) (fun _ _ _ h=>h.elim) rfl rfl (l1:=[_]) rfl (by conv=>lhs; reduce) rfl rfl (fun t h=>by cases h; decide) (by conv=>lhs; simp) (fun m β w a _ hF=>af7 rfl e ?_ m β) ?_
 .exact (show Rep m β (.raw (WA 55 e)) (a.tmps.getD 6 undef) from hF.rep 6).inv_raw
 have hl:=jx hwf hf;have g1 := @old1 S fo hl;have u1 : ∀ c c' l,(St S [(fo,some c)] l).upd fo c'=St S [(fo,some c')] l:=fun c c' l=>by rw [jT hl]; simp [uSet]
 rw [show St S [] []=St S [(fo,some (3,[d0,d1,d2]))] [] from old0 hl hf];cases e with
 | none =>
  simp only [assV];refine XN ?_;refine ja ?_;refine QS ?_;refine QS ?_;refine KR (x := .bool false) (fun _ _=>False) (fun _ _ _ h=>h.elim) rfl rfl (l1:=[_]) rfl (by conv=>lhs; reduce) rfl rfl (fun t h=>by cases h; decide) (by conv=>lhs; simp) ?_ ?_
  .intro m β w a _ hF;exact ⟨_,Zt Tryz.underlying20 rfl rfl (.inl ⟨(show Rep m β (.raw .nilIface) (a.tmps.getD 10 undef) from hF.rep 10).inv_raw,rfl⟩), .imm (.bool _)⟩
  refine XN ?_;refine ja ?_;refine bm g1 u1 ?_;exact ⟨_,rfl⟩
 | some e =>
  obtain ⟨e1,e2,e3⟩:=e;simp only [assV];refine XN ?_;refine ja ?_;refine QS ?_;refine QS ?_;refine KR (x := .bool true) (fun _ _=>False) (fun _ _ _ h=>h.elim) rfl rfl (l1:=[_]) rfl (by conv=>lhs; reduce) rfl rfl (fun t h=>by cases h; decide) (by conv=>lhs; simp) ?_ ?_
  .intro m β w a _ hF;exact ⟨_,Zt Tryz.underlying20 rfl rfl (.inr ⟨⟨_,_,(show Rep m β (.raw (WA 55 (some (e1,e2,e3)))) (a.tmps.getD 10 undef) from hF.rep 10).inv_raw⟩,rfl⟩), .imm (.bool _)⟩
  refine XN ?_;refine ja ?_;refine bm g1 u1 ?_;exact ⟨_,rfl⟩
theorem akr {P:Program} {N b t:Nat} {v:Value} {ds:List Deferred} {c:Code} {Q:Exit->Fr->Store->Prop} {σ σ':Fr} {S S':Store} (h:Reach N b σ S σ' S') (k:VWpD P N b t v ds c Q σ' S'):VWpD P N b t v ds c Q σ S:=by
 intro m β w a hS hF hv;obtain ⟨m1,β1,h1,h2,h3⟩:=h m β w a hS hF;refine wp_mono (k m1 β1 w a h1 h2 hv) ?_;rintro e a' w' ⟨a0,rfl,hv0,σ1,S1,m2,β2,q,r1,r2,r3⟩;exact ⟨a0,rfl,hv0,σ1,S1,m2,β2,q,r1,r2,h3.trans r3⟩
theorem alz {P:Program} {N b t0:Nat} {v:Value} {ds:List Deferred} {c:Code} {Q:Exit->Fr->Store->Prop} {σ:Fr} {S S':Store} (t:Nat) {x x':V} (hx:σ.lk t=x) (hg:Ghost x S x' S') (h:VWpD P N b t0 v ds c Q (σ.set t x') S'):VWpD P N b t0 v ds c Q σ S:=by
 refine akr (σ':=σ.set t x') (S':=S') ?_ h;intro m β w a hS hF;have hr:=hF.rep t;rw [hx] at hr;obtain ⟨m',β',h1,h2,h3⟩:=hg m β w _ hS hr;refine ⟨m',β',h1,⟨hF.size,hF.defers,fun u => ?_⟩,h2.toB b⟩;rw [Fr.look_set];split
 .rename_i e; subst e; exact h3
 .exact (hF.ext h2).rep u
structure okCh (m:Mod):Prop where
 ok:okM m
 nl : ∀ f∈m.funcs,nL f.body
 sl : ∀ k,(secW m k).length<=1000000000000
 od:okM (qo (qz m)).1
 tm:tM m
 ft : ∀ f∈m.funcs,0<=f.type
 tl : ∀ f∈m.funcs,tL f.body/\cL f.body<=512
 gl:m.globals.length<=1000000
 da : ∀ d∈m.datas,0<=d.at'/\d.at'<4294967296
 pg : -1<=m.pages/\m.pages<=16
theorem amb {m:Mod} (h:jaT m = .ok ()) (ht : ∀ f∈m.funcs,0<=f.type) : ∀ f∈m.funcs, ∃ i:Nat,f.type=i /\ ∃ h:i<m.types.length,m.types[i].inn.length+f.locals.length<=32:=by
 have key : ∀ l:List Wm.Func,allC (funP m) l = .ok ()->(∀ f∈l,0<=f.type) -> ∀ f∈l, ∃ i:Nat,f.type=i /\ ∃ h:i<m.types.length,m.types[i].inn.length+f.locals.length<=32:=by
  intro l
  induction l with
  | nil=>intro _ _ f hf; cases hf
  | cons x xs ih =>
   intro h ht f hf;simp only [allC] at h;cases hp:funP m x with
   | error e=>rw [hp] at h; cases h
   | ok u =>
    rw [hp] at h;rcases aE.1 hf with rfl | hf
    .have h0:=ht f (by simp);obtain ⟨i,hi⟩ : ∃ i:Nat,f.type=i:=⟨f.type.toNat,by omega⟩
     unfold funP Yz at hp;rw [hi] at hp;by_cases c1:(i:Int)<m.types.length
     .rw [bf c1] at hp;have hil:i<m.types.length:=by omega
      simp only [if_true,ba,aa hil,aJ] at hp;refine ⟨i,hi,hil, ?_⟩;by_cases c2:((m.types[i].inn.length+f.locals.length:Nat):Int)<=32
      .omega
      .rw [bg c2] at hp; simp at hp
     .rw [bg c1] at hp; simp at hp
    .exact ih h (fun y hy=>ht y (by simp [hy])) f hf
 have hf:jaT m=match allC (impP m) m.imports with
  | .error e => .error e
  | .ok _=>allC (funP m) m.funcs:=rfl
 rw [hf] at h;cases hi:allC (impP m) m.imports with
 | error e=>rw [hi] at h; cases h
 | ok u=>rw [hi] at h; exact key m.funcs h ht
theorem WU {P:Program} {N b t:Nat} {v:Value} {ds:List Deferred} {c:Code} {Q:Exit->Fr->Store->Prop} {σ σ':Fr} {S:Store} (ks:List Nat) (hk:σ.oy ks=σ') (H:VWpD P N b t v ds c Q σ' S):VWpD P N b t v ds c Q σ S:=by
 subst hk;exact fun m β w a hS hF hv=>H m β w a hS (hF.oy ks) hv
theorem jbc {S T:Store} {σ:Fr} {o2:Nat} {e:Flt} (hwS:S.Wf) (h2:σ.lk 2 = .ptr o2 0) (g2:T.get o2=some (3,(qh e).cells)) (hk:Kept S [] T) (hg : ∀ o,T.nx<=o->T.get o=none) :
  ∃ S2 xs,Seen T S2/\resL S2 σ [(2,some (some 3))]=some xs/\zq S.nx (fun r U=>r=qh e/\U=S) (tupV xs) S2:=by
 obtain ⟨l,rfl⟩:=aat hk hg;refine ⟨_,[qh e],Seen.refl _, ?_,jd hwS rfl ?_⟩
 .simp [resL,qC,h2,Jk,g2,qh]
 .simp [tupV,qh]
theorem ag9 (m:Mod) (h:okCh m):bF 7 [jR m] (qh (jfa m)):=by
 intro S;have qf:=aci m h.ok;have qe:=jfX m h.ok h.nl h.sl h.od;have cf:=af2 m h.ok h.ft;have ce:=amn m h.ok;have cr:=av1 m h.ok h.da h.pg;have cb:=fun hh=>aos m h.ok h.tm hh h.tl h.gl;obtain ⟨fw,hfw⟩ : ∃ f,few m=f:=⟨_,rfl⟩
 obtain ⟨ec,hec⟩ : ∃ f,(zm m).2=f:=⟨_,rfl⟩
 rw [hfw] at qf;rw [hec] at qe;have hch:jfa m=if fw=false then (7, -1,0) else if ec≠0 then (ec, -1,0) else match typesC m with
  | .error e=>e
  | .ok _=>(0,0,0):=by unfold jfa; rw [hfw,hec]; rfl
 have hty:typesC m=match jaT m with
  | .error e => .error e
  | .ok _=>match jbI m [] m.exports with
   | .error e => .error e
   | .ok _=>match restC m with
    | .error e => .error e
    | .ok _=>jdV m 0 m.funcs:=rfl
 have htf:=fun hh=>amb (m:=m) hh h.ft;obtain ⟨MV,hMV⟩ : ∃ MV,V.ref (jR m)=MV:=⟨_,rfl⟩
 have cf' : ∀ (S:Store) (E:EP),(∀ e T,jaT m = .error e->Kept S [] T->E (jY 55 e) T)->VCallsX Tryz.prog 16 [MV] S (fun r T=>jaT m = .ok ()/\r = .tuple []/\T=S) E:=by rw [<-hMV]; exact cf
 have ce' : ∀ (S:Store) (E:EP),(∀ e T,jbI m [] m.exports = .error e->Kept S [] T->E (jY 55 e) T)->VCallsX Tryz.prog 17 [MV] S (fun r T=>jbI m [] m.exports = .ok ()/\r = .tuple []/\T=S) E:=by rw [<-hMV]; exact ce
 have cr' : ∀ (S:Store) (E:EP),(∀ e T,restC m = .error e->Kept S [] T->E (jY 55 e) T)->VCallsX Tryz.prog 18 [MV] S (fun r T=>restC m = .ok ()/\r = .tuple []/\T=S) E:=by rw [<-hMV]; exact cr
 have cb':jaT m = .ok () -> ∀ (S:Store) (E:EP),(∀ e T,jdV m 0 m.funcs = .error e->Kept S [] T->E (jY 55 e) T)->VCallsX Tryz.prog 19 [MV] S (fun r T=>jdV m 0 m.funcs = .ok ()/\r = .tuple []/\Kept S [] T) E:=by rw [<-hMV]; exact fun hh S E=>cb (htf hh) S E
 simp only [jR] at qf qe hMV ⊢;obtain ⟨R,hR⟩ : ∃ R,jfa m=R:=⟨_,rfl⟩
 rw [hR];refine Km ?_;refine jbY (Q:=zq S.nx fun r T=>r=qh R/\T=S) (c:=jf Tryz.f7) Tryz.func7 rfl (by simp [Tryz.ntmps7]) fun m0' β0 w0 h0 hwf => ?_;have hres:resC Tryz.prog Tryz.f7=some [(2,some (some 3))]:=by conv=>lhs; reduce
 rw [Tryz.ntmps7];refine Zp rfl (aam hwf ?_);refine QY ?_;show VG _ _ _ _ _ _ _ _ _ _;refine Zp rfl ?_;refine qi 1 rfl (WH (k:=0) (s:=9) (cs:=[vl je m.types,vl jp m.imports,vl encF m.funcs,bH m.pages,bH m.most,vl jv m.globals,vl jr m.exports,bH m.start,vl jq m.datas]) (by simp) (by simp) rfl (by simp)) (by conv=>lhs; simp [Fr.set]) ?_;refine QP ?_;refine QL (qf) ?_;refine QW ?_;cases fw with
 | false =>
  rw [if_pos rfl] at hch;rw [<-hR,hch];refine bk ?_;refine (jdH (S0:=S) hres h0 (.inr rfl) ?_:FinB _ _ _ _ _ _ _ _ _);exact jbc hwf rfl (by simp; rfl) (jN (by simp)) (fun o ho=>YJ ho)
 | true =>
  rw [if_neg (by simp)] at hch;refine bk ?_;show VG _ _ _ _ _ _ _ _ _ _;refine Zp rfl ?_;refine QP ?_;refine QL (qe) ?_;refine QW ?_;show VWp _ _ _ _ _ _ _;by_cases he:ec=0
  .rw [if_neg (by simp [he])] at hch;refine bi he ?_;show VG _ _ _ _ _ _ _ _ _ _;obtain ⟨o2,ho2⟩ : ∃ o2,lid S.nx 1=o2:=⟨_,rfl⟩
   refine aeo (t:=19) (g:=15) rfl rfl rfl rfl rfl rfl rfl ?_;rintro v vs rfl;obtain ⟨Q1,hQ1⟩ : ∃ Q1:Exit->Fr->Store->Prop,(fun e σ' S'=>e ≠ .outgrown /\ ∀ m β w a,Holds S' m β w->FrameRep 32 m β σ' a->ExtB S.nx m0' β0 w0 m β w->a.tmps.getD 19 undef = .func (.func 15) #[] vs->bodyPostD Tryz.prog Tryz.f7 (jgj m0' β0 w0 (zq S.nx fun r T=>r=qh R/\T=S)) e { a with defers:=[⟨.fn (.func 15) vs, #[]⟩] } w)=Q1:=⟨_,rfl⟩
   refine adl (Q':=Q1) ?_ (fun e σ S h=>by rw [<-hQ1] at h; exact h.2);have hQo : ∀ σ S, ¬ Q1 .outgrown σ S:=fun σ S h=>by rw [<-hQ1] at h; exact h.1 rfl
   refine WU [1,2,19] (by conv=>lhs; simp [Fr.oy,Fr.lk]) ?_;refine JM rfl ?_;refine Jy (fun _ _ _=>False) (fun _ _ _ h=>h.elim) hQo (by kernel_rfl) rfl (by conv=>lhs; reduce) ?_;refine zx _ _ _ (by conv=>lhs; simp) ?_;show VWpD _ _ _ _ _ _ _ _ _ _;refine alz 5 rfl (WH (k:=2) (s:=9) (cs:=[vl je m.types,vl jp m.imports,vl encF m.funcs,bH m.pages,bH m.most,vl jv m.globals,vl jr m.exports,bH m.start,vl jq m.datas]) (by simp) (by simp) rfl (by simp)) ?_;refine WU [2,5,19] (by conv=>lhs; simp [Fr.oy,Fr.lk,Fr.set]) ?_;simp only [am,ao];rw [show V.ref (.agg [vl je m.types,vl jp m.imports,vl encF m.funcs, .int .i64 m.pages, .int .i64 m.most,vl jv m.globals,vl jr m.exports, .int .i64 m.start,vl jq m.datas])=MV from hMV];obtain ⟨S1,hS1⟩ : ∃ S1,St S [] [none,some (3,[.int .i64 0, .int .i64 0, .int .i64 0]),none]=S1:=⟨_,rfl⟩
   have g2:S1.get o2=some (3,[.int .i64 0, .int .i64 0, .int .i64 0]):=by rw [<-hS1, <-ho2]; simp
   have l2:S.nx<=o2/\o2<S1.nx:=by rw [<-hS1, <-ho2,jH]; simp [lid]
   have hkS:Kept S [] S1:=by rw [<-hS1]; exact jN (by simp)
   have hkup : ∀ {T:Store} {c:List V} {l},Kept S1 [] T->Kept S [] (St T [(o2,some (3,c))] l):=fun {T c l} hk=>by
    have h1:=hk.1;have h2:=hkS.1;refine ⟨by rw [jH]; simp only [lid]; omega,fun o ho hn => ?_⟩;rw [jk (by omega)];simp only [uGet];rw [if_neg (by omega),hk.2 o (by omega) (by simp)];exact hkS.2 o ho (by simp)
   rw [hS1,ho2];have hErr : ∀ ch σ T,((Fr.lk σ 2 = .ptr o2 0/\Fr.lk σ 19 = .func 15 [.ptr o2 0]) /\ ∃ e,ch=jY 55 e/\R=e/\Kept S1 [] T)->Q1 (.panic ch) σ T:=by
    rintro ch σ T ⟨⟨q2,q19⟩,e,rfl,rfl,hk⟩;rw [<-hQ1];refine ⟨Exit.noConfusion, ?_⟩;have gT:T.get o2=_:=(hk.2 o2 l2.2 (by simp)).trans g2;have hl2:o2<T.nx:=by have:=hk.1; omega
    have hrec:Recov (.panicking (jY 55 R)) (WA 55 (some R)) (.panicking [{ v:=WA 55 (some R),recovered:=true }]) := .inr ⟨_,rfl,rfl,rfl⟩;refine jaU (S0:=S) hres h0 rfl q19 (.inr ⟨_,rfl,rfl⟩) hrec.settle (aly o2 T _ _ _ _ _ (some R) gT hrec) ?_;rintro T3 ⟨l,rfl⟩;exact jbc hwf q2 (by rw [jk hl2]; simp [uGet,qh,V.cells]) (hkup hk) (fun o ho=>YJ ho)
   have hRet : ∀ σ T,Fr.lk σ 2 = .ptr o2 0->Fr.lk σ 19 = .func 15 [.ptr o2 0]->R=(0,0,0)->Kept S1 [] T->Q1 .ret σ T:=by
    rintro σ T q2 q19 hr0 hk;rw [<-hQ1,hr0];refine ⟨Exit.noConfusion, ?_⟩;have gT:T.get o2=_:=(hk.2 o2 l2.2 (by simp)).trans g2;have hl2:o2<T.nx:=by have:=hk.1; omega
    have hrec:Recov .returning (WA 55 none) .returning := .inl ⟨rfl,rfl,rfl⟩;refine jaU (S0:=S) hres h0 rfl q19 (.inl ⟨.inr rfl,rfl⟩) hrec.settle (aly o2 T _ _ _ _ _ none gT hrec) ?_;rintro T3 ⟨l,rfl⟩;exact jbc hwf q2 (by rw [jk hl2]; simp [uGet,qh,V.cells]) (hkup hk) (fun o ho=>YJ ho)
   refine JM rfl ?_;refine Jy (fun ch σ T=>(Fr.lk σ 2 = .ptr o2 0/\Fr.lk σ 19 = .func 15 [.ptr o2 0]) /\ ∃ e,ch=jY 55 e/\R=e/\Kept S1 [] T) hErr hQo (by kernel_rfl) rfl (by conv=>lhs; reduce) ?_;refine zx _ _ _ (by conv=>lhs; simp) ?_;refine WW rfl (cf' S1 _ fun e T hf hk=>⟨⟨rfl,rfl⟩,e,rfl,by rw [<-hR,hch,hty,hf],hk⟩) ?_;rintro _ T ⟨hf,rfl,hT⟩;rw [hT];clear hT T;show VWpD _ _ _ _ _ _ _ _ _ _;refine WU [2,5,19] (by conv=>lhs; simp [Fr.oy,Fr.lk]) ?_;refine JM rfl ?_;refine Jy (fun ch σ T=>(Fr.lk σ 2 = .ptr o2 0/\Fr.lk σ 19 = .func 15 [.ptr o2 0]) /\ ∃ e,ch=jY 55 e/\R=e/\Kept S1 [] T) hErr hQo (by kernel_rfl) rfl (by conv=>lhs; reduce) ?_;refine zx _ _ _ (by conv=>lhs; simp) ?_;refine WW rfl (ce' S1 _ fun e T hx hk=>⟨⟨rfl,rfl⟩,e,rfl,by rw [<-hR,hch,hty,hf]; simp only [hx],hk⟩) ?_;rintro _ T ⟨hx,rfl,hT⟩;rw [hT];clear hT T;show VWpD _ _ _ _ _ _ _ _ _ _;refine WU [2,5,19] (by conv=>lhs; simp [Fr.oy,Fr.lk]) ?_;refine JM rfl ?_;refine Jy (fun ch σ T=>(Fr.lk σ 2 = .ptr o2 0/\Fr.lk σ 19 = .func 15 [.ptr o2 0]) /\ ∃ e,ch=jY 55 e/\R=e/\Kept S1 [] T) hErr hQo (by kernel_rfl) rfl (by conv=>lhs; reduce) ?_;refine zx _ _ _ (by conv=>lhs; simp) ?_;refine WW rfl (cr' S1 _ fun e T hs hk=>⟨⟨rfl,rfl⟩,e,rfl,by rw [<-hR,hch,hty,hf]; simp only [hx,hs],hk⟩) ?_;rintro _ T ⟨hs,rfl,hT⟩;rw [hT];clear hT T;show VWpD _ _ _ _ _ _ _ _ _ _;refine WU [2,5,19] (by conv=>lhs; simp [Fr.oy,Fr.lk]) ?_;refine JM rfl ?_;refine Jy (fun ch σ T=>(Fr.lk σ 2 = .ptr o2 0/\Fr.lk σ 19 = .func 15 [.ptr o2 0]) /\ ∃ e,ch=jY 55 e/\R=e/\Kept S1 [] T) hErr hQo (by kernel_rfl) rfl (by conv=>lhs; reduce) ?_;refine zx _ _ _ (by conv=>lhs; simp) ?_;refine WW rfl (cb' hf S1 _ fun e T hb hk=>⟨⟨rfl,rfl⟩,e,rfl,by rw [<-hR,hch,hty,hf]; simp only [hx,hs,hb],hk⟩) ?_
   rintro _ T ⟨hb,rfl,hk⟩;show VWpD _ _ _ _ _ _ _ _ _ _;refine WU [2,5,19] (by conv=>lhs; simp [Fr.oy,Fr.lk]) ?_;have gT:T.get o2=some (3,[.int .i64 0, .int .i64 0, .int .i64 0]):=(hk.2 o2 l2.2 (by simp)).trans g2;have uT:T.upd o2 (3,[.int .i64 0, .int .i64 0, .int .i64 0])=T:=adw gT;refine JM rfl ?_;refine Jy (fun _ _ _=>False) (fun _ _ _ h=>h.elim) hQo (by kernel_rfl) rfl (by conv=>lhs; reduce) ?_;refine zx _ _ _ (by conv=>lhs; simp [gT,uT]) ?_;show VWpD _ _ _ _ _ _ _ _ _ _;refine aa1 rfl ?_;exact hRet _ _ rfl rfl (by rw [<-hR,hch,hty,hf]; simp only [hx,hs,hb]) hk
  .rw [if_pos he] at hch;rw [<-hR,hch];refine bi he ?_;refine (jdH (S0:=S) hres h0 (.inr rfl) ?_:FinB _ _ _ _ _ _ _ _ _);exact jbc hwf rfl (by simp; rfl) (jN (by simp)) (fun o ho=>YJ ho)
end Go.Vw
namespace Wm
def Rd.Le {α:Type} (p:Rd α):Prop := ∀ b a x a',a<=b.length->p b a = .ok (x,a')->a'<=b.length
def Rt.Le {α:Type} (p:Rt α):Prop := ∀ ts b a o x a' o',a<=b.length->p ts b a o = .ok (x,a',o')->a'<=b.length
theorem jX {α β:Type} {p:Rd α} {f:α->Rd β} (h:p.Le) (k : ∀ x,(f x).Le):Rd.Le (p >>= f):=by
 intro b a x a' hl e;obtain ⟨y,a1,h1,h2⟩:=jJ e;exact k _ _ _ _ _ (h _ _ _ _ hl h1) h2
theorem zA {α:Type} (x:α):(Rd.pure x).Le:=by
 intro b a x a' hl e;cases e; exact hl
theorem jfP {α:Type} (e:Int) (n:Nat):(failAt e n:Rd α).Le:=by
 intro b a x a' hl h;cases h
theorem Zi (c:Bool) (e:Int) (n:Nat):(zE c e n).Le:=by
 intro b a x a' hl h;have:=KX h (b:=0);omega
theorem ZE:byte1.Le:=by
 intro b a x a' hl h;have:=YG h;omega
theorem ad1 {may:Nat->Nat->Bool} {size len at':Nat} : ∀ (l:List Nat) (i n x nx:Nat),lebGo may size len at' l i n = .ok (x,nx)->nx<=at'+i+l.length
 | [],i,n,x,nx,h=>by simp [lebGo] at h
 | c::l,i,n,x,nx,h=>by
  rw [lebGo] at h;rw [av];split at h
  .cases h
  .split at h
   .cases h; omega
   .have:=ad1 l _ _ _ _ h; omega
theorem le_u (m:Nat) (e:Int):(u m e).Le:=by
 intro b a x a' hl h;simp only [u] at h;split at h
 .cases h
 .rename_i h1;split at h
  .cases h
  .cases h
   have:=ad1 _ _ _ _ _ h1;rw [List.length_drop] at this;omega
theorem JQ:index.Le:=le_u _ _
theorem le_s (n:Nat):(sInt n).Le:=by
 intro b a x a' hl h;simp only [sInt,lebS] at h;split at h
 .cases h
 .rename_i h1;cases h;have:=ad1 _ _ _ _ _ h1;rw [List.length_drop] at this;omega
theorem Zh (l:List Int):(one l).Le:=jX ZE fun _=>jX (Zi _ _ _) fun _=>zA _
theorem jaM (t:Int):(Ja t).Le:=by
 unfold Ja;split
 .exact jX (le_s _) fun _=>zA _
 .exact jX (le_s _) fun _=>zA _
theorem adp {α:Type} {p:Rd α} (h:p.Le) : ∀ n,(jag p n).Le
 | 0=>zA _
 | n+1=>jX h fun _=>jX (adp h n) fun _=>zA _
theorem Wk {α:Type} {p:Rd α} (h:p.Le) (m:Nat):(many m p).Le:=jX (le_u _ _) fun _=>adp h _
theorem jdz:kind.Le:=by
 refine jX ZE fun c => ?_;show Rd.Le (if _ then _ else _);split
 .exact zA _
 .split
  .exact jfP _ _
  .exact jfP _ _
theorem awl:dataR.Le:=jX (le_u _ _) fun _=>jX (Zh _) fun _=>jX (jaM _) fun _=>jX (Zh _) fun _=>jX (Wk ZE _) fun _=>zA _
theorem aaq:name.Le:=Wk (jX ZE fun _=>jX (Zi _ _ _) fun _=>zA _) _
theorem avh:sigR.Le:=jX (Zh _) fun _=>jX (Wk jdz _) fun _=>jX (Wk jdz _) fun _=>zA _
theorem awc:importR.Le:=jX aaq fun _=>jX aaq fun _=>jX (Zh _) fun _=>jX (Zi _ _ _) fun _=>jX JQ fun _=>zA _
theorem awb:exportR.Le:=jX aaq fun _=>jX (Zh _) fun _=>jX (Zi _ _ _) fun _=>jX JQ fun _=>zA _
theorem au4:globalR.Le:=jX jdz fun _=>jX (Zh _) fun _=>jX (Zh _) fun _=>jX (Zi _ _ _) fun _=>jX (jaM _) fun _=>jX (Zh _) fun _=>zA _
theorem aw0:blockTypeR.Le:=by
 intro ts b a o x a' o' hl h;simp only [blockTypeR] at h;split at h
 .rename_i h1; cases h; omega
 .split at h
  .split at h
   .cases h
   .rename_i h1; cases h; exact jdz _ _ _ _ hl h1
  .split at h
   .cases h
   .rename_i h1;split at h
    .cases h
    .cases h; exact le_s _ _ _ _ _ hl h1
theorem avf (c:Nat) (w:Int):(accR c w).Le:=by
 intro b a x a' hl h;simp only [accR] at h;split at h
 .cases h
 .rename_i h1;split at h
  .cases h
  .split at h
   .cases h
   .rename_i h2;cases h;exact JQ _ _ _ _ (JQ _ _ _ _ hl h1) h2
theorem avg (c:Nat):(tabR c).Le:=by
 intro b a x a' hl h;simp only [tabR] at h;split at h
 .cases h
 .rename_i h1;split at h
  .cases h
  .rename_i h2;cases h;exact JQ _ _ _ _ (Wk JQ _ _ _ _ _ hl h1) h2
theorem aw8 (c:Nat):(opR c).Le:=by
 unfold opR;split
 .exact zA _
 split
 .exact jX JQ fun _=>zA _
 split
 .exact avg _
 split
 .exact jX (Zh _) fun _=>zA _
 split
 .exact jX (jaM _) fun _=>zA _
 split
 .exact jX (jaM _) fun _=>zA _
 split
 .exact avf _ _
 split
 .exact zA _
 split
 .exact jfP _ _
 .exact jfP _ _
theorem axh {rb:Bool->Rt (List Ins × Bool)} (h : ∀ e,(rb e).Le) (last:Bool) (c:Nat):(brR rb last c).Le:=by
 intro ts b a o x a' o' hl e;simp only [brR] at e;split at e
 .cases e
 .split at e
  .cases e
  .rename_i h1;have k1:=aw0 _ _ _ _ _ _ _ hl h1;split at e
   .cases e
   .rename_i h2;cases e;exact h _ _ _ _ _ _ _ _ k1 h2
   .rename_i h2;have k2:=h _ _ _ _ _ _ _ _ k1 h2;split at e
    .cases e
    .rename_i h3;cases e;exact h _ _ _ _ _ _ _ _ k2 h3
theorem ad4 {rb:Bool->Rt (List Ins × Bool)} (h : ∀ e,(rb e).Le) (last:Bool) (c:Nat):(zt rb last c).Le:=by
 unfold zt;split
 .exact axh h _ _
 .intro ts b a o x a' o' hl e;simp only [ofR] at e;split at e
  .cases e
  .rename_i h1; cases e; exact aw8 _ _ _ _ _ hl h1
theorem aas {ri:Nat->Rt Ins} (h : ∀ c,(ri c).Le) (other:Bool) : ∀ (n:Nat) (acc:List Ins),(jbz ri other n acc).Le
 | 0,acc=>by intro ts b a o x a' o' hl e; cases e
 | n+1,acc=>by
  intro ts b a o x a' o' hl e;simp only [jbz] at e;split at e
  .cases e
  .rename_i h1;have k1:=ZE _ _ _ _ hl h1;split at e
   .cases e; exact k1
   .split at e
    .cases e; exact k1
    .generalize (if _=5 then o else o+1)=o1 at e;split at e
     .cases e
     .split at e
      .cases e
      .rename_i h2;exact aas h other n _ _ _ _ _ _ _ _ (h _ _ _ _ _ _ _ _ k1 h2) e
theorem ahg : ∀ (d:Nat) (e:Bool),(jgh d e).Le
 | 0,e=>fun ts b a o x a' o' hl h=>aas (fun c=>ad4 (fun _ _ _ _ _ _ _ _ _ h=>by cases h) _ c) e _ _ _ _ _ _ _ _ _ hl h
 | d+1,e=>fun ts b a o x a' o' hl h=>aas (fun c=>ad4 (ahg d) _ c) e _ _ _ _ _ _ _ _ _ hl h
theorem aqp (ls:List Int):(jaz ls).Le:=jX (le_u _ _) fun _=>jX jdz fun _=>zA _
theorem jeN : ∀ (n:Nat) (ls:List Int),(WM n ls).Le
 | 0,ls=>zA _
 | n+1,ls=>jX (aqp ls) fun _=>jeN n _
theorem amf:localsR.Le:=jX (le_u _ _) fun _=>jeN _ _
theorem jdw : ∀ (n:Nat) (l:List Nat) (b:List Nat) (a:Nat) (ls:List Int) (a':Nat),l.length<=32->(∀ k∈l,isK k)->WM n (ints l) b a = .ok (ls,a') -> ∃ l':List Nat,ls=ints l'/\l'.length<=32/\(∀ k∈l',isK k)/\a<=a'
 | 0,l,b,a,ls,a',hl,hk,h=>by cases h; exact ⟨l,rfl,hl,hk,aT _⟩
 | n+1,l,b,a,ls,a',hl,hk,h=>by
  obtain ⟨ls1,a1,h1,h2⟩:=jJ h;obtain ⟨m,a2,h3,h4⟩:=jJ h1;obtain ⟨c,a3,h5,h6⟩:=jJ h4;obtain ⟨rfl,rfl⟩:=ze h6;have k1:=aaf h3;have k2:=jcF h5;rw [Kk] at k1;have e:ints l++List.replicate m (c:Int)=ints (l++List.replicate m c):=by simp [ints]
  rw [e] at h2;obtain ⟨l',r1,r2,r3,r4⟩:=jdw n _ b _ ls a' (by rw [List.length_append,List.length_replicate]; omega) (fun k hm=>by
   rcases az.1 hm with hm | hm
   .exact hk k hm
   .rw [(List.mem_replicate.1 hm).2]; exact k2.1) h2
  exact ⟨l',r1,r2,r3,by omega⟩
theorem aij {b:List Nat} {a:Nat} {ls:List Int} {a':Nat} (h:localsR b a = .ok (ls,a')) : ∃ l:List Nat,ls=ints l/\l.length<=32/\(∀ k∈l,isK k)/\a<=a':=by
 obtain ⟨n,a1,h1,h2⟩:=jJ h;have k1:=aaf h1;obtain ⟨l,r1,r2,r3,r4⟩:=jdw n [] b a1 ls a' (by simp) (fun k h=>by cases h) h2;exact ⟨l,r1,r2,r3,by omega⟩
theorem jaF : ∀ (l acc:List Nat),acc.length+l.length<=32->(∀ k∈l,isK k)->Reads (WM l.length (ints acc)) ((ints l).flatMap fun t=>putW [1,t]) (ints (acc++l))
 | [],acc,h,hk=>by rw [List.append_nil]; exact Reads.pure _
 | k::l,acc,h,hk=>by
  have hk1:=hk k (by simp);have e:(ints (k::l)).flatMap (fun t=>putW [1,t])=[1,k]++(ints l).flatMap fun t=>putW [1,t]:=by
   have:=hk1.lt;simp [ints,putW];omega
  rw [e,av];rw [av] at h;have h1:Reads (jaz (ints acc)) [1,k] (ints (acc++[k])):=by
   refine Reads.bind (w1:=[1]) (w2:=[k]) (x:=1) (Zb (x:=1) (by omega) (by rw [Kk]; omega)) ?_;refine Reads.end' (Yc hk1) ?_;have e2:ints acc++List.replicate 1 (k:Int)=ints (acc++[k]):=by simp [ints]
   rw [e2];exact Reads.pure' _
  have h2:=jaF l (acc++[k]) (by rw [List.length_append,List.length_singleton]; omega) fun x hx=>hk x (by simp [hx]);rw [List.append_assoc] at h2;exact Reads.bind h1 h2
theorem ae1 {l:List Nat} (h:l.length<=32) (hk : ∀ k∈l,isK k):Reads localsR (jS l.length++(ints l).flatMap fun t=>putW [1,t]) (ints l):=by
 rw [qW _ (by omega)];refine Reads.bind (Zb (by omega) h) ?_;have:=jaF l [] (by simpa using h) hk;rw [aZ] at this;exact this
def bare (f:Func):Prop := ∃ t:Nat,t<4294967296/\f=⟨t,[],[]⟩
structure gFun (ts:List Sig) (f:Func):Prop where
 ty : ∃ t:Nat,f.type=t/\t<4294967296
 ls : ∃ l:List Nat,f.locals=ints l/\l.length<=32 /\ ∀ k∈l,isK k
 bd:gL ts f.body 16
 n:cL f.body<=512
def YT (ts:List Sig) (l:List Func):Nat:=(l.map fun f=>(qa ts f).length).sum
theorem al6 (ts:List Sig) (l r:List Func):YT ts (l++r)=YT ts l+YT ts r:=by simp [YT]
def gMem (pg mo:Int):Prop:=(pg = -1/\mo=0) \/ ∃ p q:Nat,pg=p/\mo=q/\p<=q/\q<=16
def gStart (n:Int):Prop:=n = -1 \/ ∃ s:Nat,n=s/\s<4294967296
structure gMS (B last:Nat) (coded:Bool) (m:MS):Prop where
 b:bytes m.b
 bl:m.b.length<=B
 ty:gTs m.ty
 im:m.im.length<=32 /\ ∀ x∈m.im,gImp x
 gl:m.gl.length<=32 /\ ∀ x∈m.gl,gGlo x
 ex:m.ex.length<=32 /\ ∀ x∈m.ex,gExp x
 da:m.da.length<=32/\(∀ x∈m.da,gDat x)/\(m.da.map fun d=>d.bytes.length).sum<=B
 mem:gMem m.pg m.mo
 st:gStart m.st
 fs0:last<3->m.fs=none
 fs : ∀ l,m.fs=some l->l.length+m.im.length<=32/\(coded=true->(∀ f∈l,gFun m.ty f)/\YT m.ty l<=75*l.length+6*B)/\(coded=false -> ∀ f∈l,bare f)
 cd:coded=true->10<=last
theorem aiz (ts:List Sig) (f:Func) {l:List Nat} {c:Nat} (hl:f.locals=ints l) (h32:l.length<=32) (hb:(zg ts f.body).length+6<=6*c):(qa ts f).length<=75+6*c:=by
 have h1:((ints l).flatMap fun t=>putW [1,t]).length=2*l.length:=by
  clear hl h32
  induction l with
  | nil=>rfl
  | cons x l ih =>
   have:ints (x::l)=(x:Int)::ints l:=rfl;rw [this,List.flatMap_cons,List.length_append,ih,av];simp [putW]; omega
 have h2:=YA jai 9 (((KB ts f).length:Int) % 18446744073709551616);have h3:=JC (x:=l.length) (by omega);have h4:(KB ts f).length<=64+6*c:=by
  unfold KB;rw [hl,Kk];simp only [List.length_append,h1,List.length_singleton];omega
 unfold qa;rw [List.length_append];unfold jS uW;omega
theorem an1 {i:Nat} {m m1:MS} {done rest:List Func} {f:Func} (hb:bytes m.b) (ht:gTs m.ty) (hl:m.a<=m.b.length) (hf:m.fs=some (done++f::rest)) (hi:done.length=i) (hbare:bare f) (h:jba i m = .ok m1) :
  ∃ g,gFun m.ty g/\(qa m.ty g).length<=75+6*(m1.a-m.a)/\m.a<=m1.a/\m1.a<=m.b.length/\m1={ m with a:=m1.a,ops:=m1.ops,fs:=some (done++g::rest) }:=by
 unfold jba at h;split at h
 .cases h
 rename_i ls a1 h1;split at h
 .cases h
 rename_i q a2 o h2;cases h;obtain ⟨l,rfl,k1,k2,k3⟩:=aij h1;obtain ⟨bd,el⟩:=q;obtain ⟨j1,j2,j3,j4,j5,j6⟩:=ac7 ht 16 false m.b a1 0 bd el a2 o hb h2;have e1:=amf _ _ _ _ hl h1;have e2:=ahg 16 false _ _ _ _ _ _ _ e1 h2;obtain ⟨t,ht1,rfl⟩:=hbare;refine ⟨⟨t,ints l,bd⟩,⟨⟨t,rfl,ht1⟩,⟨l,rfl,k1,k2⟩,j1,by have:=j3 (by omega); simp only; omega⟩, ?_,by simp only; omega,by simp only; omega, ?_⟩
 .have:=aiz m.ty ⟨t,ints l,bd⟩ (c:=a2-a1) rfl k1 j5;simp only;omega
 .simp only [hf,aW]
  congr 2
  subst hi;rw [List.set_append_right _ _ (aT _),Nat.sub_self,ao]
  congr 2
  rw [af,aV (aT _),Nat.sub_self]
  rfl
theorem jeo {p:MS->Except Flt MS} {m m1:MS} (hl:m.a<=m.b.length) (h:zU p m = .ok m1) : ∃ a1 n m2,index m.b m.a = .ok (n,a1)/\m.a<a1/\a1+n<=m.b.length/\p { m with a:=a1,b:=m.b.take (a1+n) } = .ok m2 /\ ¬ m2.a<m2.b.length/\m1={ m2 with b:=m.b }:=by
 unfold zU at h;split at h
 .cases h
 rename_i n a1 h1;split at h
 .cases h
 rename_i hn;split at h
 .cases h
 rename_i m2 h2;split at h
 .cases h
 rename_i h3;cases h;have:=JQ _ _ _ _ hl h1;have:=Jt h1;exact ⟨a1,n,m2,h1,by omega,by omega,h2,h3,rfl⟩
theorem jfd {l:List Nat} (n:Nat) (h:bytes l):bytes (l.take n):=fun c hc=>h c (List.mem_of_mem_take hc)
theorem ab0 : ∀ (k i:Nat) (m m1:MS) (done rest:List Func),bytes m.b->gTs m.ty->m.a<=m.b.length->m.fs=some (done++rest)->done.length=i->rest.length=k->(∀ f∈rest,bare f)->WF k i m = .ok m1 ->
  ∃ gs,gs.length=k/\(∀ f∈gs,gFun m.ty f)/\YT m.ty gs<=75*k+6*(m1.a-m.a)/\m.a<=m1.a/\m1.a<=m.b.length/\m1={ m with a:=m1.a,ops:=m1.ops,fs:=some (done++gs) }
 | 0,i,m,m1,done,rest,hb,ht,hl,hf,hi,hk,hr,h=>by
  cases h
  have:rest=[]:=List.length_eq_zero_iff.1 hk;subst this;exact ⟨[],rfl,fun f h=>(by cases h),by simp [YT],aT _,hl,by rw [<-hf]⟩
 | k+1,i,m,m1,done,rest,hb,ht,hl,hf,hi,hk,hr,h=>by
  cases rest with
  | nil=>cases hk
  | cons f rest =>
   simp only [WF] at h;split at h
   .cases h
   rename_i m2 h2;obtain ⟨a1,n,m3,q1,q2,q3,q4,q5,rfl⟩:=jeo hl h2;have hlen:(m.b.take (a1+n)).length=a1+n:=by rw [List.length_take]; omega
   obtain ⟨g,r1,r2,r3,r4,r5⟩:=an1 (m:={ m with a:=a1,b:=m.b.take (a1+n) }) (jfd _ hb) ht (by simp only [hlen]; omega) hf hi (hr f (by simp)) q4;simp only [hlen] at r2 r3 r4 r5;have hb3:m3.b=m.b.take (a1+n):=by rw [r5]
   have hty:m3.ty=m.ty:=by rw [r5]
   obtain ⟨gs,s1,s2,s3,s4,s5,s6⟩:=ab0 k (i+1) { m3 with b:=m.b } m1 (done++[g]) rest hb (by rw [hty]; exact ht) (by simp only; omega) (by rw [r5]; simp) (by simp [hi]) (by simpa using hk) (fun x hx=>hr x (by simp [hx])) h;simp only [hty] at s2 s3 s4 s5 s6;refine ⟨g::gs,by simp [s1],fun x hx => ?_, ?_,by omega,by omega, ?_⟩
   .rcases aE.1 hx with rfl | hx
    .exact r1
    .exact s2 x hx
   .have:YT m.ty (g::gs)=(qa m.ty g).length+YT m.ty gs:=by simp [YT]
    rw [this]; omega
   .rw [s6,r5];simp
theorem aql {b:List Nat} {a a':Nat} {l:List Sig} (hb:bytes b) (h:many 32 sigR b a = .ok (l,a')):gTs l:=by
 have:=Kj (p:=sigR) (G:=gSig) (c:=fun _=>0) (fun b a x a' hb h=>by have:=asx hb h; exact ⟨this.1,by omega⟩) hb h;exact ⟨this.1,this.2.1⟩
theorem aq4 {b:List Nat} {a a':Nat} {l:List Import} (hb:bytes b) (h:many 32 importR b a = .ok (l,a')):l.length<=32 /\ ∀ x∈l,gImp x:=by
 have:=Kj (p:=importR) (G:=gImp) (c:=fun _=>0) (fun b a x a' hb h=>by have:=aui hb h; exact ⟨this.1,by omega⟩) hb h;exact ⟨this.1,this.2.1⟩
theorem ape {b:List Nat} {a a':Nat} {l:List Global} (hb:bytes b) (h:many 32 globalR b a = .ok (l,a')):l.length<=32 /\ ∀ x∈l,gGlo x:=by
 have:=Kj (p:=globalR) (G:=gGlo) (c:=fun _=>0) (fun b a x a' hb h=>by have:=auc hb h; exact ⟨this.1,by omega⟩) hb h;exact ⟨this.1,this.2.1⟩
theorem aow {b:List Nat} {a a':Nat} {l:List Export} (hb:bytes b) (h:many 32 exportR b a = .ok (l,a')):l.length<=32 /\ ∀ x∈l,gExp x:=by
 have:=Kj (p:=exportR) (G:=gExp) (c:=fun _=>0) (fun b a x a' hb h=>by have:=ato hb h; exact ⟨this.1,by omega⟩) hb h;exact ⟨this.1,this.2.1⟩
theorem aqs {b:List Nat} {a a':Nat} {l:List Data} (hb:bytes b) (h:many 32 dataR b a = .ok (l,a')):l.length<=32/\(∀ x∈l,gDat x)/\a+(l.map fun d=>d.bytes.length).sum<=a':=by
 have:=Kj (p:=dataR) (G:=gDat) (c:=fun d=>d.bytes.length) (fun b a x a' hb h=>at4 hb h) hb h;exact ⟨this.1,this.2.1,by omega⟩
theorem jdg {α:Type} {q:Rd α} {f:MS->α->MS} {m m1:MS} (h:putP q f m = .ok m1) : ∃ x a,q m.b m.a = .ok (x,a)/\m1=f { m with a:=a } x:=by
 unfold putP at h;split at h
 .cases h
 .rename_i x a hq; cases h; exact ⟨x,a,hq,rfl⟩
theorem asr {B last id:Nat} {coded:Bool} {m m1:MS} {p:MS->Except Flt MS} (hg:gMS B last coded m) (hl:m.a<=m.b.length) (hp:secP id=some p) (hid:id=0\/last<id) (h:p m = .ok m1) :
  gMS B (max last id) (coded||decide (id=10)) m1/\m1.b=m.b/\m1.a<=m1.b.length:=by
 obtain ⟨g1,g2,g3,g4,g5,g6,g7,g8,g9,g10,g11,g12⟩:=hg;have hc : ∀ k,id=k->k≠10->(coded||decide (id=10))=coded:=fun k h1 h2=>by subst h1; simp [h2]
 unfold secP at hp;split at hp
 .cases hp
  cases h
  exact ⟨⟨g1,g2,g3,g4,g5,g6,g7,g8,g9,by simpa using g10,by simpa using g11,by simpa using g12⟩,rfl,aT _⟩
 .cases hp
  obtain ⟨x,a,hq,rfl⟩:=jdg h;have hlast:last=0:=by omega
  subst hlast;have hn:=g10 (by omega);exact ⟨⟨g1,g2,aql g1 hq,g4,g5,g6,g7,g8,g9,fun _=>hn,(fun l hl=>by rw [hn] at hl; cases hl),fun h=>absurd (g12 (by simpa using h)) (by omega)⟩,rfl,Wk avh _ _ _ _ _ hl hq⟩
 .cases hp
  obtain ⟨x,a,hq,rfl⟩:=jdg h;have hn:=g10 (by omega);exact ⟨⟨g1,g2,g3,aq4 g1 hq,g5,g6,g7,g8,g9,fun _=>hn,(fun l hl=>by rw [hn] at hl; cases hl),fun h=>absurd (g12 (by simpa using h)) (by omega)⟩,rfl,Wk awc _ _ _ _ _ hl hq⟩
 .cases hp
  unfold jdE at h;split at h
  .cases h
  rename_i xs a hq;cases h;have hk:=Kj (p:=index) (G:=fun n=>n<4294967296) (c:=fun _=>0) (fun b a x a' _ h=>by have:=Jt h; exact ⟨this.1,by omega⟩) g1 hq;have hcf:coded=false:=by
   cases coded with
   | false=>rfl
   | true=>exact absurd (g12 rfl) (by omega)
  subst hcf;refine ⟨⟨g1,g2,g3,g4,g5,g6,g7,g8,g9,fun h=>by omega,fun l hl => ?_,by simp⟩,rfl,Wk JQ _ _ _ _ _ hl hq⟩;cases hl;refine ⟨by simp only [aB]; omega,fun h=>by simp at h,fun _ f hf => ?_⟩;obtain ⟨n,hn,rfl⟩:=List.mem_map.1 hf;exact ⟨n,hk.2.1 n hn,rfl⟩
 .cases hp
  unfold jaf at h;split at h
  .cases h
  rename_i n a hq;have keep : ∀ pg mo a',gMem pg mo->gMS B (max last 5) (coded||decide (5=10)) { m with a:=a',pg:=pg,mo:=mo }:=fun pg mo a' hm =>
   ⟨g1,g2,g3,g4,g5,g6,g7,hm,g9,fun h=>g10 (by omega),by simpa using g11,by simp; intro h; have:=g12 h; omega⟩
  split at h
  .cases h; exact ⟨keep m.pg m.mo a g8,rfl,le_u _ _ _ _ _ _ hl hq⟩
  .unfold memM at h;split at h
   .cases h
   rename_i c a1 h1;split at h
   .cases h
   rename_i n1 a2 h2;have k1:=aaf h2;split at h
   .split at h
    .cases h
    rename_i x a3 h3;have k2:=aaf h3;split at h
    .cases h
    cases h
    exact ⟨keep n1 x a3 (.inr ⟨n1,x,rfl,rfl,by omega,by omega⟩),rfl,le_u _ _ _ _ _ _ (le_u _ _ _ _ _ _ (Zh _ _ _ _ _ (le_u _ _ _ _ _ _ hl hq) h1) h2) h3⟩
   .cases h
    exact ⟨keep n1 16 a2 (.inr ⟨n1,16,rfl,rfl,by omega,by omega⟩),rfl,le_u _ _ _ _ _ _ (Zh _ _ _ _ _ (le_u _ _ _ _ _ _ hl hq) h1) h2⟩
 .cases hp
  obtain ⟨x,a,hq,rfl⟩:=jdg h;exact ⟨⟨g1,g2,g3,g4,ape g1 hq,g6,g7,g8,g9,fun h=>g10 (by omega),by simpa using g11,by simp; intro h; have:=g12 h; omega⟩,rfl,Wk au4 _ _ _ _ _ hl hq⟩
 .cases hp
  obtain ⟨x,a,hq,rfl⟩:=jdg h;exact ⟨⟨g1,g2,g3,g4,g5,aow g1 hq,g7,g8,g9,fun h=>g10 (by omega),by simpa using g11,by simp; intro h; have:=g12 h; omega⟩,rfl,Wk awb _ _ _ _ _ hl hq⟩
 .cases hp
  unfold jcX at h;split at h
  .cases h
  rename_i n a hq;cases h;exact ⟨⟨g1,g2,g3,g4,g5,g6,g7,g8, .inr ⟨n,rfl,(Jt hq).1⟩,fun h=>g10 (by omega),by simpa using g11,by simp; intro h; have:=g12 h; omega⟩,rfl,JQ _ _ _ _ hl hq⟩
 .cases hp
  unfold Ym at h;split at h
  .cases h
  rename_i n a1 hq;split at h
  .cases h
  rename_i hn;have hcf:coded=false:=by
   cases coded with
   | false=>rfl
   | true=>exact absurd (g12 rfl) (by omega)
  subst hcf;have hle:=JQ _ _ _ _ hl hq;have ⟨hlen,hbare⟩:(m.fs.getD []).length+m.im.length<=32 /\ ∀ f∈m.fs.getD [],bare f:=by
   cases hfs:m.fs with
   | none=>exact ⟨by simp; exact g4.1,fun f h=>by cases h⟩
   | some l =>
    have:=g11 l hfs;exact ⟨this.1,this.2.2 rfl⟩
  obtain ⟨gs,s1,s2,s3,s4,s5,s6⟩:=ab0 (m.fs.getD []).length 0 { m with a:=a1,fs:=some (m.fs.getD []) } m1 [] (m.fs.getD []) g1 g3 hle rfl rfl rfl hbare h;rw [s6];simp only at s3 s4 s5 ⊢;refine ⟨⟨g1,g2,g3,g4,g5,g6,g7,g8,g9,fun h=>by omega,fun l hl' => ?_,fun _=>by omega⟩,trivial,s5⟩;cases hl';simp only [aZ];exact ⟨by omega,fun _=>⟨s2,by omega⟩,fun h=>by simp at h⟩
 .cases hp
  obtain ⟨x,a,hq,rfl⟩:=jdg h;have hd:=aqs g1 hq;have hle:=Wk awl _ _ _ _ _ hl hq;exact ⟨⟨g1,g2,g3,g4,g5,g6,⟨hd.1,hd.2.1,by simp only; omega⟩,g8,g9,fun h=>g10 (by omega),by simpa using g11,by simp; intro h; have:=g12 h; omega⟩,rfl,hle⟩
 .cases hp
theorem ab5 {B:Nat} : ∀ (k last:Nat) (coded:Bool) (m:MS) (coded':Bool) (m1:MS),gMS B last coded m->m.a<=m.b.length->KD k last coded m = .ok (coded',m1) -> ∃ last',gMS B last' coded' m1
 | 0,last,coded,m,coded',m1,hg,hl,h=>by cases h; exact ⟨last,hg⟩
 | k+1,last,coded,m,coded',m1,hg,hl,h=>by
  simp only [KD] at h;split at h
  .rename_i hlt;split at h
   .cases h
   rename_i id a1 h1;have hb:=YG h1;split at h
   .cases h
   split at h
   .cases h
   rename_i p hp;split at h
   .cases h
   rename_i hid;split at h
   .cases h
   rename_i m2 h2;obtain ⟨a2,n,m3,q1,q2,q3,q4,q5,rfl⟩:=jeo (m:={ m with a:=a1 }) (by simp only; omega) h2;simp only at q1 q2 q3 q4;have hlen:(m.b.take (a2+n)).length=a2+n:=by rw [List.length_take]; omega
   have hg':gMS B last coded { m with a:=a2,b:=m.b.take (a2+n) }:=⟨jfd _ hg.b,by simp only [hlen]; have:=hg.bl; omega,hg.ty,hg.im,hg.gl,hg.ex,hg.da,hg.mem,hg.st,hg.fs0,hg.fs,hg.cd⟩
   obtain ⟨r1,r2,r3⟩:=asr hg' (by simp only [hlen]; omega) hp (by omega) q4;exact ab5 k _ _ { m3 with b:=m.b } coded' m1 ⟨hg.b,hg.bl,r1.ty,r1.im,r1.gl,r1.ex,r1.da,r1.mem,r1.st,r1.fs0,r1.fs,r1.cd⟩ (by rw [r2,hlen] at r3; simp only; omega) h
  .cases h; exact ⟨last,hg⟩
structure gMod (B:Nat) (m:Mod):Prop where
 ty:gTs m.types
 im:m.imports.length<=32 /\ ∀ x∈m.imports,gImp x
 fs:m.funcs.length+m.imports.length<=32/\(∀ f∈m.funcs,gFun m.types f)/\YT m.types m.funcs<=75*m.funcs.length+6*B
 gl:m.globals.length<=32 /\ ∀ x∈m.globals,gGlo x
 ex:m.exports.length<=32 /\ ∀ x∈m.exports,gExp x
 da:m.datas.length<=32/\(∀ x∈m.datas,gDat x)/\(m.datas.map fun d=>d.bytes.length).sum<=B
 mem:gMem m.pages m.most
 st:gStart m.start
theorem aha : ∀ (xs:List Nat) (i:Nat) (b:List Nat) (a:Nat) (x:Unit) (a':Nat),a<=b.length->YO xs i b a = .ok (x,a')->a'<=b.length
 | [],i,b,a,x,a',hl,h=>by cases h; exact hl
 | y::ys,i,b,a,x,a',hl,h=>by
  simp only [YO] at h;split at h
  .cases h
  rename_i c a1 h1;split at h
  .exact aha ys _ b a1 x a' (ZE _ _ _ _ hl h1) h
  .cases h
theorem ah6 {b:List Nat} {m:MS} (hb:bytes b) (h:Kd b = .ok m):gMod b.length m.mod:=by
 unfold Kd at h;split at h
 .cases h
 rename_i x a h1;have ha:=aha _ _ _ _ _ _ (Nat.zero_le _) h1;split at h
 .cases h
 rename_i coded m1 h2;split at h
 .cases h
 rename_i hc;cases h;have h0:gMS b.length 0 false { m0 b with a:=a }:=⟨hb,aT _,⟨by simp [m0],fun s h=>by simp [m0] at h⟩,⟨by simp [m0],fun s h=>by simp [m0] at h⟩,⟨by simp [m0],fun s h=>by simp [m0] at h⟩,⟨by simp [m0],fun s h=>by simp [m0] at h⟩,⟨by simp [m0],(fun s h=>by simp [m0] at h),by simp [m0]⟩, .inl ⟨rfl,rfl⟩, .inl rfl,fun _=>rfl,(fun l h=>by simp [m0] at h),by simp⟩
 obtain ⟨last,hg⟩:=ab5 _ _ _ _ _ _ h0 ha h2;refine ⟨hg.ty,hg.im, ?_,hg.gl,hg.ex,hg.da,hg.mem,hg.st⟩;simp only [MS.mod];cases hfs:m.fs with
 | none=>exact ⟨by simpa using hg.im.1,(fun f h=>by cases h),by simp [YT]⟩
 | some l =>
  obtain ⟨k1,k2,k3⟩:=hg.fs l hfs;cases coded with
  | true=>exact ⟨k1,k2 rfl⟩
  | false =>
   rw [hfs] at hc;have:l=[]:=List.length_eq_zero_iff.1 (by simpa using hc);subst this;exact ⟨by simpa using hg.im.1,(fun f h=>by cases h),by simp [YT]⟩
def jcr (f:Func):Func:=⟨f.type,[],[]⟩
structure SB (m:Mod) (k:Nat) (s:MS):Prop where
 ty:s.ty=if 1<k then m.types else []
 im:s.im=if 2<k then m.imports else []
 fs:s.fs.getD []=if 10<k then m.funcs else if 3<k then m.funcs.map jcr else []
 mem:(s.pg,s.mo)=if 5<k then (m.pages,m.most) else (-1,0)
 gl:s.gl=if 6<k then m.globals else []
 ex:s.ex=if 7<k then m.exports else []
 st:s.st=if 8<k then m.start else -1
 da:s.da=if 11<k then m.datas else []
theorem SB.at' {m:Mod} {k:Nat} {s:MS} (h:SB m k s) (b:List Nat) (a o:Nat):SB m k { s with b:=b,a:=a,ops:=o }:=⟨h.ty,h.im,h.fs,h.mem,h.gl,h.ex,h.st,h.da⟩
theorem Ks {α:Type} {f:α->List Nat} {l:List α} (h:qw f l=[]):l=[]:=by
 unfold qw at h;split at h
 .rename_i hl; exact List.length_eq_zero_iff.1 hl
 .exact absurd (List.append_eq_nil_iff.1 h).1 (Go.Vw.aac _)
theorem jbD {α:Type} {f:α->List Nat} {l:List α} (h:qw f l≠[]):qw f l=jS l.length++l.flatMap f:=by
 unfold qw at h ⊢;split
 .rename_i hl; rw [if_pos hl] at h; exact absurd rfl h
 .rfl
theorem SB.skip {B:Nat} {m:Mod} (hg:gMod B m) {k:Nat} (hk:k<12) {s:MS} (h:SB m k s) (hw:secW m k=[]):SB m (k+1) s:=by
 obtain ⟨h1,h2,h3,h4,h5,h6,h7,h8⟩:=h;have hk:k=0\/k=1\/k=2\/k=3\/k=4\/k=5\/k=6\/k=7\/k=8\/k=9\/k=10\/k=11:=by omega
 rcases hk with rfl | rfl | rfl | rfl | rfl | rfl | rfl | rfl | rfl | rfl | rfl | rfl
 .exact ⟨h1,h2,h3,h4,h5,h6,h7,h8⟩
 .have:=Ks (f:=sigW) (l:=m.types) hw;exact ⟨by rw [h1,this]; rfl,h2,h3,h4,h5,h6,h7,h8⟩
 .have:=Ks (f:=Wn) (l:=m.imports) hw;exact ⟨h1,by rw [h2,this]; rfl,h3,h4,h5,h6,h7,h8⟩
 .have:=Ks (f:=jbH) (l:=m.funcs) hw;exact ⟨h1,h2,by rw [h3,this]; rfl,h4,h5,h6,h7,h8⟩
 .exact ⟨h1,h2,h3,h4,h5,h6,h7,h8⟩
 .have:m.pages = -1/\m.most=0:=by
   rcases hg.mem with h | ⟨p,q,hp,_⟩
   .exact h
   .have hw:JP m=[]:=hw;unfold JP at hw;rw [if_pos (by omega)] at hw;simp [putW] at hw
  refine ⟨h1,h2,h3, ?_,h5,h6,h7,h8⟩;rw [h4,this.1,this.2]; rfl
 .have:=Ks (f:=KA) (l:=m.globals) hw;exact ⟨h1,h2,h3,h4,by rw [h5,this]; rfl,h6,h7,h8⟩
 .have:=Ks (f:=Wq) (l:=m.exports) hw;exact ⟨h1,h2,h3,h4,h5,by rw [h6,this]; rfl,h7,h8⟩
 .have:m.start = -1:=by
   rcases hg.st with h | ⟨p,hp,_⟩
   .exact h
   .have hw:Wx m=[]:=hw;unfold Wx at hw;rw [if_pos (by omega)] at hw;exact absurd hw (Go.Vw.aac _)
  exact ⟨h1,h2,h3,h4,h5,h6,by rw [h7,this]; rfl,h8⟩
 .exact ⟨h1,h2,h3,h4,h5,h6,h7,h8⟩
 .have:=Ks (f:=qa m.types) (l:=m.funcs) hw;exact ⟨h1,h2,by rw [h3,this]; rfl,h4,h5,h6,h7,h8⟩
 .have:=Ks (f:=jcp) (l:=m.datas) hw;exact ⟨h1,h2,h3,h4,h5,h6,h7,by rw [h8,this]; rfl⟩
theorem jaG {α:Type} {q:Rd α} {f:MS->α->MS} {w:List Nat} {x:α} (h:Reads q w x) {s:MS} {pre:List Nat} (hb:s.b=pre++w) (ha:s.a=pre.length):putP q f s = .ok (f { s with a:=s.b.length } x):=by
 have:=h pre [];rw [List.append_nil] at this;unfold putP;rw [hb,ha,this];simp
theorem jcM {p:MS->Except Flt MS} {s s1:MS} {pre w post:List Nat} (hw:w.length<4294967296) (hb:s.b=pre++(uW w.length++w++post)) (ha:s.a=pre.length) (h:p { s with a:=(pre++uW w.length).length,b:=pre++uW w.length++w } = .ok s1) (hs:s1.a=s1.b.length) :
  zU p s = .ok { s1 with b:=s.b }:=by
 have h1:=qY hw pre (w++post);rw [<-List.append_assoc (uW _)] at h1;unfold zU;rw [hb,ha,h1];simp only;have e1:pre.length+(uW w.length).length=(pre++uW w.length).length:=by rw [List.length_append]
 have e2:(pre++(uW (w.length:Int)++w++post)).take ((pre++uW (w.length:Int)).length+w.length)=pre++uW w.length++w:=by
  have:pre++(uW (w.length:Int)++w++post)=(pre++uW (w.length:Int)++w)++post:=by simp
  rw [this, <-List.length_append (bs:=w),List.take_left]
 rw [if_neg (by simp only [List.length_append]; omega),e1,e2,h];simp only;rw [if_neg (by omega)]
theorem ali {ts:List Sig} (ht:gTs ts) {f:Func} (hf:gFun ts f) {s:MS} {pre:List Nat} {done rest:List Func} (hty:s.ty=ts) (hb:s.b=pre++KB ts f) (ha:s.a=pre.length) (hfs:s.fs=some (done++jcr f::rest)) :
  ∃ o,jba done.length s = .ok { s with a:=s.b.length,ops:=o,fs:=some (done++f::rest) }:=by
 obtain ⟨ty,ls,bd⟩:=f;obtain ⟨h1,⟨l,hl,h2,h3⟩,h4,h5⟩:=hf;simp only at h1 hl h4 h5;subst hl;have e:KB ts ⟨ty,ints l,bd⟩=(jS l.length++(ints l).flatMap fun t=>putW [1,t])++(zg ts bd++[11]):=by simp [KB,Kk]
 rw [e] at hb;have r1:=ae1 h2 h3 pre (zg ts bd++[11]);have r2:=(jfe ht 16 bd 0 h4 (by omega)).1 false (pre++(jS l.length++(ints l).flatMap fun t=>putW [1,t])) [];refine ⟨0+cL bd, ?_⟩;unfold jba;rw [hb,ha,r1,hty];simp only;have e9:(pre++(jS (l.length:Int)++(ints l).flatMap fun t=>putW [1,t])).length=pre.length+(jS (l.length:Int)++(ints l).flatMap fun t=>putW [1,t]).length:=List.length_append;rw [List.append_nil,List.append_assoc,e9] at r2;rw [r2,hfs];simp only [aW]
 congr 1
 have e1:(done++jcr ⟨ty,ints l,bd⟩::rest).getD done.length default=jcr ⟨ty,ints l,bd⟩:=by
  rw [af,aV (aT _),Nat.sub_self]
  rfl
 rw [e1,List.set_append_right _ _ (aT _),Nat.sub_self,ao];simp only [jcr,List.length_append,MS.mk.injEq,true_and,and_true,and_self];omega
theorem jeY {ts:List Sig} (ht:gTs ts) : ∀ (gs done:List Func) (s:MS) (pre post:List Nat),(∀ f∈gs,gFun ts f)->(∀ f∈gs,(KB ts f).length<4294967296)->s.ty=ts->s.b=pre++(gs.flatMap (qa ts)++post)->s.a=pre.length->s.fs=some (done++gs.map jcr) ->
  ∃ o,WF gs.length done.length s = .ok { s with a:=pre.length+(gs.flatMap (qa ts)).length,ops:=o,fs:=some (done++gs) }
 | [],done,s,pre,post,hg,hn,hty,hb,ha,hfs=>⟨s.ops,by simp only [WF,aF]; congr 1; rw [List.map_nil] at hfs; rw [<-hfs]; simp [<-ha]⟩
 | f::gs,done,s,pre,post,hg,hn,hty,hb,ha,hfs=>by
  have hnf:=hn f (by simp);have e:qa ts f=uW (KB ts f).length++KB ts f:=by unfold qa; rw [qW _ (by omega)]
  rw [List.flatMap_cons,e] at hb ⊢;obtain ⟨o1,r1⟩:=ali ht (hg f (by simp)) (s:={ s with a:=(pre++uW (KB ts f).length).length,b:=pre++uW (KB ts f).length++KB ts f }) (pre:=pre++uW (KB ts f).length) (done:=done) (rest:=gs.map jcr) hty rfl rfl hfs;have r2:=jcM (p:=jba done.length) (s:=s) (pre:=pre) (w:=KB ts f) (post:=gs.flatMap (qa ts)++post) hnf (by rw [hb]; simp) ha r1 rfl;obtain ⟨o2,r3⟩:=jeY ht gs (done++[f]) { s with a:=(pre++uW (KB ts f).length++KB ts f).length,ops:=o1,fs:=some (done++f::gs.map jcr) } (pre++uW (KB ts f).length++KB ts f) post (fun x hx=>hg x (by simp [hx])) (fun x hx=>hn x (by simp [hx])) hty (by simp only [hb]; simp) rfl (by simp);refine ⟨o2, ?_⟩;simp only [WF,av,r2];have e3:(done++[f]).length=done.length+1:=by simp
  rw [e3] at r3;rw [r3];simp only [List.append_assoc,List.singleton_append,List.length_append]
  congr 2
  omega
theorem aoe {B:Nat} {m:Mod} (hg:gMod B m) (hB:B<=16384) : ∀ f∈m.funcs,(KB m.types f).length<4294967296:=by
 intro f hf;have h1:=hg.fs.2.2;have h2:=hg.fs.1;have h3:(qa m.types f).length<=YT m.types m.funcs:=by
  obtain ⟨l,r,h⟩:=List.append_of_mem hf;rw [h,al6];simp [YT];omega
 have h4:(KB m.types f).length<=(qa m.types f).length:=by unfold qa; rw [List.length_append]; omega
 omega
theorem Yb {α:Type} {p:Rd α} {f:α->List Nat} {l:List α} (hl:l.length<=32) (h : ∀ x∈l,Reads p (f x) x) (hn:qw f l≠[]):Reads (many 32 p) (qw f l) l:=by
 rw [jbD hn];exact Zv l hl (by omega) h
theorem ap6 {B:Nat} {m:Mod} (hg:gMod B m) (hB:B<=16384) {k:Nat} (hk:k<12) {s:MS} (h:SB m k s) (hw:secW m k≠[]) {pre:List Nat} (hb:s.b=pre++secW m k) (ha:s.a=pre.length) :
  ∃ p,secP k=some p/\k≠0/\k≠4/\k≠9 /\ ∃ s1,p s = .ok s1/\SB m (k+1) s1/\s1.b=s.b/\s1.a=s.b.length:=by
 obtain ⟨h1,h2,h3,h4,h5,h6,h7,h8⟩:=h;have hk:k=0\/k=1\/k=2\/k=3\/k=4\/k=5\/k=6\/k=7\/k=8\/k=9\/k=10\/k=11:=by omega
 rcases hk with rfl | rfl | rfl | rfl | rfl | rfl | rfl | rfl | rfl | rfl | rfl | rfl
 .exact absurd rfl hw
 .refine ⟨_,rfl,by decide,by decide,by decide,_,jaG (Yb (f:=sigW) hg.ty.1 (fun x hx=>ajy (hg.ty.2 x hx)) hw) hb ha,⟨rfl,h2,h3,h4,h5,h6,h7,h8⟩,rfl,rfl⟩
 .refine ⟨_,rfl,by decide,by decide,by decide,_,jaG (Yb (f:=Wn) hg.im.1 (fun x hx=>ajm (hg.im.2 x hx)) hw) hb ha,⟨h1,rfl,h3,h4,h5,h6,h7,h8⟩,rfl,rfl⟩
 .refine ⟨_,rfl,by decide,by decide,by decide, ?_⟩;have hn:qw jbH m.funcs≠[]:=hw;have hfs:(∀ f∈m.funcs, ∃ t:Nat,f.type=t/\t<4294967296):=fun f hf=>(hg.fs.2.1 f hf).ty;have key : ∀ l:List Func,(∀ f∈l, ∃ t:Nat,f.type=t/\t<4294967296) -> ∃ ns:List Nat,ns.length=l.length/\(∀ n∈ns,n<4294967296)/\l.flatMap jbH=ns.flatMap (fun n:Nat=>uW n)/\ns.map (fun n:Nat=>(⟨n,[],[]⟩:Func))=l.map jcr:=by
   intro l
   induction l with
   | nil=>intro _; exact ⟨[],rfl,(fun n h=>by cases h),rfl,rfl⟩
   | cons f l ih =>
    intro hl;obtain ⟨ns,q1,q2,q3,q4⟩:=ih fun x hx=>hl x (by simp [hx]);obtain ⟨t,ht1,ht2⟩:=hl f (by simp);refine ⟨t::ns,by simp [q1],fun n hn => ?_, ?_, ?_⟩
    .rcases aE.1 hn with rfl | hn
     .exact ht2
     .exact q2 n hn
    .rw [List.flatMap_cons,List.flatMap_cons,q3];unfold jbH;rw [ht1,qW _ (by omega)]
    .rw [List.map_cons,List.map_cons,q4];unfold jcr;rw [ht1]
  obtain ⟨ns,q1,q2,q3,q4⟩:=key m.funcs hfs;have hrd:Reads (many (32-m.imports.length) index) (qw jbH m.funcs) ns:=by
   rw [jbD hn,q3, <-q1];exact Zv (f:=fun n:Nat=>uW n) ns (by have:=hg.fs.1; omega) (by have:=hg.fs.1; omega) fun x hx=>qY (q2 x hx)
  have h2':s.im=m.imports:=h2;have r:=hrd pre [];rw [List.append_nil] at r;refine ⟨{ s with a:=s.b.length,fs:=some (m.funcs.map jcr) }, ?_,⟨h1,h2,rfl,h4,h5,h6,h7,h8⟩,rfl,rfl⟩;unfold jdE;have hb':s.b=pre++qw jbH m.funcs:=hb;rw [h2',hb',ha,r];simp only [q4,List.length_append]
 .exact absurd rfl hw
 .refine ⟨_,rfl,by decide,by decide,by decide, ?_⟩;have hw':JP m≠[]:=hw;have hb':s.b=pre++JP m:=hb;rcases hg.mem with h | ⟨p,q,hp,hq,hpq,hq16⟩
  .unfold JP at hw';rw [if_neg (by omega)] at hw';exact absurd rfl hw'
  .have e:JP m=[1]++([1]++(uW p++(uW q++[]))):=by
    unfold JP;rw [if_pos (by omega),hp,hq,qW _ (by omega),qW _ (by omega)];simp [putW]
   rw [e] at hb';have r1:=Zb (x:=1) (most:=1) (e:=7) (by omega) (by omega) pre ([1]++(uW p++(uW q++[])));have r2:=Jp (l:=[0,1]) (c:=1) (by decide) (pre++[1]) (uW p++(uW q++[]));have r3:=Zb (x:=p) (most:=16) (e:=7) (by omega) (by omega) (pre++[1]++[1]) (uW q++[]);have r4:=Zb (x:=q) (most:=16) (e:=7) (by omega) (by omega) (pre++[1]++[1]++uW p) [];have r1:u 1 7 s.b pre.length = .ok (1,pre.length+1):=by rw [hb']; exact r1
   simp only [List.append_assoc] at r2 r3 r4 hb';rw [<-hb'] at r2 r3 r4;simp only [List.length_append,List.length_singleton] at r2 r3 r4;refine ⟨{ s with a:=s.b.length,pg:=p,mo:=q }, ?_,⟨h1,h2,h3,by simp only [hp,hq]; rfl,h5,h6,h7,h8⟩,rfl,rfl⟩;unfold jaf;rw [ha,r1];simp only;rw [if_neg (by omega)];unfold memM;simp only;rw [r2];simp only;rw [show pre.length+1+1=pre.length+(1+1) by omega,r3];simp only;rw [if_pos trivial,show pre.length+(1+1)+(uW (p:Int)).length=pre.length+(1+(1+(uW (p:Int)).length)) by omega,r4];simp only;rw [if_neg (by omega)]
   congr 2
   rw [hb'];simp;omega
 .refine ⟨_,rfl,by decide,by decide,by decide,_,jaG (Yb (f:=KA) hg.gl.1 (fun x hx=>amq (hg.gl.2 x hx)) hw) hb ha,⟨h1,h2,h3,h4,rfl,h6,h7,h8⟩,rfl,rfl⟩
 .refine ⟨_,rfl,by decide,by decide,by decide,_,jaG (Yb (f:=Wq) hg.ex.1 (fun x hx=>aln (hg.ex.2 x hx)) hw) hb ha,⟨h1,h2,h3,h4,h5,rfl,h7,h8⟩,rfl,rfl⟩
 .refine ⟨_,rfl,by decide,by decide,by decide, ?_⟩;have hw':Wx m≠[]:=hw;have hb':s.b=pre++Wx m:=hb;rcases hg.st with h | ⟨n,hn,hn2⟩
  .unfold Wx at hw';rw [if_neg (by omega)] at hw';exact absurd rfl hw'
  .have e:Wx m=uW n:=by
    unfold Wx;rw [if_pos (by omega),hn,qW _ (by omega)]
   have r:=qY hn2 pre [];rw [List.append_nil] at r;rw [e] at hb';refine ⟨{ s with a:=s.b.length,st:=n }, ?_,⟨h1,h2,h3,h4,h5,h6,by simp only [hn]; rfl,h8⟩,rfl,rfl⟩;unfold jcX;rw [hb',ha,r];simp only [List.length_append]
 .exact absurd rfl hw
 .refine ⟨_,rfl,by decide,by decide,by decide, ?_⟩;have hn:qw (qa m.types) m.funcs≠[]:=hw;have hb':s.b=pre++qw (qa m.types) m.funcs:=hb;have h3':s.fs.getD []=m.funcs.map jcr:=h3;have h1':s.ty=m.types:=h1;have hl:=hg.fs.1;rw [jbD hn,qW _ (by omega)] at hb';have r1:=qY (x:=m.funcs.length) (by omega) pre (m.funcs.flatMap (qa m.types));obtain ⟨o,r2⟩:=jeY hg.ty m.funcs [] { s with a:=(pre++uW m.funcs.length).length,fs:=some (s.fs.getD []) } (pre++uW m.funcs.length) [] hg.fs.2.1 (aoe hg hB) h1' (by simp only [hb']; simp) rfl (by simp only [h3',aZ]);refine ⟨{ s with a:=s.b.length,ops:=o,fs:=some m.funcs }, ?_,⟨h1,h2,rfl,h4,h5,h6,h7,h8⟩,rfl,rfl⟩;unfold Ym;have hidx:index s.b s.a = .ok (m.funcs.length,(pre++uW (m.funcs.length:Int)).length):=by rw [hb',ha,r1,List.length_append]
  rw [hidx];simp only [h3',aB];rw [if_neg (by simp)];simp only [h3',aF,aZ] at r2;rw [r2]
  congr 2
  rw [hb'];simp;omega
 .refine ⟨_,rfl,by decide,by decide,by decide,_,jaG (Yb (f:=jcp) hg.da.1 (fun x hx=>ajt (hg.da.2.1 x hx)) hw) hb ha,⟨h1,h2,h3,h4,h5,h6,h7,rfl⟩,rfl,rfl⟩
def YV (m:Mod):Nat->List Nat
 | 0=>[]
 | j+1=>ZN m (12-(j+1))++YV m j
theorem jfp (m:Mod) : ∀ j,j<=12->zG m (12-j)++YV m j=qz m
 | 0,_=>by simp [YV,qz]
 | j+1,h=>by
  have:=jfp m j (by omega);rw [<-this,show 12-j=12-(j+1)+1 by omega,JL,YV];simp
theorem jbo {B:Nat} {m:Mod} (hg:gMod B m) (hB:B<=16384) (hlen:(qz m).length<=16384) : ∀ (j n last:Nat) (coded:Bool) (s:MS),j<=12->(last<12-j\/last=0)->(YV m j).length<=n->SB m (12-j) s->s.b=qz m->s.a=(zG m (12-j)).length ->
  ∃ coded' s',KD n last coded s = .ok (coded',s')/\SB m 12 s'/\s'.b=qz m/\((coded=true\/2<=j/\secW m 10≠[])->coded'=true)
 | 0,n,last,coded,s,hj,hl,hn,hs,hb,ha=>by
  refine ⟨coded,s, ?_,hs,hb,fun h=>h.resolve_right (by omega)⟩;cases n with
  | zero=>rfl
  | succ n =>
   simp only [KD];rw [if_neg];rw [ha,hb];have:=jfp m 0 (by omega);simp [YV] at this ⊢;rw [this];exact aT _
 | j+1,n,last,coded,s,hj,hl,hn,hs,hb,ha=>by
  obtain ⟨k,hk⟩ : ∃ k,12-(j+1)=k:=⟨_,rfl⟩
  have hk1:12-j=k+1:=by omega
  have hte:=jfp m (j+1) hj;simp only [YV,hk] at hn hs ha hl hte;by_cases hw:secW m k=[]
  .have hp:ZN m k=[]:=by unfold ZN; rw [hw]; rfl
   rw [hp,aZ] at hn hte;obtain ⟨c',s',r1,r2,r3,r4⟩:=jbo hg hB hlen j n last coded s (by omega) (by omega) hn (by rw [hk1]; exact hs.skip hg (by omega) hw) hb (by rw [hk1,JL,hp,List.append_nil]; exact ha);refine ⟨c',s',r1,r2,r3,fun h=>r4 ?_⟩;rcases h with h | ⟨h,h'⟩
   .exact .inl h
   .refine .inr ⟨?_,h'⟩;rcases bc j 2 with h1 | h1
    .have:k=10:=by omega
     subst this;exact absurd hw h'
    .exact h1
  .have hp:ZN m k=k::(uW (secW m k).length++secW m k):=by
    unfold ZN;rw [if_neg (fun h=>hw (List.length_eq_zero_iff.1 h))]
   rw [hp] at hn hte;obtain ⟨w,hwe⟩ : ∃ w,secW m k=w:=⟨_,rfl⟩
   rw [hwe] at hp hn hte;obtain ⟨pre,hpre⟩ : ∃ pre,zG m k=pre:=⟨_,rfl⟩
   rw [hpre] at ha hte;have hwl:w.length<4294967296:=by
    have:=congrArg List.length hte;simp only [List.length_append,av] at this;omega
   cases n with
   | zero=>simp at hn
   | succ n =>
    have hsb:s.b=pre++([k]++(uW w.length++w++YV m j)):=by rw [hb, <-hte]; simp
    have r1:=JI k pre (uW w.length++w++YV m j);rw [<-hsb] at r1;have hs2:SB m k { s with a:=(pre++[k]++uW w.length).length,b:=pre++[k]++uW w.length++w }:=hs.at' _ _ s.ops;obtain ⟨p,q1,q2,q3,q4,s1,q5,q6,q7,q8⟩:=ap6 hg hB (by omega) hs2 hw (pre:=pre++[k]++uW w.length) (by rw [hwe]) rfl;have r2:=jcM (p:=p) (s:={ s with a:=pre.length+[k].length }) (pre:=pre++[k]) (w:=w) (post:=YV m j) hwl (by simp only [hsb]; simp) (by simp) q5 (by rw [q7,q8]);obtain ⟨c',s',t1,t2,t3,t4⟩:=jbo hg hB hlen j n (max last k) (coded||decide (k=10)) { s1 with b:=s.b } (by omega) (by omega) (by simp only [List.length_append,av] at hn; omega) (by rw [hk1]; exact q6.at' _ _ s1.ops) hb (by
     simp only [q8,hk1,JL,hpre,hp];simp)
    refine ⟨c',s', ?_,t2,t3,fun h=>t4 ?_⟩
    .simp only [KD];have hlt:s.a<s.b.length:=by rw [ha,hsb]; simp
     rw [if_pos hlt,ha,r1];simp only;rw [if_neg (by omega),q1];simp only;rw [if_neg (by omega)];simp only at r2;rw [r2];exact t1
    .rcases h with h | ⟨h,h'⟩
     .exact .inl (by simp [h])
     .rcases bc j 2 with h1 | h1
      .have:k=10:=by omega
       exact .inl (by simp [this])
      .exact .inr ⟨h1,h'⟩
theorem jeJ : ∀ (xs:List Nat) (i:Nat) (pre post:List Nat),YO xs i (pre++(xs++post)) pre.length = .ok ((),pre.length+xs.length)
 | [],i,pre,post=>rfl
 | x::xs,i,pre,post=>by
  have h1:=JI x pre (xs++post);have h2:=jeJ xs (i+1) (pre++[x]) post;simp only [List.append_assoc,List.singleton_append,List.length_append,List.length_singleton] at h1 h2;simp only [YO,aY,h1];rw [if_pos trivial,h2,av]
  congr 2
  omega
theorem jdQ {B:Nat} {m:Mod} (hg:gMod B m) (hB:B<=16384) (hlen:(qz m).length<=16384):qo (qz m)=(m,(0,0,0)):=by
 have h12:=jfp m 12 (by omega);have h0:zG m (12-12)=magic:=by simp [zG]
 rw [h0] at h12;have r1:=jeJ magic 0 [] (YV m 12);simp only [aZ,aF,aS,h12] at r1;have hs0:SB m (12-12) { m0 (qz m) with a:=magic.length }:=⟨rfl,rfl,rfl,rfl,rfl,rfl,rfl,rfl⟩
 obtain ⟨c,s,t1,t2,t3,t4⟩:=jbo hg hB hlen 12 ((qz m).length+1) 0 false { m0 (qz m) with a:=magic.length } (by omega) (.inr rfl) (by
  have:=congrArg List.length h12;rw [List.length_append] at this;omega) hs0 rfl (by rw [h0])
 have hmod:s.mod=m:=by
  obtain ⟨k1,k2,k3,k4,k5,k6,k7,k8⟩:=t2;obtain ⟨a1,a2,a3,a4,a5,a6,a7,a8,a9⟩:=m;simp at k1 k2 k3 k4 k5 k6 k7 k8;simp only [MS.mod,Mod.mk.injEq];exact ⟨k1,k2,k3,k4.1,k4.2,k5,k6,k7,k8⟩
 have hmr:Kd (qz m) = .ok s:=by
  unfold Kd;rw [r1];simp only;rw [t1];simp only;rw [if_neg];rintro ⟨hc,hf⟩;have hfs:s.fs.getD []=m.funcs:=t2.fs;rw [hfs] at hf;have:secW m 10≠[]:=fun h=>by
   have:=Ks (f:=qa m.types) (l:=m.funcs) h;rw [this] at hf;cases hf
  rw [t4 (.inr ⟨by omega,this⟩)] at hc;cases hc
 unfold qo;rw [if_neg (by omega),hmr];simp only [hmod]
end Wm
