import Derived.Test.YtjkfgakbijjegaaGreatC19
/- Part of the proof. -/
set_option linter.unusedVariables false
set_option linter.unusedSimpArgs false
set_option maxRecDepth 10000
set_option maxHeartbeats 2000000

namespace Go.Vw
open Go.Proofs Go.RowKit Wm
attribute [-simp] List.map_set
theorem aew {m:Mod} (hm:tM m) {l:List Wm.Ins} {B:Nat} {c c':Ck} {inn out lab:List Int} {f:Ck->Nat} (ht:tL l) (h:OkC B c) (h1:inn.length<=4096) (h2:out.length<=4096) (h3:lab.length<=4096) (hn:c.fs.length+1+cL l<=1000000) (q:inC m l inn out lab f c = .ok c'):OkC (B+4096+20000000*cL l) c'/\Goes (cL l) c c':=by
 unfold inC at q;split at q
 .cases q
 rename_i c3 h3';obtain ⟨k3,g3⟩:=jaA hm l (B+4096) (KM inn out lab c) c3 ht (jdl h.b h1 h2 h3 (by omega)) (by simp only [KM,av]; omega) h3';obtain ⟨b4,e1,e2,e3,e4⟩:=jge k3.b q k3.ne;have n3:=g3.n;simp only [KM,av] at n3;have g4:Goes (cL l) c c':=⟨e1.trans g3.k,e2.trans g3.lo,by omega,by have:=g3.ops; simp only [KM] at *; omega⟩
 exact ⟨⟨b4,Wj h.ne g4.n⟩,g4⟩
def blkC (m:Mod) (op:Int) (ty:Wm.Sig) (body els:List Wm.Ins) (he:Bool) (c:Ck):Except Flt Ck :=
 match (if op=4 then (popC 127 c).map (·.2) else Except.ok c) with
 | .error e => .error e
 | .ok c1=>match zM ty.inn c1 with
  | .error e => .error e
  | .ok (_,c2)=>match inC m body ty.inn ty.out (if op=3 then ty.inn else ty.out) (fun _=>c.op) c2 with
   | .error e => .error e
   | .ok c4=>match (if he=true then inC m els ty.inn ty.out (if op=3 then ty.inn else ty.out) (fun _=>c.op) c4 else Except.ok c4) with
    | .error e => .error e
    | .ok c6=>if op≠4\/he=true\/ty.inn=ty.out then .ok (Wh ty.out { c6 with op:=c.op }) else .error (({ c6 with op:=c.op }:Ck).flt 10)
theorem aws (m:Mod) (op:Int) (n m':Nat) (ty:Wm.Sig) (body els:List Wm.Ins) (he:Bool) (ts:List Int) (c:Ck):insC m (.mk op n m' ty body els he ts) c=if op=2\/op=3\/op=4 then blkC m op ty body els he { c with op:=c.ops,ops:=c.ops+1 } else ZS m op n ts { c with op:=c.ops,ops:=c.ops+1 }:=by
 rw [insC];simp only;by_cases hk:op=2\/op=3\/op=4
 .rw [if_pos hk,if_pos hk];unfold blkC inC;simp only;generalize (if op=4 then Except.map (fun x:Int × Ck=>x.snd) (popC 127 { c with op:=c.ops,ops:=c.ops+1 }) else Except.ok { c with op:=c.ops,ops:=c.ops+1 })=r0;cases r0 with
  | error e=>rfl
  | ok c1 =>
   simp only;cases zM ty.inn c1 with
   | error e=>rfl
   | ok r1 =>
    simp only;cases seqC m body (KM ty.inn ty.out (if op=3 then ty.inn else ty.out) r1.2) with
    | error e=>rfl
    | ok c3 =>
     simp only;cases jbb ty.out (fun _=>c.ops) c3 with
     | error e=>rfl
     | ok c4 =>
      simp only;cases he with
      | false=>rfl
      | true =>
       simp only [if_true];cases seqC m els (KM ty.inn ty.out (if op=3 then ty.inn else ty.out) c4) with
       | error e=>rfl
       | ok c5 =>
        simp only;cases jbb ty.out (fun _=>c.ops) c5<;>rfl
 .rw [if_neg hk,if_neg hk]
theorem ady {co:Nat} {mv:V} (hmj:mv.nj1=true) {m:Mod} {l:List Wm.Ins} {s:Wm.Sig} {lab:List Int} {at':V} {f:Ck->Nat} {c:Ck} {own:List Nat} {S T:Store} {E:EP} {B:Nat} (hp:CP co mv own S c T) (w:T.Wf) (hb:OkC B c) (hn:c.fs.length+1+cL l<=1000000) (htm:tM m) (htl:tL l) (hll:l.length<=1000000) (hmc:okMc m c) (hop:c.ops+cL l<=1000000000000) (hins : ∀ x∈l,InsX Tryz.prog 127 co mv m x) (hs:s.inn.length<=4096/\s.out.length<=4096/\lab.length<=4096) (hB:B+8192+20000000*cL l<=10000000000000)
  (hat : ∀ own1,CI co mv c own1 T->(∀ o∈own1,o∈own\/S.nx<=o)->AtOk Tryz.prog at' f co mv own1 T) (hE : ∀ e U,inC m l s.inn s.out lab f c = .error e->Kept S own U->E (jY 55 e) U) :
  VCallsX Tryz.prog 90 [.ptr co 0,vl encI l,je s,vl bH lab,at'] (St T [] []) (fun r U => ∃ c',inC m l s.inn s.out lab f c = .ok c'/\r = .tuple []/\CP co mv own S c' U/\U.Wf) E:=by
 rw [jh w];obtain ⟨own1,hi,hk,ho⟩:=hp;refine (acp co mv hmj m l s lab at' f c own1 T E B hi hb.b hn htm htl hll hmc hop hins hs hB (hat own1 hi ho) (fun e U he hk'=>hE e U he (JT hk ho hk'))).wf.mono ?_ fun _ _ h=>h;rintro r U ⟨⟨c',h1,h2,h3⟩,h4⟩;exact ⟨c',h1,h2,CP.trans (c1:=c) hk ho h3,h4⟩
theorem CP.setop {co:Nat} {mv:V} {c:Ck} {own:List Nat} {S T:Store} (h:CP co mv own S c T) (w:T.Wf) (op':Nat) (hco:co∈own) : ∃ fc,T.get co=some (6,[mv,bI c.k,bI c.op,vl bH c.locals,fc,bI c.ops])/\co<T.nx/\CP co mv own S { c with op:=op' } (St T [(co,some (6,[mv,bI c.k,bI op',vl bH c.locals,fc,bI c.ops]))] []):=by
 obtain ⟨own1,⟨fo1,ps1,rfl,hx1⟩,hk1,ho1⟩:=h;obtain ⟨fc1,e1,_⟩:=hx1.obj;have lc1:=hx1.lt w co (by simp [ownC]);refine ⟨fc1,e1,lc1,_,⟨fo1,ps1,rfl,hx1.turn rfl (fun o ho hne=>by rw [jk (hx1.lt w o ho)]; simp [uGet,hne]) fun fc h=>by rw [e1] at h; cases h; rw [jk lc1]; simp [uGet]⟩,⟨by rw [jH]; simp only [lid]; have:=hk1.1; simp; omega,fun o ho hno => ?_⟩,ho1⟩;have hoc:o≠co:=by rintro rfl; exact hno hco
 rw [jk (by have:=hk1.1; omega)];simp only [uGet];rw [if_neg hoc];exact hk1.2 o ho hno
theorem aqj (ob op:Nat) (S:Store) (h:S.get ob=some (1,[bI op])):bG 158 [.ptr ob 0] S fun r T=>r=bI op/\T=S:=by
 refine bE Tryz.func158 Tryz.ntmps158 fun hwf=>?_;have l1:=jx hwf h;have g1 : ∀ l,(St S [] l).get ob=_:=fun l=>(jk l1).trans h;refine bi g1 ?_;exact bw
def blkR (m:Mod) (op:Int) (ty:Wm.Sig) (body els:List Wm.Ins) (he:Bool) (lab:List Int) (c:Ck) (r0:Except Flt Ck):Except Flt Ck:=match r0 with
 | .error e => .error e
 | .ok c1=>match zM ty.inn c1 with
  | .error e => .error e
  | .ok (_,c2)=>match inC m body ty.inn ty.out lab (fun _=>c.op) c2 with
   | .error e => .error e
   | .ok c4=>match (if he=true then inC m els ty.inn ty.out lab (fun _=>c.op) c4 else Except.ok c4) with
    | .error e => .error e
    | .ok c6=>if op≠4\/he=true\/ty.inn=ty.out then .ok (Wh ty.out { c6 with op:=c.op }) else .error (({ c6 with op:=c.op }:Ck).flt 10)
theorem auu (co:Nat) (mv:V) (hmj:mv.nj1=true) (m:Mod) (htm:tM m) (op:Int) (hop:op=2\/op=3\/op=4) (n m':Nat) (ty:Wm.Sig) (body els:List Wm.Ins) (he:Bool) (ts:List Int) (hti:tI (.mk op n m' ty body els he ts)) (hib : ∀ x∈body,InsX Tryz.prog 127 co mv m x) (hie : ∀ x∈els,InsX Tryz.prog 127 co mv m x)
  (c:Ck) (own:List Nat) (S:Store) (E:EP) (B:Nat) (hi:CI co mv c own S) (hb:OkC B c) (hB:B+20000000*(1+(cL body+cL els))<=10000000000000) (hn:c.fs.length+(1+(cL body+cL els))<=1000000) (hmc:okMc m c) (ho:c.ops+(cL body+cL els)<=1000000000000)
  (hE : ∀ e T,blkC m op ty body els he c = .error e->Kept S own T->E (jY 55 e) T) :
  VCallsX Tryz.prog 139 [.ptr co 0,encI (.mk op n m' ty body els he ts)] S (fun r T => ∃ c',blkC m op ty body els he c = .ok c'/\r = .tuple []/\CP co mv own S c' T) E:=by
 simp only [tI] at hti;obtain ⟨t1,t2,t3,t4,t5,t6,t7,t8,t9,t10⟩:=hti;have hco:=hi.co;have hi0:=hi;obtain ⟨fo,ps,rfl,hx⟩:=hi;obtain ⟨fc,h1,_⟩:=hx.obj;rw [jK];refine jc (c:=jf Tryz.f139) Tryz.func139 rfl rfl (by simp [Tryz.ntmps139]) ?_;rw [Tryz.ntmps139];intro hwf;have hlt:=hx.lt hwf;have l1:=hlt co (by simp [ownC]);have g1 : ∀ l,(St S [] l).get co=_:=fun l=>(jk l1).trans h1;obtain ⟨lab,hlab⟩ : ∃ lab,(if op=3 then ty.inn else ty.out)=lab:=⟨_,rfl⟩
 have hll:lab.length<=4096:=by rw [<-hlab]; split<;>assumption
 obtain ⟨r0,hr0⟩ : ∃ r0,(if op=4 then (popC 127 c).map (·.2) else Except.ok c)=r0:=⟨_,rfl⟩
 have hbl:blkC m op ty body els he c=blkR m op ty body els he lab c r0:=by
  rw [<-hr0, <-hlab]; rfl
 refine XQ E ?_;refine ja ?_;refine qi 3 rfl (WH (k:=0) (s:=9) (cs:=[bH op, .int .u64 n, .int .u64 m',vl bH ty.inn,vl bH ty.out,vl encI body,vl encI els, .bool he,vl bH ts]) (by simp) (by simp) rfl (by simp)) (by conv=>lhs; simp [Fr.set]) ?_;refine XQ E ?_ (r:=by conv=>lhs;simp[QV,g1]);refine ja ?_;refine XQ E ?_;refine ja ?_;obtain ⟨T0,hT0⟩ : ∃ T0,St S [] [none,some (1,[bI c.op])]=T0:=⟨_,rfl⟩
 obtain ⟨ob,hob⟩ : ∃ ob,lid S.nx 1=ob:=⟨_,rfl⟩
 have gob:T0.get ob=some (1,[bI c.op]):=by rw [<-hT0, <-hob]; simp
 have obn:ob∉ownC co fo ps/\ob<T0.nx:=by
  rw [<-hT0, <-hob,jH];exact ⟨fun h=>by have:=hlt _ h; simp [lid] at this; omega,by simp [lid]⟩
 have h0:CP co mv (ownC co fo ps) T0 c T0:=by rw [<-hT0]; exact CP.refl (hi0.up hwf _)
 have hE0 : ∀ e U,blkC m op ty body els he c = .error e->Kept T0 (ownC co fo ps) U->E (jY 55 e) U:=fun e U h hk=>hE e U h (by rw [<-hT0] at hk; exact hk.up (by simp) (fun k hk => .inl hk));have fin : ∀ c' U,blkC m op ty body els he c = .ok c'->CP co mv (ownC co fo ps) T0 c' U->zq S.nx (fun r T => ∃ c',blkC m op ty body els he c = .ok c'/\r = .tuple []/\CP co mv (ownC co fo ps) S c' T) (.tuple []) U:=fun c' U h hp=>jn ⟨c',h,rfl,by rw [<-hT0] at hp; exact hp.below⟩;show VWp _ _ _ _ _ _ (St S [] [none,some (1,[bI c.op])]);rw [hT0,hob];refine jD fun w0 => ?_;rw [<-jh w0];clear hT0;have hat : ∀ (c2:Ck) (T2:Store) (own2:List Nat),CP co mv (ownC co fo ps) T0 c2 T2->(∀ o∈own2,o∈ownC co fo ps\/T0.nx<=o)->AtOk Tryz.prog (.func 158 [.ptr ob 0]) (fun _=>c.op) co mv own2 T2:=by
  intro c2 T2 own2 ⟨own1,k1,k2,k3⟩ ho2;refine ⟨158,[.ptr ob 0],rfl,by kernel_rfl,rfl,fun c' own' U hu hk=>aqj ob c.op U ?_⟩;have h2:T2.get ob=some (1,[bI c.op]):=(k2.2 ob obn.2 obn.1).trans gob;rw [hk.2 ob (by have:=k2.1; omega) fun hm => ?_]
  .exact h2
  .rcases ho2 ob hm with h | h
   .exact obn.1 h
   .omega
 -- behind the first pop
 have rest : ∀ c1 T1,r0 = .ok c1->CP co mv (ownC co fo ps) T0 c1 T1->T1.Wf->OkC B c1->Goes 0 c c1->VWp Tryz.prog 76 S.nx (Code.snd (Code.snd (Code.snd (Code.snd (jf Tryz.f139))))) (jcq [].reverse (zq S.nx fun r T => ∃ c',blkC m op ty body els he c = .ok c'/\r = .tuple []/\CP co mv (ownC co fo ps) S c' T) E)
   [(0, .ptr co 0),(3, .ref (.agg [bH op, .int .u64 n, .int .u64 m',vl bH ty.inn,vl bH ty.out,vl encI body,vl encI els, .bool he,vl bH ts])),(4, .ptr ob 0),(5, .func 158 [.ptr ob 0])] (St T1 [] []):=by
  intro c1 T1 e1 h1 w1 b1 gg1;rw [e1] at hbl;have n1:=gg1.n;have o1:=gg1.ops;refine XQ E ?_;refine jb rfl ((jca co mv ty.inn _ (by omega) (by omega)).use h1 w1 b1 (fun e U he hk=>hE0 e U (by rw [hbl]; unfold blkR; simp only; rw [he]) hk)) ?_;rintro _ T2 ⟨xs,c2,q2,rfl,h2,w2⟩;have b2:=b1.pops q2;have gg2:=gg1.trans (zQ q2).goes;have n2:=gg2.n;have o2:=gg2.ops;have hbl2:blkC m op ty body els he c=match inC m body ty.inn ty.out lab (fun _=>c.op) c2 with
   | .error e => .error e
   | .ok c4=>match (if he=true then inC m els ty.inn ty.out lab (fun _=>c.op) c4 else Except.ok c4) with
    | .error e => .error e
    | .ok c6=>if op≠4\/he=true\/ty.inn=ty.out then .ok (Wh ty.out { c6 with op:=c.op }) else .error (({ c6 with op:=c.op }:Ck).flt 10):=by rw [hbl]; unfold blkR; simp only; rw [q2]
  refine ja ?_;rw [<-jh w2]
  -- the label
  have rest2:VWp Tryz.prog 76 S.nx (Code.snd (Code.snd (Code.snd (Code.snd (Code.snd (Code.snd (Code.snd (jf Tryz.f139)))))))) (jcq [].reverse (zq S.nx fun r T => ∃ c',blkC m op ty body els he c = .ok c'/\r = .tuple []/\CP co mv (ownC co fo ps) S c' T) E)
   [(0, .ptr co 0),(3, .ref (.agg [bH op, .int .u64 n, .int .u64 m',vl bH ty.inn,vl bH ty.out,vl encI body,vl encI els, .bool he,vl bH ts])),(4, .ptr ob 0),(5, .func 158 [.ptr ob 0]),(6,vl bH lab)] (St T2 [] []):=by
   have cut : ∀ {c':Ck} {k:Nat},Goes k c c'->okMc m c':=fun g=>⟨hmc.n,hmc.gl,by rw [g.lo]; exact hmc.lo⟩
   have w2':=ady (lab:=lab) (at' := .func 158 [.ptr ob 0]) (f:=fun _=>c.op) (s:=ty) (E:=E) hmj h2 w2 b2 (by omega) htm t9 t7 (cut gg2) (by omega) hib ⟨t3,t4,hll⟩ (by omega) (fun own1 k1 k2=>hat c2 T2 own1 h2 k2) (fun e U he hk=>hE0 e U (by rw [hbl2,he]) hk);simp only [je] at w2';refine XQ E ?_;refine jb rfl w2' ?_;rintro _ T4 ⟨c4,q4,rfl,h4,w4⟩;obtain ⟨b4,g4⟩:=aew htm t9 b2 t3 t4 hll (by omega) q4;have gg4:=gg2.trans g4;have n4:=gg4.n;have o4:=gg4.ops;rw [q4] at hbl2;simp only at hbl2;refine ja ?_;rw [<-jh w4];have rest3 : ∀ c6 T6 k,(blkC m op ty body els he c=if op≠4\/he=true\/ty.inn=ty.out then .ok (Wh ty.out { c6 with op:=c.op }) else .error (({ c6 with op:=c.op }:Ck).flt 10))->CP co mv (ownC co fo ps) T0 c6 T6->T6.Wf->OkC (B+8192+20000000*(cL body+cL els)) c6->Goes k c c6->VWp Tryz.prog 76 S.nx (Code.snd (Code.snd (Code.snd (Code.snd (Code.snd (Code.snd (Code.snd (Code.snd (Code.snd (jf Tryz.f139)))))))))) (jcq [].reverse (zq S.nx fun r T => ∃ c',blkC m op ty body els he c = .ok c'/\r = .tuple []/\CP co mv (ownC co fo ps) S c' T) E)
    [(0, .ptr co 0),(3, .ref (.agg [bH op, .int .u64 n, .int .u64 m',vl bH ty.inn,vl bH ty.out,vl encI body,vl encI els, .bool he,vl bH ts])),(4, .ptr ob 0)] (St T6 [] []):=by
    intro c6 T6 k hbl6 h6 w6 b6 gg6;obtain ⟨fc6,e6,lc6,h7⟩:=h6.setop w6 c.op hco;have g6 : ∀ l,(St T6 [] l).get co=_:=fun l=>(jk lc6).trans e6;have u6 : ∀ c' l,(St T6 [] l).upd co c'=St T6 [(co,some c')] l:=fun c' l=>by rw [jT lc6]; rfl
    have gb6:T6.get ob=some (1,[bI c.op]):=by
     obtain ⟨_,_,k2,_⟩:=h6;exact (k2.2 ob obn.2 obn.1).trans gob
    have lb6:ob<T6.nx:=jx w6 gb6;have gb : ∀ l,(St T6 [] l).get ob=_:=fun l=>(jk lb6).trans gb6;have b7:OkC (B+8192+20000000*(cL body+cL els)) { c6 with op:=c.op }:=⟨⟨b6.b.n,b6.b.st⟩,b6.ne⟩
    refine XQ E ?_ (r:=by conv=>lhs;simp[QV,g6,u6,gb]);refine ja ?_;obtain ⟨T7,hT7⟩ : ∃ T7,St T6 [(co,some (6,[mv,bI c6.k,bI c.op,vl bH c6.locals,fc6,bI c6.ops]))] []=T7:=⟨_,rfl⟩
    rw [hT7] at h7;show VWp _ _ _ _ _ _ (St T6 [(co,some (6,[mv,bI c6.k,bI c.op,vl bH c6.locals,fc6,bI c6.ops]))] []);rw [hT7];refine jD fun w7 => ?_;rw [<-jh w7];have qe:=jbS ty.inn ty.out (by omega);obtain ⟨beq,hbeq⟩ : ∃ beq,decide (ty.inn=ty.out)=beq:=⟨_,rfl⟩
    rw [hbeq] at qe;obtain ⟨bb,hbb⟩ : ∃ bb,(decide (op≠4)||(he||beq))=bb:=⟨_,rfl⟩
    have hif:blkC m op ty body els he c=if bb=true then .ok (Wh ty.out { c6 with op:=c.op }) else .error (({ c6 with op:=c.op }:Ck).flt 10):=by
     rw [hbl6, <-hbb, <-hbeq];simp
    have hmu:=al8 bb 10 h7 w7 (E:=E) (fun h U hk=>hE0 _ U (by rw [hif,h]; rfl) hk);have fin7 : ∀ bx,bx=bb->VWp Tryz.prog 76 S.nx (Code.snd (Code.snd (Code.snd (Code.snd (Code.snd (Code.snd (Code.snd (Code.snd (Code.snd (Code.snd (Code.snd (jf Tryz.f139)))))))))))) (jcq [].reverse (zq S.nx fun r T => ∃ c',blkC m op ty body els he c = .ok c'/\r = .tuple []/\CP co mv (ownC co fo ps) S c' T) E)
     [(0, .ptr co 0),(3, .ref (.agg [bH op, .int .u64 n, .int .u64 m',vl bH ty.inn,vl bH ty.out,vl encI body,vl encI els, .bool he,vl bH ts]))] (St T7 [] [])\/bx=false:=by
     intro bx hbx;cases bx with
     | false=>exact .inr rfl
     | true =>
      refine .inl ?_;rw [<-hbx,if_pos rfl] at hif;refine XQ E ?_;refine jb rfl ((jeC co mv ty.out _ (by omega)).use h7 w7 b7 (fun e U he hk=>by cases he)) ?_;rintro _ T8 ⟨c8,q8,rfl,h8,w8⟩;cases q8;refine ja ?_;refine bk ?_;exact fin _ _ hif h8
    by_cases e4:op=4
    .subst e4;cases he with
     | true =>
      have hbb1:bb=true:=by rw [<-hbb]; simp
      rw [hbb1] at hmu fin7;refine XQ E ?_;refine jb rfl hmu ?_;rintro _ _ ⟨_,rfl,rfl⟩;refine ja ?_;refine QO [0,3] ?_;exact (fin7 true rfl).resolve_right (by simp)
     | false =>
      have hbb1:beq=bb:=by rw [<-hbb]; simp
      subst hbb1;refine XQ E ?_;refine qr rfl (qe) ?_;refine XN ?_;refine jb rfl hmu ?_;rintro _ _ ⟨hbt,rfl,rfl⟩;refine ja ?_;refine QO [0,3] ?_;exact (fin7 beq rfl).resolve_right (by rw [hbt]; simp)
    .have hbb1:bb=true:=by rw [<-hbb]; simp [e4]
     rw [hbb1] at hmu fin7;refine XQ E ?_ (r:=by conv=>lhs;simp[QV,e4]);refine jb rfl hmu ?_;rintro _ _ ⟨_,rfl,rfl⟩;refine ja ?_;refine QO [0,3] ?_;exact (fin7 true rfl).resolve_right (by simp)
   cases he with
   | true =>
    rw [if_pos rfl] at hbl2;refine XQ E ?_;refine ja ?_;refine QT ?_;refine jct rfl rfl rfl ?_;have w4':=ady (lab:=lab) (at' := .func 158 [.ptr ob 0]) (f:=fun _=>c.op) (s:=ty) (E:=E) hmj h4 w4 b4 (by omega) htm t10 t8 (cut gg4) (by omega) hie ⟨t3,t4,hll⟩ (by omega) (fun own1 k1 k2=>hat c4 T4 own1 h4 k2) (fun e U he hk=>hE0 e U (by rw [hbl2,he]) hk);simp only [je] at w4';refine XQ E ?_;refine jb rfl w4' ?_;rintro _ T6 ⟨c6,q6,rfl,h6,w6⟩;obtain ⟨b6,g6⟩:=aew htm t10 b4 t3 t4 hll (by omega) q6;rw [q6] at hbl2;refine ja ?_;rw [<-jh w6];refine QO [0,3,4] ?_;exact rest3 c6 T6 _ hbl2 h6 w6 (b6.mono (by omega)) (gg4.trans g6)
   | false =>
    rw [if_neg (by simp)] at hbl2;refine XQ E ?_;refine ja ?_;refine QT ?_;refine Zn rfl rfl rfl ?_;refine QT ?_;refine Kl rfl ?_;refine QO [0,3,4] ?_;exact rest3 c4 T4 _ hbl2 h4 w4 (b4.mono (by omega)) gg4
  by_cases e3:op=3
  .subst e3;rw [if_pos rfl] at hlab;subst hlab;refine XQ E ?_;refine ja ?_;refine XQ E ?_;refine ja ?_;refine QT ?_;refine jct rfl rfl rfl ?_;refine XQ E ?_;refine ja ?_;refine QO [0,3,4,5,6] ?_;exact rest2
  .rw [if_neg e3] at hlab;subst hlab;refine XQ E ?_;refine ja ?_;refine XQ E ?_ (r:=by conv=>lhs;simp[QV,e3]);refine ja ?_;refine QT ?_;refine Zn rfl rfl rfl ?_;refine QT ?_;refine Kl rfl ?_;refine QO [0,3,4,5,6] ?_;exact rest2
 rcases hop with rfl | rfl | rfl
 .rw [if_neg (by decide)] at hr0;refine XQ E ?_;refine ja ?_;refine QT ?_;refine Zn rfl rfl rfl ?_;refine QT ?_;refine Kl rfl ?_;refine QO [0,3,4,5] ?_;exact rest c T0 hr0.symm h0 w0 hb ⟨rfl,rfl,rfl,aT _⟩
 .rw [if_neg (by decide)] at hr0;refine XQ E ?_;refine ja ?_;refine QT ?_;refine Zn rfl rfl rfl ?_;refine QT ?_;refine Kl rfl ?_;refine QO [0,3,4,5] ?_;exact rest c T0 hr0.symm h0 w0 hb ⟨rfl,rfl,rfl,aT _⟩
 .rw [if_pos rfl] at hr0;refine bk ?_;refine XQ E ?_;refine jb rfl ((aab co mv 127 _ (by omega)).use h0 w0 hb (fun e U he hk=>hE0 e U (by rw [hbl, <-hr0,he]; rfl) hk)) ?_;rintro _ T1 ⟨x,c1,q1,rfl,h1,w1⟩;rw [q1] at hr0;refine ja ?_;rw [<-jh w1];refine QO [0,3,4,5] ?_;exact rest c1 T1 hr0.symm h1 w1 (hb.pop q1) (Ki q1).goes
theorem ar5 (co:Nat) (m:Mod) (htm:tM m) (op:Int) (n m':Nat) (ty:Wm.Sig) (body els:List Wm.Ins) (he:Bool) (ts:List Int) (hti:tI (.mk op n m' ty body els he ts)) (hib : ∀ x∈body,InsX Tryz.prog 127 co (.ref (jR m)) m x) (hie : ∀ x∈els,InsX Tryz.prog 127 co (.ref (jR m)) m x) :
  InsX Tryz.prog 127 co (.ref (jR m)) m (.mk op n m' ty body els he ts):=by
 intro c own S E B hi hb hB hn hmc ho hE;have hti':=hti;simp only [tI] at hti;obtain ⟨t1,t2,t3,t4,t5,t6,t7,t8,t9,t10⟩:=hti;simp only [cI] at hB hn ho;have hco:=hi.co;have hi0:=hi;have hie':=aws m op n m' ty body els he ts c;obtain ⟨c0,hc0⟩ : ∃ c0:Ck,{ c with op:=c.ops,ops:=c.ops+1 }=c0:=⟨_,rfl⟩
 rw [hc0] at hie';obtain ⟨fo,ps,rfl,hx⟩:=hi;obtain ⟨fc,h1,_⟩:=hx.obj;rw [jK];refine jc (c:=jf Tryz.f127) Tryz.func127 rfl rfl (by simp [Tryz.ntmps127]) ?_;rw [Tryz.ntmps127];intro hwf;have hlt:=hx.lt hwf;have l1:=hlt co (by simp [ownC]);obtain ⟨mv,hmv⟩ : ∃ mv,V.ref (jR m)=mv:=⟨_,rfl⟩
 rw [hmv] at h1;have g1 : ∀ l,(St S [] l).get co=_:=fun l=>(jk l1).trans h1;have u1 : ∀ c' l,(St S [] l).upd co c'=St S [(co,some c')] l:=fun c' l=>by rw [jT l1]; rfl
 have g2 : ∀ c' l,(St S [(co,some c')] l).get co=some c':=fun c' l=>by rw [jk l1]; simp [uGet]
 have u2 : ∀ c c' l,(St S [(co,some c)] l).upd co c'=St S [(co,some c')] l:=fun c c' l=>by rw [jT l1]; simp [uSet]
 have a1:IntKind.i64.wrap ((c.ops:Int)+1)=((c.ops+1:Nat):Int):=by rw [wrap_i64 (by omega) (by omega)]; omega
 obtain ⟨o1,ho1⟩ : ∃ o1,c.ops+1=o1:=⟨_,rfl⟩
 rw [ho1] at a1 hc0;refine XQ E ?_;refine ja ?_;refine qi 3 rfl (WH (k:=0) (s:=9) (cs:=[bH op, .int .u64 n, .int .u64 m',vl bH ty.inn,vl bH ty.out,vl encI body,vl encI els, .bool he,vl bH ts]) (by simp) (by simp) rfl (by simp)) (by conv=>lhs; simp [Fr.set]) ?_;refine XQ E ?_ (r:=by conv=>lhs;simp[QV,g1,u1]);refine ja ?_;refine XQ E ?_ (r:=by conv=>lhs;simp[QV,g2,u2,a1]);refine ja ?_;obtain ⟨T0,hT0⟩ : ∃ T0,St S [(co,some (6,[mv,bI c.k,bI c.ops,vl bH c.locals,fc,bI o1]))] [none]=T0:=⟨_,rfl⟩
 show VWp _ _ _ _ _ _ (St S [(co,some (6,[mv,bI c.k,bI c.ops,vl bH c.locals,fc,bI o1]))] [none]);have h0:CP co (.ref (jR m)) (ownC co fo ps) S c0 T0:=by
  rw [<-hT0, <-hc0];refine ⟨_,⟨fo,ps,rfl,hx.turn rfl (fun o ho hne=>by rw [jk (hlt o ho)]; simp [uGet,hne]) fun fc' h => ?_⟩,⟨by rw [jH]; simp only [lid]; simp,fun o ho hno => ?_⟩,fun o h => .inl h⟩
  .rw [hmv] at h ⊢;rw [h1] at h; cases h; rw [jk l1]; simp [uGet]
  .have hoc:o≠co:=by rintro rfl; exact hno hco
   rw [jk ho]; simp [uGet,hoc]
 rw [hT0];refine jD fun w0 => ?_;rw [<-jh w0];have b0:OkC B c0:=by rw [<-hc0]; exact ⟨⟨hb.b.n,hb.b.st⟩,hb.ne⟩
 have mc0:okMc m c0:=by rw [<-hc0]; exact ⟨hmc.n,hmc.gl,hmc.lo⟩
 have n0:c0.fs.length=c.fs.length:=by rw [<-hc0]
 have s0:c0.ops=c.ops+1:=by rw [<-hc0, <-ho1]
 by_cases k2:op=2\/op=3\/op=4
 .rw [if_pos k2] at hie';have hB2:VCallsX Tryz.prog 139 [.ptr co 0,encI (.mk op n m' ty body els he ts)] (St T0 [] []) (fun r U => ∃ c',blkC m op ty body els he c0 = .ok c'/\r = .tuple []/\CP co (.ref (jR m)) (ownC co fo ps) S c' U) E:=by
   rw [jh w0];obtain ⟨own1,hi1,hk1,ho1⟩:=h0;refine (auu co _ rfl m htm op k2 n m' ty body els he ts hti' hib hie c0 own1 T0 E B hi1 b0 (by omega) (by omega) mc0 (by omega) (fun e U he hk=>hE e U (by rw [hie']; exact he) (JT hk1 ho1 hk))).mono ?_ fun _ _ h=>h;rintro r U ⟨c',q1,q2,q3⟩;exact ⟨c',q1,q2,CP.trans (c1:=c0) hk1 ho1 q3⟩
  rw [jK] at hB2;rcases k2 with rfl | rfl | rfl
  all_goals
   refine bk ?_;refine XQ E ?_;refine jb rfl hB2 ?_;rintro _ T1 ⟨c1,q1,rfl,h1⟩;refine ja ?_;refine bk ?_;exact jn ⟨c1,hie'.trans q1,rfl,h1⟩
 rw [if_neg k2] at hie';by_cases kl:op=0\/op=12\/op=13\/op=14\/op=15
 .have hfl:ZS m op n ts c0=Zg op n ts c0:=by unfold ZS; rw [if_pos kl]
  rw [hfl] at hie';have hL:=(aq6 co (.ref (jR m)) op n m' ty body els he ts t2 t5 t6 kl B (by omega)).use h0 w0 b0 (E:=E) (fun e U he hk=>hE e U (by rw [hie']; exact he) hk);rw [jK] at hL;rcases kl with rfl | rfl | rfl | rfl | rfl
  all_goals
   refine bk ?_;refine XQ E ?_;refine jb rfl hL ?_;rintro _ T1 ⟨c1,q1,rfl,h1,w1⟩;refine ja ?_;refine bk ?_;exact jn ⟨c1,hie'.trans q1,rfl,h1⟩
 have m2 : ¬ op=2:=fun h=>k2 (.inl h);have m3 : ¬ op=3:=fun h=>k2 (.inr (.inl h));have m4 : ¬ op=4:=fun h=>k2 (.inr (.inr h));have m5 : ¬ op=0:=fun h=>kl (.inl h);have m6 : ¬ op=12:=fun h=>kl (.inr (.inl h));have m7 : ¬ op=13:=fun h=>kl (.inr (.inr (.inl h)));have m8 : ¬ op=14:=fun h=>kl (.inr (.inr (.inr (.inl h))));have m9 : ¬ op=15:=fun h=>kl (.inr (.inr (.inr (.inr h))));by_cases k26:op=26
 .subst k26;have hfl:ZS m 26 n ts c0=match popC 0 c0 with
   | .error e => .error e
   | .ok (_,c1) => .ok c1:=rfl
  rw [hfl] at hie';refine bk ?_;refine XQ E ?_;refine jb rfl ((aab co _ 0 _ (by omega)).use h0 w0 b0 (fun e U he hk=>hE e U (by rw [hie',he]) hk)) ?_;rintro _ T1 ⟨x,c1,q1,rfl,h1,w1⟩;rw [q1] at hie';refine ja ?_;refine bk ?_;exact jn ⟨c1,hie',rfl,h1⟩
 by_cases k27:op=27
 .subst k27;have hfl:ZS m 27 n ts c0=match popC 127 c0 with
   | .error e => .error e
   | .ok (_,c1)=>match popC 0 c1 with
    | .error e => .error e
    | .ok (t,c2)=>match popC t c2 with
     | .error e => .error e
     | .ok (t',c3) => .ok (Wh [t'] c3):=rfl
  rw [hfl] at hie';refine bk ?_;refine XQ E ?_;refine jb rfl ((aab co _ 127 _ (by omega)).use h0 w0 b0 (fun e U he hk=>hE e U (by rw [hie',he]) hk)) ?_;rintro _ T1 ⟨x1,c1,q1,rfl,h1,w1⟩;rw [q1] at hie';simp only at hie';refine ja ?_;rw [<-jh w1];refine XQ E ?_;refine jb rfl ((aab co _ 0 _ (by omega)).use h1 w1 (b0.pop q1) (fun e U he hk=>hE e U (by rw [hie',he]) hk)) ?_;rintro _ T2 ⟨x2,c2,q2,rfl,h2,w2⟩;rw [q2] at hie';simp only at hie';refine XN ?_;rw [<-jh w2];refine jb rfl ((aab co _ x2 _ (by omega)).use h2 w2 ((b0.pop q1).pop q2) (fun e U he hk=>hE e U (by rw [hie',he]) hk)) ?_;rintro _ T3 ⟨x3,c3,q3,rfl,h3,w3⟩;rw [q3] at hie';simp only at hie';rw [<-jh w3];refine XN ?_;have h4:=h3.addl w3 [none];have w4:(St T3 [] [none]).Wf:=axd w3 rfl;have hpu:=(jeC co (.ref (jR m)) [x3] B (by simp; omega)).use h4 w4 (((b0.pop q1).pop q2).pop q3) (E:=E) (fun e U he hk=>by cases he);rw [jh w4] at hpu;refine jb rfl (qU (GhostArgs.one [.ptr co 0] [] (frz1 (k:=0) (by simp) (by rfl) (by rfl) (by rfl))) hpu) ?_;rintro _ T5 ⟨c5,q5,rfl,h5,w5⟩
  cases q5
  refine ja ?_;refine bk ?_;exact jn ⟨_,hie',rfl,h5⟩
 have hfl:ZS m op n ts c0=match sigC m op n c0 with
  | .error e => .error e
  | .ok (i,o)=>match zM i c0 with
   | .error e => .error e
   | .ok (_,c1) => .ok (Wh o c1):=by
  unfold ZS; rw [if_neg kl,if_neg k26,if_neg k27];cases sigC m op n c0 with
  | error e=>rfl
  | ok r =>
   obtain ⟨i,o⟩:=r;simp only;cases zM i c0<;>rfl
 rw [hfl] at hie';have hS:VCallsX Tryz.prog 142 [.ptr co 0,encI (.mk op n m' ty body els he ts)] (St T0 [] []) (fun r T => ∃ i o,sigC m op n c0 = .ok (i,o)/\r = .tuple [vl bH i,vl bH o]/\T=St T0 [] []) E:=by
  rw [jh w0];obtain ⟨own1,hi1,hk1,ho1⟩:=h0;exact axj co m op t1 n m' ty body els he ts t2 c0 mc0 own1 T0 E hi1 (fun e U he hk=>hE e U (by rw [hie',he]) (JT hk1 ho1 (hk.weak (by simp))))
 rw [jK] at hS
 repeat first|refine QG ?_|refine QY ?_ (r:=by conv=>lhs;simp[QV,m2,m3,m4,m5,m6,m7,m8,m9,k26,k27])
 refine XQ E ?_;refine jb rfl hS ?_;rintro _ _ ⟨i,o,q1,rfl,rfl⟩;rw [q1] at hie';simp only at hie';have hlen:=agr htm q1;refine XN ?_;refine ja ?_;refine XQ E ?_;refine jb rfl ((jca co _ i _ (by omega) (by omega)).use h0 w0 b0 (fun e U he hk=>hE e U (by rw [hie',he]) hk)) ?_;rintro _ T1 ⟨xs,c1,q2,rfl,h1,w1⟩;rw [q2] at hie';simp only at hie';refine ja ?_;rw [<-jh w1];refine XQ E ?_;refine jb rfl ((jeC co _ o _ (by omega)).use h1 w1 (b0.pops q2) (fun e U he hk=>by cases he)) ?_;rintro _ T2 ⟨c2,q3,rfl,h2,w2⟩;cases q3;refine ja ?_;refine bk ?_;exact jn ⟨_,hie',rfl,h2⟩
theorem ah9 (co:Nat) (m:Mod) (htm:tM m) : ∀ (N:Nat) (x:Wm.Ins),SizeOf.sizeOf x<=N->tI x->InsX Tryz.prog 127 co (.ref (jR m)) m x
 | 0,x,h,_=>by cases x; simp at h
 | N+1, .mk op n m' ty body els he ts,h,ht=>by
  have ht':=ht;simp only [tI] at ht';obtain ⟨t1,t2,t3,t4,t5,t6,t7,t8,t9,t10⟩:=ht';simp at h;refine ar5 co m htm op n m' ty body els he ts ht (fun y hy => ?_) (fun y hy => ?_)
  .have:=List.sizeOf_lt_of_mem hy;exact ah9 co m htm N y (by omega) (aag t9 y hy)
  .have:=List.sizeOf_lt_of_mem hy;exact ah9 co m htm N y (by omega) (aag t10 y hy)
theorem atw (x:V) (b:Bool) (e:Int) (S:Store) (E:EP) (hE:b=false -> ∀ T,Kept S [] T->E (jY 55 (e, -1,0)) T):VCallsX Tryz.prog 87 [x, .bool b,bH e] S (fun r T=>b=true/\r = .tuple []/\T=S) E:=by
 refine jc (c:=jf Tryz.f87) Tryz.func87 rfl rfl (by simp [Tryz.ntmps87]) ?_;rw [Tryz.ntmps87];intro hwf;cases b with
 | true =>
  refine bk ?_;rw [jh hwf];exact jn ⟨rfl,rfl,rfl⟩
 | false =>
  refine bk ?_;refine XQ E ?_;refine Wb rfl ?_;exact hE rfl _ (jN (by simp))
theorem WL {x:V} {S:Store} {E:EP} (l:OL) (b:Bool) (e:Int) (hE:b=false -> ∀ T,Kept S [] T->E (jY 55 (e, -1,0)) T):VCallsX Tryz.prog 87 [x, .bool b,bH e] (St S [] l) (fun r T=>b=true/\r = .tuple []/\T=St S [] l) E :=
 atw x b e (St S [] l) E fun h T hk=>hE h T (hk.up (by simp) (by simp))
def ModX (P:Program) (f:FuncId) (m:Mod) (p:Except Flt Unit):Prop := ∀ (S:Store) (E:EP),(∀ e T,p = .error e->Kept S [] T->E (jY 55 e) T) ->
 VCallsX P f [.ref (jR m)] S (fun r T=>p = .ok ()/\r = .tuple []/\T=S) E
theorem jeU (S:Store) (k:Nat):ZX.old ⟨DU [],DU [],S,[],lid S.nx k,false⟩:=jea (by simp) (by simp [lid])
theorem jaY (S:Store) (l:OL) (k:Nat) (h:k<=l.length):ZX.ok ⟨DU [],DU [],S,[],lid S.nx k,false⟩ (St S [] l):=aae (by simp) (jN (by simp)) (by rw [jH]; simp only [lid]; omega)
def impP (m:Mod) (x:Import):Except Flt Unit:=Yz (decide (x.type<m.types.length)) 9
def funP (m:Mod) (f:Wm.Func):Except Flt Unit:=match Yz (decide (f.type<m.types.length)) 9 with
  | .error e => .error e
  | .ok _=>Yz (decide ((((m.types[f.type.toNat]?.getD ⟨[],[]⟩).inn.length+f.locals.length:Nat):Int)<=32)) 7
theorem af2 (m:Mod) (hm:okM m) (hty : ∀ f∈m.funcs,0<=f.type):ModX Tryz.prog 16 m (jaT m):=by
 intro S E hE;have q1:=hm.ty.1;have q2:=hm.im.1;have q3:=hm.fs.1;have hf:jaT m=match allC (impP m) m.imports with
  | .error e => .error e
  | .ok _=>allC (funP m) m.funcs:=rfl
 simp only [jR];refine jc (c:=jf Tryz.f16) Tryz.func16 rfl rfl (by simp [Tryz.ntmps16]) ?_;rw [Tryz.ntmps16];intro hwf;refine bk ?_;refine bB [0,10,11,12] (fun j σ T => ∃ k:Nat,k<=m.imports.length/\j=m.imports.length-k/\allC (impP m) (m.imports.drop k)=allC (impP m) m.imports/\T=St S [] []/\σ=[(0, .ref (.agg [vl je m.types,vl jp m.imports,vl encF m.funcs,bH m.pages,bH m.most,vl jv m.globals,vl jr m.exports,bH m.start,vl jq m.datas])),(10,vl jp m.imports),(11,bI m.imports.length),(12,bI k)]) m.imports.length ?_ ?_
 .exact ⟨0,by omega,by omega,rfl,rfl,by simp [Fr.oy,Fr.lk]⟩
 .rintro j σ T ⟨k,hk,rfl,hr,rfl,rfl⟩;by_cases hkl:k<m.imports.length
  .rw [aj hkl,allC] at hr;have hix : ∀ S,jz 3 S (vl jp m.imports) (.int .i64 (k:Int))=some (.ref (jp m.imports[k])):=fun S=>ZQ jp 3 (fun _=>rfl) _ _ hkl _ S;have hw:IntKind.i64.wrap ((k:Int)+1)=(k:Int)+1:=jP hkl (by omega);obtain ⟨x,hx⟩ : ∃ x,m.imports[k]=x:=⟨_,rfl⟩
   rw [hx] at hr hix;obtain ⟨xm,xn,xt⟩:=x;obtain ⟨b,hb⟩ : ∃ b,decide (xt<m.types.length)=b:=⟨_,rfl⟩
   have hp:impP m ⟨xm,xn,xt⟩=Yz b 9:=by rw [<-hb]; rfl
   rw [hp] at hr;simp only [jp] at hix;refine bm hkl hix ?_;show VWp _ _ _ _ _ _ _;refine qi 3 rfl (WH (k:=0) (s:=3) (cs:=[vstr xm,vstr xn,bH xt]) (by simp) (by simp) rfl (by simp)) (by conv=>lhs; simp [Fr.set]) ?_;refine QT ?_;refine XD E (⟨DU [],DU [],S,[],lid S.nx 1,false⟩) [] [0,1,2,3,4,5,6,7,8,9,10] [26] (ho:=jeU S 1) (hz:=jaY S [none] 1 (by simp)) (r:=by conv=>lhs;simp[QV,↓ju,ZR,Zs,zz,jl,ji,V.nj,V.nj1,V.bK,hb]) (k:=?_);refine qM rfl rfl (by rw [jH]; rfl) ((WL [none] b 9 (fun h T hk=>hE _ T (by rw [hf, <-hr,h]; rfl) hk)).mono ?_ fun _ _ h=>h);rintro _ _ ⟨rfl,rfl,rfl⟩;refine ⟨jaY S [none] 1 (by simp), ?_⟩;refine jy ?_;refine bi hw ?_;refine QA [] (h:=⟨?_,k+1,(by omega),rfl,hr,by simp,by simp [hw]⟩);omega
  .have hke:k=m.imports.length:=by omega
   subst hke;rw [List.drop_length,allC] at hr;rw [<-hr] at hf;simp only at hf;refine bk ?_;refine bB [0,32,33,34] (fun j σ T => ∃ k:Nat,k<=m.funcs.length/\j=m.funcs.length-k/\allC (funP m) (m.funcs.drop k)=allC (funP m) m.funcs/\T=St S [] []/\σ=[(0, .ref (.agg [vl je m.types,vl jp m.imports,vl encF m.funcs,bH m.pages,bH m.most,vl jv m.globals,vl jr m.exports,bH m.start,vl jq m.datas])),(32,vl encF m.funcs),(33,bI m.funcs.length),(34,bI k)]) m.funcs.length ?_ ?_
   .exact ⟨0,by omega,by omega,rfl,rfl,by simp [Fr.oy,Fr.lk]⟩
   .rintro j σ T ⟨k,hk,rfl,hr2,rfl,rfl⟩;by_cases hkl:k<m.funcs.length
    .rw [aj hkl,allC] at hr2;have hix : ∀ S,jz 3 S (vl encF m.funcs) (.int .i64 (k:Int))=some (.ref (encF m.funcs[k])):=fun S=>ZQ encF 3 (fun _=>rfl) _ _ hkl _ S;have hw:IntKind.i64.wrap ((k:Int)+1)=(k:Int)+1:=jP hkl (by omega);have ht0:=hty _ (ah hkl);have hloc:=(hm.fs.2 _ (ah hkl)).1;obtain ⟨x,hx⟩ : ∃ x,m.funcs[k]=x:=⟨_,rfl⟩
     rw [hx] at hr2 hix ht0 hloc;obtain ⟨xt,xl,xb⟩:=x;simp only at ht0 hloc;obtain ⟨i,rfl⟩ : ∃ i:Nat,xt=i:=⟨xt.toNat,by omega⟩
     obtain ⟨b,hb⟩ : ∃ b,decide (i<m.types.length)=b:=⟨_,rfl⟩
     have hbi:decide ((i:Int)<m.types.length)=b:=by rw [<-hb]; exact decide_eq_decide.2 (by omega)
     obtain ⟨sg,hsg⟩ : ∃ sg,m.types[i]?.getD ⟨[],[]⟩=sg:=⟨_,rfl⟩
     obtain ⟨b2,hb2⟩ : ∃ b2,decide (sg.inn.length+xl.length<=32)=b2:=⟨_,rfl⟩
     have hp:funP m ⟨i,xl,xb⟩=match Yz b 9 with
      | .error e => .error e
      | .ok _=>Yz b2 7:=by
      have e:decide (((sg.inn.length+xl.length:Nat):Int)<=32)=b2:=by rw [<-hb2]; exact decide_eq_decide.2 (by omega)
      unfold funP;simp only [ba,hsg,hbi];rw [<-e]
     rw [hp] at hr2;simp only [encF] at hix;refine bm hkl hix ?_;show VWp _ _ _ _ _ _ _;refine qi 5 rfl (WH (k:=0) (s:=3) (cs:=[bI i,vl bH xl,vl encI xb]) (by simp) (by simp) rfl (by simp)) (by conv=>lhs; simp [Fr.set]) ?_;refine QT ?_;refine XD E (⟨DU [],DU [],S,[],lid S.nx 1,false⟩) [] [0,1,2,3,4,5,6,7,8,9,10] [48] (ho:=jeU S 1) (hz:=jaY S [none] 1 (by simp)) (r:=by conv=>lhs;simp[QV,↓ju,ZR,Zs,zz,jl,ji,V.nj,V.nj1,V.bK,hb,hbi]) (k:=?_);refine qM rfl rfl (by rw [jH]; rfl) ((WL [none] b 9 (fun h T hk=>hE _ T (by rw [hf, <-hr2,h]; rfl) hk)).mono ?_ fun _ _ h=>h);rintro _ _ ⟨rfl,rfl,rfl⟩;refine ⟨jaY S [none] 1 (by simp), ?_⟩;refine jy ?_;have hil:i<m.types.length:=by simpa using hb
     have hsgl:sg.inn.length<1000000:=by
      rw [<-hsg,aa hil];exact (hm.ty.2 _ (ah hil)).1
     have hti : ∀ T,jz 2 T (vl je m.types) (.int .i64 (i:Int))=some (.ref (je sg)):=fun T=>by
      have:m.types[i]=sg:=by rw [<-hsg,aa hil]; rfl
      rw [<-this]; exact ZQ je 2 (fun _=>rfl) _ _ hil _ T
     simp only [je] at hti;have a1:IntKind.i64.wrap ((sg.inn.length:Int)+(xl.length:Int))=((sg.inn.length+xl.length:Nat):Int):=by rw [wrap_i64 (by omega) (by omega)]; omega
     obtain ⟨q,hq⟩ : ∃ q,sg.inn.length+xl.length=q:=⟨_,rfl⟩
     rw [hq] at a1 hb2;have hb2i:decide ((q:Int)<=32)=b2:=by rw [<-hb2]; exact decide_eq_decide.2 (by omega)
     refine QT ?_;refine XD E (⟨DU [],DU [],S,[],lid S.nx 1,false⟩) [] [0,1,2,3,4,5,6,7,8,9,10,11,12,13,14,15,16,17] [66] (ho:=jeU S 1) (hz:=jaY S [none] 1 (by simp)) (r:=by conv=>lhs;simp[QV,↓ju,ZR,Zs,zz,jl,ji,V.nj,V.nj1,V.bK,hti,a1,hb2,hb2i]) (k:=?_);refine qM rfl rfl (by rw [jH]; rfl) ((WL [none] b2 7 (fun h T hk=>hE _ T (by rw [hf, <-hr2,h]; rfl) hk)).mono ?_ fun _ _ h=>h);rintro _ _ ⟨rfl,rfl,rfl⟩;refine ⟨jaY S [none] 1 (by simp), ?_⟩;refine jy ?_;refine bi hw ?_;refine QA [] (h:=⟨?_,k+1,(by omega),rfl,hr2,by simp,by simp [hw]⟩);omega
    .have hke:k=m.funcs.length:=by omega
     subst hke;rw [List.drop_length,allC] at hr2;rw [<-hr2] at hf;refine bk ?_;rw [jh hwf];exact jn ⟨hf,rfl,rfl⟩
def datP (m:Mod) (d:Wm.Data):Except Flt Unit:=match Yz (decide (0<=m.pages)) 9 with
  | .error e => .error e
  | .ok _=>Yz (decide (d.at'+(d.bytes.length:Int)<=m.pages*256)) 35
def staP (m:Mod):Except Flt Unit:=if m.start ≠ -1 then (if (KI m m.start).2=true then Yz (decide ((KI m m.start).1.inn=[]/\(KI m m.start).1.out=[])) 10 else Except.error (9, -1,0)) else Except.ok ()
theorem av1 (m:Mod) (hm:okM m) (hda : ∀ d∈m.datas,0<=d.at'/\d.at'<4294967296) (hpg : -1<=m.pages/\m.pages<=16):ModX Tryz.prog 18 m (restC m):=by
 intro S E hE;have q1:=hm.ty.1;have q2:=hm.im.1;have q3:=hm.fs.1;have q4:=hm.da.1;have hf:restC m=match staP m with
  | .error e => .error e
  | .ok _=>allC (datP m) m.datas:=rfl
 have pS:=agp m m.start ⟨q2,q3,q1⟩;obtain ⟨sg,hsg⟩ : ∃ sg,(KI m m.start).1=sg:=⟨_,rfl⟩
 obtain ⟨ok,hok⟩ : ∃ ok,(KI m m.start).2=ok:=⟨_,rfl⟩
 rw [hsg,hok] at pS;simp only [jR,je] at pS ⊢;have rest:staP m = .ok ()->S.Wf->VWp Tryz.prog 74 S.nx (Code.snd (jf Tryz.f18)) (jcq [].reverse (zq S.nx fun r T=>restC m = .ok ()/\r = .tuple []/\T=S) E)
   [(0, .ref (.agg [vl je m.types,vl jp m.imports,vl encF m.funcs,bH m.pages,bH m.most,vl jv m.globals,vl jr m.exports,bH m.start,vl jq m.datas]))] (St S [] []):=by
  intro hs hwf;rw [hs] at hf;simp only at hf;refine bk ?_;refine bB [0,44,45,46] (fun j σ T => ∃ k:Nat,k<=m.datas.length/\j=m.datas.length-k/\allC (datP m) (m.datas.drop k)=allC (datP m) m.datas/\T=St S [] []/\σ=[(0, .ref (.agg [vl je m.types,vl jp m.imports,vl encF m.funcs,bH m.pages,bH m.most,vl jv m.globals,vl jr m.exports,bH m.start,vl jq m.datas])),(44,vl jq m.datas),(45,bI m.datas.length),(46,bI k)]) m.datas.length ?_ ?_
  .exact ⟨0,by omega,by omega,rfl,rfl,by simp [Fr.oy,Fr.lk]⟩
  .rintro j σ T ⟨k,hk,rfl,hr,rfl,rfl⟩;by_cases hkl:k<m.datas.length
   .rw [aj hkl,allC] at hr;have hix : ∀ S,jz 2 S (vl jq m.datas) (.int .i64 (k:Int))=some (.ref (jq m.datas[k])):=fun S=>ZQ jq 2 (fun _=>rfl) _ _ hkl _ S;have hw:IntKind.i64.wrap ((k:Int)+1)=(k:Int)+1:=jP hkl (by omega);have hd1:=hda _ (ah hkl);have hd2:=(hm.da.2 _ (ah hkl)).1;obtain ⟨x,hx⟩ : ∃ x,m.datas[k]=x:=⟨_,rfl⟩
    rw [hx] at hr hix hd1 hd2;obtain ⟨xa,xb⟩:=x;simp only [okD] at hd1 hd2;obtain ⟨b,hb⟩ : ∃ b,decide (0<=m.pages)=b:=⟨_,rfl⟩
    obtain ⟨b2,hb2⟩ : ∃ b2,decide (xa+(xb.length:Int)<=m.pages*256)=b2:=⟨_,rfl⟩
    have hp:datP m ⟨xa,xb⟩=match Yz b 9 with
     | .error e => .error e
     | .ok _=>Yz b2 35:=by rw [<-hb, <-hb2]; rfl
    rw [hp] at hr;simp only [jq] at hix;have a1:IntKind.i64.wrap (xa+(xb.length:Int))=xa+(xb.length:Int):=wrap_i64 (by omega) (by omega);have a2:IntKind.i64.wrap (m.pages*256)=m.pages*256:=wrap_i64 (by omega) (by omega);refine bm hkl hix ?_;show VWp _ _ _ _ _ _ _;refine qi 5 rfl (WH (k:=0) (s:=2) (cs:=[bH xa,vl vb xb]) (by simp) (by simp) rfl (by simp)) (by conv=>lhs; simp [Fr.set]) ?_;refine XQ E ?_ (r:=by conv=>lhs;simp[QV,hb]);refine jb rfl (WL [none] b 9 (fun h T hk=>hE _ T (by rw [hf, <-hr,h]; rfl) hk)) ?_;rintro _ _ ⟨rfl,rfl,rfl⟩;refine ja ?_;refine QT ?_;refine XD E (⟨DU [],DU [],S,[],lid S.nx 1,false⟩) [] [0,1,2,3,4,5,6,7,8,9,10,11,12,13,14] [72] (ho:=jeU S 1) (hz:=jaY S [none] 1 (by simp)) (r:=by conv=>lhs;simp[QV,↓ju,ZR,Zs,zz,jl,ji,V.nj,V.nj1,V.bK,a1,a2,hb2]) (k:=?_);refine qM rfl rfl (by rw [jH]; rfl) ((WL [none] b2 35 (fun h T hk=>hE _ T (by rw [hf, <-hr,h]; rfl) hk)).mono ?_ fun _ _ h=>h);rintro _ _ ⟨rfl,rfl,rfl⟩;refine ⟨jaY S [none] 1 (by simp), ?_⟩;refine jy ?_
    refine bi hw ?_;refine QA [] (h:=⟨?_,k+1,(by omega),rfl,hr,by simp,by simp [hw]⟩);omega
   .have hke:k=m.datas.length:=by omega
    subst hke;rw [List.drop_length,allC] at hr;rw [<-hr] at hf;refine bk ?_;rw [jh hwf];exact jn ⟨hf,rfl,rfl⟩
 refine jc (c:=jf Tryz.f18) Tryz.func18 rfl rfl (by simp [Tryz.ntmps18]) ?_;rw [Tryz.ntmps18];intro hwf;by_cases h1:m.start = -1
 .have hs:staP m = .ok ():=by unfold staP; rw [if_neg (by simp [h1])]
  have ht1:=eq_true h1;refine XQ E ?_ (r:=by conv=>lhs;simp[QV,ht1]);refine ja ?_;refine QT ?_;refine Zn rfl rfl rfl ?_;refine QT ?_;refine Kl rfl ?_;refine QO [0] ?_;exact rest hs hwf
 .have hs:staP m=if ok=true then Yz (decide (sg.inn=[]/\sg.out=[])) 10 else .error (9, -1,0):=by unfold staP; rw [if_pos h1,hsg,hok]
  refine XQ E ?_ (r:=by conv=>lhs;simp[QV,h1]);refine ja ?_;refine QT ?_;refine jct rfl rfl rfl ?_;refine QT ?_;refine XD E (⟨DU [],DU [],S,[],lid S.nx 0,false⟩) [] [0,1,2,3,4,5,6,7,8,9,10,11,12,13,14,15] [] (ho:=jeU S 0) (hz:=jaY S [] 0 (by simp)) (r:=by conv=>lhs;simp[QV,↓ju,ZR,Zs,zz,jl,ji,V.nj,V.nj1,V.bK,h1]) (k:=?_);refine JF rfl pS rfl ?_;refine ZM (r:=by conv=>lhs;simp[QV,↓ju,ZR,Zs,zz,jl,ji,V.nj,V.nj1,V.bK]) (k:=?_);refine jo rfl (by conv=>lhs; simp [QV]) (jaY S _ 0 (by simp)) ?_;refine jo rfl (by conv=>lhs; simp [QV]) (jaY S _ 0 (by simp)) ?_;refine ZM (r:=by conv=>lhs;simp[QV,↓ju,ZR,Zs,zz,jl,ji,V.nj,V.nj1,V.bK]) (k:=?_);refine jy ?_;refine qi 2 rfl (WH (k:=0) (s:=2) (cs:=[vl bH sg.inn,vl bH sg.out]) (by simp) (by simp) rfl (by simp)) (by conv=>lhs; simp [Fr.set]) ?_;refine XQ E ?_;refine jb rfl (WL [none] ok 9 (fun h T hk=>hE _ T (by rw [hf,hs,h]; rfl) hk)) ?_;rintro _ _ ⟨rfl,rfl,rfl⟩;rw [if_pos rfl] at hs;refine ja ?_;obtain ⟨b,hb⟩ : ∃ b,decide (sg.inn=[]/\sg.out=[])=b:=⟨_,rfl⟩
  rw [hb] at hs;have hneed:=WL (x := .ref (.agg [vl je m.types,vl jp m.imports,vl encF m.funcs,bH m.pages,bH m.most,vl jv m.globals,vl jr m.exports,bH m.start,vl jq m.datas])) (S:=S) [none] b 10 (fun h T hk=>hE _ T (by rw [hf,hs,h]; rfl) hk);have fin:b=true->VWp Tryz.prog 74 S.nx (Code.snd (jf Tryz.f18)) (jcq [].reverse (zq S.nx fun r T=>restC m = .ok ()/\r = .tuple []/\T=S) E)
   [(0, .ref (.agg [vl je m.types,vl jp m.imports,vl encF m.funcs,bH m.pages,bH m.most,vl jv m.globals,vl jr m.exports,bH m.start,vl jq m.datas]))] (St S [] [none]):=fun hbt=>by
   rw [hbt] at hs;refine QK [] ?_;exact rest hs hwf
  by_cases hin:sg.inn=[]
  .have hb2:decide (sg.out=[])=b:=by rw [<-hb]; simp [hin]
   have hl:sg.inn.length=0:=by rw [hin]; rfl
   have hb3:decide (sg.out.length=0)=b:=by rw [<-hb2]; exact decide_eq_decide.2 List.length_eq_zero_iff
   have hb4:decide ((sg.out.length:Int)=0)=b:=by rw [<-hb3]; exact decide_eq_decide.2 (by omega)
   have hin':=eq_true hin;refine XQ E ?_ (r:=by conv=>lhs;simp[QV,hin',hl,hb2,hb3,hb4]);refine jb rfl hneed ?_;rintro _ _ ⟨hbt,rfl,rfl⟩;refine ja ?_;refine QO [0] ?_;exact fin hbt
  .have hb2:b=false:=by rw [<-hb]; simp [hin]
   have hl : ¬ sg.inn.length=0:=fun h=>hin (List.length_eq_zero_iff.1 h);have hl2:((sg.inn.length:Int)=0)=False:=eq_false (by omega);rw [hb2] at hneed;refine XQ E ?_ (r:=by conv=>lhs;simp[QV,hin,hl,hl2]);refine jb rfl hneed ?_;rintro _ _ ⟨h,_⟩;cases h
end Go.Vw
namespace Go.Vw
open Go.RowKit
section
variable {P:Program} {Z:ZZ} {ops:Array Oper} {cs:List CO} {Q:Ff->Store->Prop} {n:Nat} {listed:Array Bool} {τ:Ff} {S:Store}
theorem jdX (rs:List Nat) (hr:Region.ready .any ops listed=rs) (hne:rs≠[]) (h : ∀ i∈rs,atZ P Z cs i (anyZ P Z ops cs Q n (listed.setIfInBounds i true)) τ S):anyZ P Z ops cs Q (n+1) listed τ S :=
 ⟨fun h0=>absurd (hr.symm.trans h0) hne,by rw [hr]; exact h⟩
theorem ql (i:Nat) (hr:Region.ready .any ops listed=[i]) (h:atZ P Z cs i (anyZ P Z ops cs Q n (listed.setIfInBounds i true)) τ S):anyZ P Z ops cs Q (n+1) listed τ S :=
 jdX [i] hr (by simp) fun k hk=>by
  rw [aM] at hk;subst hk; exact h
theorem jap (i j:Nat) (hr:Region.ready .any ops listed=[i,j]) (h:atZ P Z cs i (anyZ P Z ops cs Q n (listed.setIfInBounds i true)) τ S) (h2:atZ P Z cs j (anyZ P Z ops cs Q n (listed.setIfInBounds j true)) τ S):anyZ P Z ops cs Q (n+1) listed τ S :=
 jdX [i,j] hr (by simp) fun k hk=>by
  simp only [aE,List.not_mem_nil,or_false] at hk;rcases hk with rfl | rfl
  .exact h
  .exact h2
theorem as7 (i j l:Nat) (hr:Region.ready .any ops listed=[i,j,l]) (h:atZ P Z cs i (anyZ P Z ops cs Q n (listed.setIfInBounds i true)) τ S) (h2:atZ P Z cs j (anyZ P Z ops cs Q n (listed.setIfInBounds j true)) τ S) (h3:atZ P Z cs l (anyZ P Z ops cs Q n (listed.setIfInBounds l true)) τ S):anyZ P Z ops cs Q (n+1) listed τ S :=
 jdX [i,j,l] hr (by simp) fun k hk=>by
  simp only [aE,List.not_mem_nil,or_false] at hk;rcases hk with rfl | rfl | rfl
  .exact h
  .exact h2
  .exact h3
theorem abu {Q':Ff->Store->Prop} (hq : ∀ τ S,Q τ S->Q' τ S) : ∀ (n:Nat) (listed:Array Bool) (τ:Ff) (S:Store),anyZ P Z ops cs Q n listed τ S->anyZ P Z ops cs Q' n listed τ S
 | 0,_,_,_,h=>⟨h.1,hq _ _ h.2⟩
 | n+1,listed,τ,S,h=>⟨fun h0=>hq _ _ (h.1 h0),fun i hi=>anu (fun τ S=>abu hq n _ τ S) (h.2 i hi)⟩
theorem JX (hr:Region.ready .any ops listed=[]) (h:Q τ S):anyZ P Z ops cs Q 0 listed τ S:=⟨hr,h⟩
def lexP (es ms:List Nat) (ops:Array Oper) (cs:List CO):List Nat->Array Bool->Bool
 | [],_=>true
 | k::ord,listed=>(Region.ready .any ops listed).contains k &&
   (match cs[k]? with
    | some oi=>(List.range cs.length).all fun j=>j==k||listed.getD j true||jbi ms k j||(match cs[j]? with
     | some oj=>oi.apart oj&&(isRd es oi||isRd es oj)
     | none=>true)
    | none=>false)&&lexP es ms ops cs ord (listed.setIfInBounds k true)
def setL:List Nat->Array Bool->Array Bool
 | [],l=>l
 | k::ord,l=>setL ord (l.setIfInBounds k true)
theorem jdW (hlen:cs.length=ops.size) {fuel:Nat} : ∀ (ord:List Nat) (listed:Array Bool) (τ:Ff) (S:Store),zn ops listed->lexP Z.es (zX ops) ops cs ord listed=true->jci P Z (fun τ S=>anyZ P Z ops cs Q fuel (setL ord listed) τ S) (pickO cs ord) τ S->anyZ P Z ops cs Q (fuel+ord.length) listed τ S
 | [],_,_,_,_,_,h=>h
 | k::ord,listed,τ,S,hcl,hB,h=>by
  simp only [lexP,ae] at hB;obtain ⟨⟨hr,hf⟩,hB'⟩:=hB;cases h0:cs[k]? with
  | none=>rw [h0] at hf; cases hf
  | some o =>
  have hp:pickO cs (k::ord)=o::pickO cs ord:=by simp [pickO,h0]
  rw [hp] at h;simp only [jci] at h;rw [JA] at h;obtain ⟨v,S1,hy,hK⟩:=h;have hr':k∈Region.ready .any ops listed:=by simpa using hr
  refine jfg h0 hlen (fuel+ord.length) listed τ S S1 hcl (fun j oj hj hne hun hno => ?_) hr' hy (jdW hlen ord _ _ _ (JD hcl hr') hB' hK);simp only [h0,ax,List.mem_range] at hf;have h1:=hf j (ab.1 hj).1;have hnm:jbi (zX ops) k j=false:=by
   cases hm:jbi (zX ops) k j with
   | false=>rfl
   | true=>obtain ⟨n,hn⟩:=zK hm; rw [hno n] at hn; cases hn
  simp only [hj,aX,beq_iff_eq,hne,false_or,hun,ay,hnm,ae] at h1;exact h1
variable {K:Ff->Store->Prop} {σ:Fr} {i:Nat}
theorem ale {d:Option Nat} {op:COp} {v:V} {S1:Store} (ho:cs[i]? = some ⟨d,none,op⟩) (hrd:isRd Z.es ⟨d,none,op⟩=false) (h:JE P (trnL Z.es d) σ.lk S op v S1) (hz:Z.ok S1) (k:K (σ.put d v).lk S1):atZ P Z cs i K σ.lk S:=by
 simp only [atZ,ho,stepZ,CO.wants];rw [Jh] at k;exact .inr ⟨hrd,v,S1,h,hz,k⟩
theorem acl {d:Option Nat} {f:FuncId} {args:List Arg} {xs:List V} {v:V} {S1:Store} (ho:cs[i]? = some ⟨d,none, .call f args⟩) (hrd:isRd Z.es ⟨d,none, .call f args⟩=false) (ha:args.map (ev σ)=xs) (hs:S.Sub S1) (h:VCalls P f xs S fun r T=>r=v/\T=S1) (hz:Z.ok S1) (k:K (σ.put d v).lk S1):atZ P Z cs i K σ.lk S :=
 ale ho hrd ⟨.inr hs,by rw [qE,ha]; exact h⟩ hz k
theorem qL {d:Option Nat} {op:COp} {v:V} {S1:Store} (ho:cs[i]? = some ⟨d,none,op⟩) (hrd:isRd Z.es ⟨d,none,op⟩=false) (hc:JE P (trnL Z.es d) σ.lk S op v S1=(jg (evf σ.lk) S op=some (v,S1))) (h:jg (ev σ) S op=some (v,S1)) (hz:Z.ok S1) (k:K (σ.put d v).lk S1):atZ P Z cs i K σ.lk S :=
 ale ho hrd (by rw [hc,qE]; exact h) hz k
end
section
variable {P:Program} {N b:Nat} {Q:Exit->Fr->Store->Prop} {σ:Fr} {S:Store}
theorem ajc {c c2:Code} {cs:List CO} {Q2:Exit->Fr->Store->Prop} (Z:ZZ) (h:Code.kind c=2) (hm:P.follows .mixedOrders=true) (hc:qj P N (Code.ops c)=some cs) (hE:JW (zX (Code.ops c)) cs Z.es=true) (hz:Z.ok S) (h0:Z.z0.Sub S) {sz:Nat} (hn:(Code.ops c).size=sz) (ord0:List Nat) (hB:lexP Z.es (zX (Code.ops c)) (Code.ops c) cs ord0 (Array.replicate sz false)=true) {cs0:List CO} (hp0:pickO cs ord0=cs0) {fuel:Nat} (hf:fuel+ord0.length=sz) (σm:Fr) (Sm:Store)
  (K:VWp P N b c2 Q2 σm Sm) (H:qy P (some Z) cs0 (fun σ S=>anyZ P Z (Code.ops c) cs (fun τ S => ∃ σ':Fr,σ'.lk=τ/\Reach N b σ' S σm Sm) fuel (setL ord0 (Array.replicate sz false)) σ.lk S) σ S):VWp P N b c (jaa (VWp P N b c2 Q2) Q) σ S:=by
 subst hn;cases c with
 | region id ops d =>
  cases d
  .simp [Code.kind] at h
  .intro m β w a hS hF;simp only [Code.ops] at *
   obtain ⟨hlen,_⟩:=YF hc;refine wp_region_any hm ?_;have hcl:zn ops (Array.replicate ops.size false):=by
    intro i o ho hi;have:i<ops.size:=(Array.getElem?_eq_some_iff.1 ho).1;simp [this] at hi
   have H0:=KT _ σ S H;rw [<-hp0] at H0;have H1:=jdW (P:=P) (Z:=Z) hlen ord0 _ σ.lk S hcl hB (jbh (fun τ S h=>by
    obtain ⟨σ1,e,h⟩:=h;subst e; exact h) H0)
   rw [hf] at H1;have H':anyZ P Z ops cs (fun τ S => ∃ σ':Fr,σ'.lk=τ/\(jaa (VWp P N b c2 Q2) Q) .normal σ' S) ops.size (Array.replicate ops.size false) σ.lk S:=abu (fun τ S ⟨σ',e,hr⟩=>⟨σ',e,Jf hr K⟩) _ _ _ _ H1;exact jbR hc hE ops.size _ σ S m β _ a H' hcl hz (fun _=>h0) hS.drew hF ((Ext.drew m β w).toB b)
 | _=>simp [Code.kind] at h
end
end Go.Vw
namespace Go.Vw
open Go.Proofs Go.RowKit
theorem KE {P:Program} {Z:ZZ} {cs:List CO} {K:Ff->Store->Prop} {σ:Fr} {S:Store} {i:Nat} {d:Option Nat} {op:COp} {v:V} (ho:cs[i]? = some ⟨d,none,op⟩) (hrd:isRd Z.es ⟨d,none,op⟩=true) (h : ∃ Z',jg (ev σ) (Z.rd d op) op=some (v,Z')) (hc:WJ P (Z.rd d op) σ.lk op v = ∃ Z',jg (evf σ.lk) (Z.rd d op) op=some (v,Z')) (k:K (σ.put d v).lk S):atZ P Z cs i K σ.lk S:=by
 simp only [atZ,ho,stepZ,CO.wants];rw [Jh] at k;refine .inl ⟨hrd,v, ?_,k⟩;rw [hc,qE];exact h
theorem afp {P:Program} {N b:Nat} {Q:Exit->Fr->Store->Prop} {σ:Fr} {S:Store} {c:Code} {cs:List CO} (Z:ZZ) (h:Code.kind c=2) (hm:P.follows .mixedOrders=true) (hc:qj P N (Code.ops c)=some cs) (hE:JW (zX (Code.ops c)) cs Z.es=true) (hz:Z.ok S) (h0:Z.z0.Sub S) {sz:Nat} (hn:(Code.ops c).size=sz) (ord0:List Nat) (hB:lexP Z.es (zX (Code.ops c)) (Code.ops c) cs ord0 (Array.replicate sz false)=true) {cs0:List CO} (hp0:pickO cs ord0=cs0) {fuel:Nat} (hf:fuel+ord0.length=sz)
  (H:qy P (some Z) cs0 (fun σ S=>anyZ P Z (Code.ops c) cs (fun τ S => ∃ σ':Fr,σ'.lk=τ/\Q .normal σ' S) fuel (setL ord0 (Array.replicate sz false)) σ.lk S) σ S):VWp P N b c Q σ S:=by
 subst hn;cases c with
 | region id ops d =>
  cases d
  .simp [Code.kind] at h
  .intro m β w a hS hF;simp only [Code.ops] at *
   obtain ⟨hlen,_⟩:=YF hc;refine wp_region_any hm ?_;have hcl:zn ops (Array.replicate ops.size false):=by
    intro i o ho hi;have:i<ops.size:=(Array.getElem?_eq_some_iff.1 ho).1;simp [this] at hi
   have H0:=KT _ σ S H;rw [<-hp0] at H0;have H1:=jdW (P:=P) (Z:=Z) hlen ord0 _ σ.lk S hcl hB (jbh (fun τ S h=>by
    obtain ⟨σ1,e,h⟩:=h;subst e; exact h) H0)
   rw [hf] at H1;exact jbR hc hE ops.size _ σ S m β _ a H1 hcl hz (fun _=>h0) hS.drew hF ((Ext.drew m β w).toB b)
 | _=>simp [Code.kind] at h
end Go.Vw
namespace Go.Vw
open Go.Proofs Go.RowKit Wm
attribute [-simp] List.map_set
theorem aea {P:Program} {N b:Nat} {Q:Exit->Fr->Store->Prop} {σ σ':Fr} {S S':Store} {c:Code} {cs:List CO} (Z:ZZ) (h:Code.kind c=2) (hm:P.follows .mixedOrders=true) (hc:qj P N (Code.ops c)=some cs) (hE:JW (zX (Code.ops c)) cs Z.es=true) (hz:Z.ok S) (h0:Z.z0.Sub S) {sz:Nat} (hn:(Code.ops c).size=sz) (ord0:List Nat) (hB:lexP Z.es (zX (Code.ops c)) (Code.ops c) cs ord0 (Array.replicate sz false)=true) {cs0:List CO} (hp0:pickO cs ord0=cs0) {fuel:Nat} (hf:fuel+ord0.length=sz) (r:runV (some Z) cs0 σ S=some ([],σ',S'))
  (H:anyZ P Z (Code.ops c) cs (fun τ S => ∃ σ':Fr,σ'.lk=τ/\Q .normal σ' S) fuel (setL ord0 (Array.replicate sz false)) σ'.lk S'):VWp P N b c Q σ S :=
 afp Z h hm hc hE hz h0 hn ord0 hB hp0 hf (QM r (QN H))
def entI (L:List (Int × Nat)):List V:=L.map fun p => .tuple [.int .i64 p.1,bI p.2]
def fnd (k:Int):List (Int × Nat)->Option Nat
 | []=>none
 | p::r=>if k=p.1 then some p.2 else fnd k r
def tab3 (n0 n2 n3:Nat) (k:Int):Option Nat:=if k=0 then some n0 else if k=2 then some n2 else if k=3 then some n3 else none
theorem jdv (k:Int) : ∀ (L:List (Int × Nat)) (i:Nat),(fnd k L=none/\zi (.int .i64 k) (entI L) i=some none) \/ ∃ j n,fnd k L=some n/\zi (.int .i64 k) (entI L) i=some (some (j,bI n))
 | [],i => .inl ⟨rfl,rfl⟩
 | p::L,i=>by
  have e:zi (.int .i64 k) (entI (p::L)) i=if k=p.1 then some (some (i,bI p.2)) else zi (.int .i64 k) (entI L) (i+1):=jcd _ _ _ _ _
  by_cases h:k=p.1
  .exact .inr ⟨i,p.2,by rw [fnd,if_pos h],by rw [e,if_pos h]⟩
  .rw [e,if_neg h,fnd,if_neg h];exact jdv k L (i+1)
theorem Jl (S:Store) (a:Option (Nat × List V)) (L:List (Int × Nat)) (k:Int) (n:Nat) (h:fnd k L=none):qt (St S [] [a,some (0,entI L)]) (.map (lid S.nx 1)) (.int .i64 k) (.int .i64 (n:Int))=some (St S [] [a,some (0,entI (L++[(k,n)]))]):=by
 have g:(St S [] [a,some (0,entI L)]).get (lid S.nx 1)=some (0,entI L):=by simp
 have u : ∀ c,(St S [] [a,some (0,entI L)]).upd (lid S.nx 1) c=St S [] [a,some c]:=fun c=>by rw [Yn (by simp)]; rfl
 rcases jdv k L 0 with ⟨_,h2⟩ | ⟨j,n',h1,_⟩
 .simp only [qt,g,h2,u];simp [entI,bI]
 .rw [h] at h1; cases h1
theorem zL (S:Store) (a:Option (Nat × List V)) (k:Int) (n:Nat):qt (St S [] [a,some (0,entI [])]) (.map (lid S.nx 1)) (.int .i64 k) (.int .i64 (n:Int))=some (St S [] [a,some (0,entI [(k,n)])]):=Jl S a [] k n rfl
theorem apa {S:Store} {o:Nat} {L:List (Int × Nat)} {t:Int->Option Nat} (hL : ∀ k,fnd k L=t k) (hg:S.get o=some (0,entI L)) (k:Int) : ∃ (n:Nat) (b:Bool),qQ (.int .i64 0) true S (.map o) (.int .i64 k)=some (.tuple [bI n, .bool b])/\(b=false->t k=none)/\(b=true->t k=some n):=by
 rcases jdv k L 0 with ⟨h1,h2⟩ | ⟨j,n',h1,h2⟩
 .exact ⟨0,false,by simp only [qQ,hg,h2]; rfl,fun _=>by rw [<-hL,h1],fun h=>by cases h⟩
 .exact ⟨n',true,by simp only [qQ,hg,h2]; rfl,fun h=>(by cases h),fun _=>by rw [<-hL,h1]⟩
theorem jfB (f:Nat->Nat) : ∀ L,V.renL f (entI L)=entI L
 | []=>rfl
 | x::L=>by
  have:=jfB f L;show V.ren f _::V.renL f (entI L)=_;rw [this]; rfl
theorem jfT (f:Nat->Bool) : ∀ L,V.idsL f (entI L)=true
 | []=>rfl
 | x::L=>by
  have:=jfT f L;show (V.ids f _&&V.idsL f (entI L))=_;rw [this]; rfl
def metI (L:List (List Nat)):List V:=L.map fun s => .tuple [vstr s, .bool true]
theorem jdu {s:List Nat} (hs:Wm.bytes s) : ∀ (L:List (List Nat)) (i:Nat),(∀ x∈L,Wm.bytes x)->(s∉L/\zi (vstr s) (metI L) i=some none)\/(s∈L /\ ∃ j,zi (vstr s) (metI L) i=some (some (j, .bool true)))
 | [],i,_ => .inl ⟨by simp,rfl⟩
 | x::L,i,h=>by
  have e:zi (vstr s) (metI (x::L)) i=if s=x then some (some (i, .bool true)) else zi (vstr s) (metI L) (i+1):=by
   have k:=jcw hs (h x (by simp));show (match zB (vstr s) (vstr x) with | some true=>_ | some false=>_ | none=>_)=_;simp only [vstr,zB,k];by_cases hx:s=x
   .simp [hx]
   .simp [hx]; rfl
  by_cases hx:s=x
  .exact .inr ⟨by simp [hx],i,by rw [e,if_pos hx]⟩
  .rw [e,if_neg hx];rcases jdu hs L (i+1) (fun y hy=>h y (by simp [hy])) with ⟨h1,h2⟩ | ⟨h1,h2⟩
   .exact .inl ⟨by simp [hx,h1],h2⟩
   .exact .inr ⟨by simp [h1],h2⟩
theorem jfA (f:Nat->Nat) : ∀ L,V.renL f (metI L)=metI L
 | []=>rfl
 | x::L=>by
  have:=jfA f L;show V.ren f _::V.renL f (metI L)=_;rw [this]; rfl
theorem jfS (f:Nat->Bool) : ∀ L,V.idsL f (metI L)=true
 | []=>rfl
 | x::L=>by
  have:=jfS f L;show (V.ids f _&&V.idsL f (metI L))=_;rw [this]; rfl
theorem aqk {S:Store} {o:Nat} {L:List (List Nat)} {s:List Nat} (hs:Wm.bytes s) (hL : ∀ x∈L,Wm.bytes x) (hg:S.get o=some (0,metI L)) {g:Bool} (hp:g=true):zZ g (.bool false) false S (.map o) (vstr s)=some (.bool (decide (s∈L))):=by
 subst hp;rcases jdu hs L 0 hL with ⟨h1,h2⟩ | ⟨h1,j,h2⟩
 .simp only [vstr] at h2 ⊢;simp only [zZ,hg,h2,h1]; rfl
 .simp only [vstr] at h2 ⊢;simp only [zZ,hg,h2,h1]; rfl
theorem at1 {S:Store} {b:Option (Nat × List V)} {l:OL} {L:List (List Nat)} {s:List Nat} (hs:Wm.bytes s) (hL : ∀ x∈L,Wm.bytes x) (hn:s∉L) {g:Bool} (hp:g=true):zJ g (St S [] (some (0,metI L)::b::l)) (.map (lid S.nx 0)) (vstr s) (.bool true)=some (St S [] (some (0,metI (L++[s]))::b::l)):=by
 subst hp;have hg:(St S [] (some (0,metI L)::b::l)).get (lid S.nx 0)=some (0,metI L):=by simp
 have u : ∀ c,(St S [] (some (0,metI L)::b::l)).upd (lid S.nx 0) c=St S [] (some c::b::l):=fun c=>by rw [Yn (by simp)]; rfl
 rcases jdu hs L 0 hL with ⟨h1,h2⟩ | ⟨h1,j,h2⟩
 .simp only [vstr] at h2 ⊢;simp only [zJ,hg,h2,u];simp [metI,vstr]
 .exact absurd h1 hn
theorem pk9:Wi (P:=Tryz.prog) (kt:=9) 0=true:=by rw [jbp]; rfl
theorem amn (m:Mod) (hm:okM m):ModX Tryz.prog 17 m (jbI m [] m.exports):=by
 intro S E hE;have q2:=hm.im.1;have q3:=hm.fs.1;have q4:=hm.gl;have q5:=hm.ex.1;simp only [jR];refine jc (c:=jf Tryz.f17) Tryz.func17 rfl rfl (by simp [Tryz.ntmps17]) ?_;rw [Tryz.ntmps17];intro hwf;obtain ⟨n0,hn0⟩ : ∃ n0,m.imports.length+m.funcs.length=n0:=⟨_,rfl⟩
 obtain ⟨n3,hn3⟩ : ∃ n3,m.globals.length=n3:=⟨_,rfl⟩
 obtain ⟨n2,hn2⟩ : ∃ n2,(if m.pages≥0 then 1 else 0:Nat)=n2:=⟨_,rfl⟩
 have ht : ∀ k,thereC m k=tab3 n0 n2 n3 k:=fun k=>by rw [thereC,tab3,hn0,hn2,hn3]
 have a1:IntKind.i64.wrap ((m.imports.length:Int)+(m.funcs.length:Int))=(n0:Int):=by rw [wrap_i64 (by omega) (by omega)]; omega
 have rest : ∀ L,(∀ k,fnd k L=tab3 n0 n2 n3 k)->VWp Tryz.prog 75 S.nx (Code.snd (Code.snd (Code.snd (Code.snd (jf Tryz.f17))))) (jcq [].reverse (zq S.nx fun r T=>jbI m [] m.exports = .ok ()/\r = .tuple []/\T=S) E)
   [(0, .ref (.agg [vl je m.types,vl jp m.imports,vl encF m.funcs,bH m.pages,bH m.most,vl jv m.globals,vl jr m.exports,bH m.start,vl jq m.datas])),(2, .map (lid S.nx 0)),(4, .map (lid S.nx 1))] (St S [] [some (0,[]),some (0,entI L)]):=by
  intro L hL;refine bk ?_;refine bB [0,2,4,42,43,44] (fun j σ T => ∃ (k:Nat) (met M:List (List Nat)),k<=m.exports.length/\j=m.exports.length-k/\jbI m met (m.exports.drop k)=jbI m [] m.exports/\(∀ s,s∈M↔s∈met)/\(∀ x∈M,Wm.bytes x)/\T=St S [] [some (0,metI M),some (0,entI L)]/\σ=[(0, .ref (.agg [vl je m.types,vl jp m.imports,vl encF m.funcs,bH m.pages,bH m.most,vl jv m.globals,vl jr m.exports,bH m.start,vl jq m.datas])),(2, .map (lid S.nx 0)),(4, .map (lid S.nx 1)),(42,vl jr m.exports),(43,bI m.exports.length),(44,bI k)]) m.exports.length ?_ ?_
  .exact ⟨0,[],[],by omega,by omega,rfl,fun _=>Iff.rfl,by simp,rfl,by simp [Fr.oy,Fr.lk]⟩
  .rintro j σ T ⟨k,met,M,hk,rfl,hr,hM,hMb,rfl,rfl⟩;by_cases hkl:k<m.exports.length
   .rw [aj hkl,jbI] at hr;have hix : ∀ S,jz 3 S (vl jr m.exports) (.int .i64 (k:Int))=some (.ref (jr m.exports[k])):=fun S=>ZQ jr 3 (fun _=>rfl) _ _ hkl _ S;have hw:IntKind.i64.wrap ((k:Int)+1)=(k:Int)+1:=jP hkl (by omega);have hxb:=hm.ex.2 _ (ah hkl);obtain ⟨x,hx⟩ : ∃ x,m.exports[k]=x:=⟨_,rfl⟩
    rw [hx] at hr hix hxb;obtain ⟨xn,xk,xx⟩:=x;simp only at hxb hr;simp only [jr] at hix;refine bm hkl hix ?_;show VWp _ _ _ _ _ _ _;refine qi 6 rfl (WH (k:=2) (s:=3) (cs:=[vstr xn,bH xk,bH xx]) (by simp) (by simp) rfl (by simp)) (by conv=>lhs; simp [Fr.set]) ?_;obtain ⟨n,b,hlk,hb0,hb1⟩:=apa (S:=St S [] [some (0,metI M),some (0,entI L),none]) (o:=lid S.nx 1) (t:=tab3 n0 n2 n3) hL (by simp) xk;rw [ht] at hr;refine XQ E ?_ (r:=by conv=>lhs;simp[QV,hlk]);refine ja ?_;refine XQ E ?_;refine jb rfl (WL [some (0,metI M),some (0,entI L),none] b 6 (fun h T hk=>hE _ T (by rw [<-hr,hb0 h]) hk)) ?_;rintro _ _ ⟨rfl,rfl,rfl⟩;rw [hb1 rfl] at hr;simp only at hr;refine ja ?_;obtain ⟨b2,hb2⟩ : ∃ b2,decide (xx<(n:Int))=b2:=⟨_,rfl⟩
    refine XQ E ?_ (r:=by conv=>lhs;simp[QV,hb2]);refine jb rfl (WL [some (0,metI M),some (0,entI L),none] b2 9 (fun h T hk=>hE _ T (by rw [<-hr,if_neg (by rw [h] at hb2; simpa using hb2)]) hk)) ?_;rintro _ _ ⟨rfl,rfl,rfl⟩;rw [if_pos (by simpa using hb2)] at hr;refine ja ?_;obtain ⟨b3,hb3⟩ : ∃ b3,decide (xn∈M)=b3:=⟨_,rfl⟩
    have hl2:zZ (Wi (P:=Tryz.prog) (kt:=9) 0) (.bool false) false (St S [] [some (0,metI M),some (0,entI L),none]) (.map (lid S.nx 0)) (vstr xn)=some (.bool b3):=by rw [<-hb3]; exact aqk hxb hMb (by simp) pk9
    have ov:(vstr xn).one=true:=rfl;refine XQ E ?_ (r:=by conv=>lhs;simp[QV,hl2,ov]);refine jb rfl (WL [some (0,metI M),some (0,entI L),none] (!b3) 12 (fun h T hk=>hE _ T (by rw [<-hr,if_pos ((hM xn).1 (by rw [Bool.not_eq_false'] at h; rw [h] at hb3; simpa using hb3))]) hk)) ?_;rintro _ _ ⟨h3,rfl,rfl⟩;rw [Bool.not_eq_true'] at h3;rw [h3] at hb3;have hnM:xn∉M:=by simpa using hb3
    rw [if_neg (fun h=>hnM ((hM xn).2 h))] at hr;have hpt:zJ (Wi (P:=Tryz.prog) (kt:=9) 0) (St S [] [some (0,metI M),some (0,entI L),none]) (.map (lid S.nx 0)) (vstr xn) (.bool true)=some (St S [] [some (0,metI (M++[xn])),some (0,entI L),none]):=at1 hxb hMb hnM pk9;refine ja ?_;refine XQ E ?_ (r:=by conv=>lhs;simp[QV,hpt,ov]);refine ja ?_;refine bi hw ?_;refine QA [0,1] (h2:=by simp [jfA,jfB,jfS,jfT]) (hl:=by conv=>lhs; simp [jfA,jfB,jfS,jfT]) (h:=⟨?_,k+1,xn::met,M++[xn],(by omega),rfl,hr,(fun s=>by simp [hM,or_comm]),(fun x hx=>by rcases az.1 hx with h | h; exact hMb x h; rw [aM.1 h]; exact hxb),by simp,by simp [hw]⟩);omega
   .have hke:k=m.exports.length:=by omega
    subst hke;rw [List.drop_length,jbI] at hr;refine QO [0,43,44] ?_;refine QK [] ?_;refine bk ?_;rw [jh hwf];exact jn ⟨hr.symm,rfl,rfl⟩
 have main:VWp Tryz.prog 75 S.nx (Code.fst (Code.snd (Code.snd (Code.snd (jf Tryz.f17))))) (jaa (VWp Tryz.prog 75 S.nx (Code.snd (Code.snd (Code.snd (Code.snd (jf Tryz.f17))))) (jcq [].reverse (zq S.nx fun r T=>jbI m [] m.exports = .ok ()/\r = .tuple []/\T=S) E)) (jcq [].reverse (zq S.nx fun r T=>jbI m [] m.exports = .ok ()/\r = .tuple []/\T=S) E))
   [(0, .ref (.agg [vl je m.types,vl jp m.imports,vl encF m.funcs,bH m.pages,bH m.most,vl jv m.globals,vl jr m.exports,bH m.start,vl jq m.datas])),(2, .map (lid S.nx 0)),(3,bI n2)] (St S [] [some (0,[])]):=by
  refine aea (ZZ.mk _ (St S [] [some (0,[])]) (St S [] [some (0,[])]) []) rfl (by kernel_rfl) (by conv=>lhs; reduce) (by kernel_rfl) zOk (Store.sub_refl _) (sz:=26) (by kernel_rfl) [1,2,3,4,5,6,7,8,9,10,11,12,13,15,17,18,19,20,21,22] (by kernel_rfl) (by conv=>lhs; reduce) (fuel:=6) (by simp) (by conv=>lhs; simp [QV,a1,hn3]) ?_;refine ql 0 (by kernel_rfl) ?_;refine qL (v := .map (lid S.nx 1)) (S1:=St S [] [some (0,[]),some (0,entI [])]) rfl rfl rfl (by simp [jg,entI]) zOk ?_;refine as7 14 16 23 (by kernel_rfl) ?_ ?_ ?_
  .refine qL rfl rfl rfl (by conv=>lhs; simp [jg,↓zL,↓Jl,fnd]) zOk ?_;refine jap 16 23 (by kernel_rfl) ?_ ?_
   .refine qL rfl rfl rfl (by conv=>lhs; simp [jg,↓zL,↓Jl,fnd]) zOk ?_;refine ql 23 (by kernel_rfl) ?_;refine qL rfl rfl rfl (by conv=>lhs; simp [jg,↓zL,↓Jl,fnd]) zOk ?_;refine ql 24 (by kernel_rfl) ?_;refine KE rfl rfl ⟨_,rfl⟩ rfl ?_;refine ql 25 (by kernel_rfl) ?_;refine KE rfl rfl ⟨_,rfl⟩ rfl ?_;refine JX (by kernel_rfl) ⟨_,rfl, ?_⟩;show VWp _ _ _ _ _ _ _;refine QO [0,2,4] ?_;exact rest [(0,n0),(2,n2),(3,n3)] (by intro k; by_cases h0:k=0<;>by_cases h2:k=2<;>by_cases h3:k=3<;>simp_all [fnd,tab3])
   .refine qL rfl rfl rfl (by conv=>lhs; simp [jg,↓zL,↓Jl,fnd]) zOk ?_;refine ql 16 (by kernel_rfl) ?_;refine qL rfl rfl rfl (by conv=>lhs; simp [jg,↓zL,↓Jl,fnd]) zOk ?_;refine ql 24 (by kernel_rfl) ?_;refine KE rfl rfl ⟨_,rfl⟩ rfl ?_;refine ql 25 (by kernel_rfl) ?_;refine KE rfl rfl ⟨_,rfl⟩ rfl ?_;refine JX (by kernel_rfl) ⟨_,rfl, ?_⟩;show VWp _ _ _ _ _ _ _;refine QO [0,2,4] ?_;exact rest [(0,n0),(3,n3),(2,n2)] (by intro k; by_cases h0:k=0<;>by_cases h2:k=2<;>by_cases h3:k=3<;>simp_all [fnd,tab3])
  .refine qL rfl rfl rfl (by conv=>lhs; simp [jg,↓zL,↓Jl,fnd]) zOk ?_;refine jap 14 23 (by kernel_rfl) ?_ ?_
   .refine qL rfl rfl rfl (by conv=>lhs; simp [jg,↓zL,↓Jl,fnd]) zOk ?_;refine ql 23 (by kernel_rfl) ?_;refine qL rfl rfl rfl (by conv=>lhs; simp [jg,↓zL,↓Jl,fnd]) zOk ?_;refine ql 24 (by kernel_rfl) ?_;refine KE rfl rfl ⟨_,rfl⟩ rfl ?_;refine ql 25 (by kernel_rfl) ?_;refine KE rfl rfl ⟨_,rfl⟩ rfl ?_;refine JX (by kernel_rfl) ⟨_,rfl, ?_⟩;show VWp _ _ _ _ _ _ _;refine QO [0,2,4] ?_;exact rest [(2,n2),(0,n0),(3,n3)] (by intro k; by_cases h0:k=0<;>by_cases h2:k=2<;>by_cases h3:k=3<;>simp_all [fnd,tab3])
   .refine qL rfl rfl rfl (by conv=>lhs; simp [jg,↓zL,↓Jl,fnd]) zOk ?_;refine ql 14 (by kernel_rfl) ?_;refine qL rfl rfl rfl (by conv=>lhs; simp [jg,↓zL,↓Jl,fnd]) zOk ?_;refine ql 24 (by kernel_rfl) ?_;refine KE rfl rfl ⟨_,rfl⟩ rfl ?_;refine ql 25 (by kernel_rfl) ?_;refine KE rfl rfl ⟨_,rfl⟩ rfl ?_;refine JX (by kernel_rfl) ⟨_,rfl, ?_⟩;show VWp _ _ _ _ _ _ _;refine QO [0,2,4] ?_;exact rest [(2,n2),(3,n3),(0,n0)] (by intro k; by_cases h0:k=0<;>by_cases h2:k=2<;>by_cases h3:k=3<;>simp_all [fnd,tab3])
  .refine qL rfl rfl rfl (by conv=>lhs; simp [jg,↓zL,↓Jl,fnd]) zOk ?_;refine jap 14 16 (by kernel_rfl) ?_ ?_
   .refine qL rfl rfl rfl (by conv=>lhs; simp [jg,↓zL,↓Jl,fnd]) zOk ?_;refine ql 16 (by kernel_rfl) ?_;refine qL rfl rfl rfl (by conv=>lhs; simp [jg,↓zL,↓Jl,fnd]) zOk ?_;refine ql 24 (by kernel_rfl) ?_;refine KE rfl rfl ⟨_,rfl⟩ rfl ?_;refine ql 25 (by kernel_rfl) ?_;refine KE rfl rfl ⟨_,rfl⟩ rfl ?_;refine JX (by kernel_rfl) ⟨_,rfl, ?_⟩;show VWp _ _ _ _ _ _ _;refine QO [0,2,4] ?_;exact rest [(3,n3),(0,n0),(2,n2)] (by intro k; by_cases h0:k=0<;>by_cases h2:k=2<;>by_cases h3:k=3<;>simp_all [fnd,tab3])
   .refine qL rfl rfl rfl (by conv=>lhs; simp [jg,↓zL,↓Jl,fnd]) zOk ?_;refine ql 14 (by kernel_rfl) ?_;refine qL rfl rfl rfl (by conv=>lhs; simp [jg,↓zL,↓Jl,fnd]) zOk ?_;refine ql 24 (by kernel_rfl) ?_;refine KE rfl rfl ⟨_,rfl⟩ rfl ?_;refine ql 25 (by kernel_rfl) ?_;refine KE rfl rfl ⟨_,rfl⟩ rfl ?_;refine JX (by kernel_rfl) ⟨_,rfl, ?_⟩;show VWp _ _ _ _ _ _ _;refine QO [0,2,4] ?_;exact rest [(3,n3),(2,n2),(0,n0)] (by intro k; by_cases h0:k=0<;>by_cases h2:k=2<;>by_cases h3:k=3<;>simp_all [fnd,tab3])
 by_cases hp:m.pages≥0
 .rw [if_pos hp] at hn2;subst hn2;refine bi hp ?_;show VWp _ _ _ _ _ _ _;refine QO [0,2,3] ?_;exact main
 .rw [if_neg hp] at hn2;subst hn2;refine bi hp ?_;show VWp _ _ _ _ _ _ _;refine QO [0,2,3] ?_;exact main
end Go.Vw
