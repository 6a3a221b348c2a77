import Derived.Test.YtenhhokhkkfgbaaGreatC28
/- Part of the proof. -/
set_option linter.unusedVariables false
set_option linter.unusedSimpArgs false
set_option maxRecDepth 10000
set_option maxHeartbeats 4000000
namespace Ss
open Go.Vw.G
def phi {α:Type} (p:α->Bool) (l:List α) (k:Nat):Nat:=((l.take k).filter p).length
theorem phi_zero {α:Type} (p:α->Bool) (l:List α):phi p l 0=0:=by simp [phi]
theorem WJ {α:Type} (p:α->Bool) (a:α) (l:List α) (k:Nat):phi p (a::l) (k+1)=(if p a then 1 else 0)+phi p l k:=by
 unfold phi;rw [List.take_succ_cons]
 by_cases h:p a=true
 ·rw [List.filter_cons_of_pos h,aC,if_pos h]; omega
 ·rw [List.filter_cons_of_neg h,if_neg h]; omega
theorem phi_at {α:Type} (p:α->Bool) : ∀ (l:List α) (k:Nat) (x:α),l[k]? = some x->p x=true->(l.filter p)[phi p l k]? = some x /\ ∀ k',k<k'->phi p l k<phi p l k'
 | [],k,x,h,_=>by simp at h
 | a::l,0,x,h,hp=>by
  simp only [aK,ay] at h;subst h;rw [phi_zero,List.filter_cons_of_pos hp];refine ⟨rfl,fun k' hk => ?_⟩;obtain ⟨m,rfl⟩ : ∃ m,k'=m+1:=⟨k'-1,by omega⟩
  rw [WJ,if_pos hp]; omega
 | a::l,k+1,x,h,hp=>by
  obtain ⟨h1,h2⟩:=phi_at p l k x (by simpa using h) hp;rw [WJ];refine ⟨?_,fun k' hk => ?_⟩
  ·by_cases ha:p a=true
   ·rw [List.filter_cons_of_pos ha,if_pos ha,Nat.add_comm,List.getElem?_cons_succ]; exact h1
   ·rw [List.filter_cons_of_neg ha,if_neg ha,bd]; exact h1
  ·obtain ⟨m,rfl⟩ : ∃ m,k'=m+1:=⟨k'-1,by omega⟩
   have:=h2 m (by omega);rw [WJ]; omega
theorem jcx {α:Type} (p:α->Bool) : ∀ (l:List α) (j:Nat) (y:α),(l.filter p)[j]? = some y -> ∃ k,l[k]? = some y/\phi p l k=j
 | [],j,y,h=>by simp at h
 | a::l,j,y,h=>by
  by_cases ha:p a=true
  ·rw [List.filter_cons_of_pos ha] at h
   cases j with
   | zero=>exact ⟨0,by simpa using h,phi_zero _ _⟩
   | succ j =>
    obtain ⟨k,h1,h2⟩:=jcx p l j y (by simpa using h);exact ⟨k+1,by simpa using h1,by rw [WJ,if_pos ha]; omega⟩
  ·rw [List.filter_cons_of_neg ha] at h;obtain ⟨k,h1,h2⟩:=jcx p l j y h;exact ⟨k+1,by simpa using h1,by rw [WJ,if_neg ha]; omega⟩
theorem phi_end {α:Type} (p:α->Bool) (l:List α):phi p l l.length=(l.filter p).length:=by rw [phi,List.take_length]
theorem pure_tick:pure 258=false:=by decide
theorem keep_tick {need:List Bool} {x:Ins} (h:x.op=258):dKeep need x=true:=by rw [dKeep,h,pure_tick]; rfl
theorem filter_tick (need:List Bool) (l:List Ins):((l.filter (dKeep need)).any fun x=>decide (x.op=258))=l.any fun x=>decide (x.op=258):=by
 induction l with
 | nil=>rfl
 | cons x l ih =>
  by_cases h:dKeep need x=true
  ·rw [List.filter_cons_of_pos h,List.any_cons,List.any_cons,ih]
  ·rw [List.filter_cons_of_neg h,List.any_cons,ih];have : ¬ x.op=258:=fun e=>h (keep_tick e)
   simp [this]
theorem outs_sub {l m:List Ins} (h:l.Sublist m):(zC l).Sublist (zC m):=by
 induction h with
 | slnil=>exact .refl _
 | cons a _ ih=>exact ih.trans (List.sublist_append_right _ _)
 | cons_cons a _ ih=>exact (List.Sublist.refl _).append ih
theorem dce_all (need:List Bool) (bs:List Block) : ∀ l:List Block,(allL (l.map (dBlock need bs))).Sublist (allL l)
 | [] => .refl _
 | b::l=>by
  have:=dce_all need bs l;simp only [allL,List.map_cons,List.flatMap_cons] at this ⊢;refine List.Sublist.append ?_ this;exact List.Sublist.append List.filter_sublist (outs_sub List.filter_sublist)
theorem eqF_keep {p q:Int->Int->Bool} {T:Int->Int} (ok:Int->Bool) : ∀ (l m:List Int),l.length=m.length->(∀ a∈l.zip m,ok a.1=true -> ∀ t,p a.2 t=true->q a.2 t=true)->Go.Vw.eqF p m (l.map T)=true->Go.Vw.eqF q (((l.zip m).filter fun a=>ok a.1).map Prod.snd) ((l.filter ok).map T)=true
 | [],[],_,_,_=>by simp [Go.Vw.eqF]
 | [],_::_,h,_,_=>by simp at h
 | _::_,[],h,_,_=>by simp at h
 | a::l,b::m,h,hq,he=>by
  simp only [List.map_cons,Go.Vw.eqF,af] at he;have ih:=eqF_keep ok l m (by simpa using h) (fun x hx=>hq x (by simp [hx])) he.2
  by_cases ha:ok a=true
  ·have e1:((a::l).zip (b::m)).filter (fun a=>ok a.1)=(a,b)::(l.zip m).filter fun a=>ok a.1:=by
    rw [List.zip_cons_cons]; exact List.filter_cons_of_pos (p:=fun a:Int × Int=>ok a.1) ha
   rw [e1,List.filter_cons_of_pos ha];simp only [List.map_cons,Go.Vw.eqF,af];exact ⟨hq (a,b) (by simp) ha _ he.1,ih⟩
  ·have e1:((a::l).zip (b::m)).filter (fun a=>ok a.1)=(l.zip m).filter fun a=>ok a.1:=by
    rw [List.zip_cons_cons]; exact List.filter_cons_of_neg (p:=fun a:Int × Int=>ok a.1) ha
   rw [e1,List.filter_cons_of_neg ha];exact ih
theorem jbo (p:Int × Int->Bool) (l m:List Int):(((l.zip m).filter p).map Prod.snd).length<=m.length:=by
 rw [aI];refine bh (List.length_filter_le _ _) ?_;rw [List.length_zip]; omega
theorem dEdge_mem {need:List Bool} {bs:List Block} {e:Edge} {v:Int} (h:v∈(dEdge need bs e).args):v∈e.args:=by
 simp only [dEdge,bk,List.mem_filter] at h;obtain ⟨q,⟨hq,_⟩,rfl⟩:=h;exact (List.of_mem_zip hq).2
theorem ints_sub {l m:List Int} (h:Ints m) (hl:l.length<=m.length) (hs : ∀ v∈l,v∈m):Ints l:=⟨bh hl h.1,fun v hv=>h.2 v (hs v hv)⟩
theorem dBlock_fits {need:List Bool} {bs:List Block} {b:Block} (h:b.Fits):(dBlock need bs b).Fits:=by
 obtain ⟨h1,⟨h2,h3⟩,h4,h5,⟨h6,h7⟩,h8⟩:=h;refine ⟨ints_sub h1 (List.length_filter_le _ _) fun v hv=>(List.mem_filter.1 hv).1,⟨bh (List.length_filter_le _ _) h2,fun x hx=>h3 x (List.mem_filter.1 hx).1⟩,h4,h5,⟨by simp only [dBlock,aI]; exact h6,fun x hx => ?_⟩,h8⟩;simp only [dBlock,bk] at hx;obtain ⟨e,he,rfl⟩:=hx;obtain ⟨k1,k2⟩:=h7 e he;exact ⟨k1,ints_sub k2 (jbo _ _ _) fun v hv=>dEdge_mem hv⟩
theorem dceF_fits {f:Fn} (h:f.Fits):(dceF f).Fits:=by
 obtain ⟨h1,h2,h3,h4⟩:=h;refine ⟨h1,h2,by simp only [dceF,aI]; exact h3,fun c hc => ?_⟩;simp only [dceF,bk] at hc;obtain ⟨b,hb,rfl⟩:=hc;exact dBlock_fits (h4 b hb)
theorem dce_count (need:List Bool) (bs:List Block) : ∀ l:List Block,count (l.map (dBlock need bs))<=count l
 | []=>bf _
 | b::l=>by
  have:=dce_count need bs l;have h1:(dBlock need bs b).code.length<=b.code.length:=List.length_filter_le _ _;simp only [count,List.map_cons,List.sum_cons] at this ⊢;omega
theorem dceF_small {f:Fn} (k:f.small=true):(dceF f).small=true:=by
 obtain ⟨k1,k2,k3⟩:=(small_iff f).1 k;refine (small_iff _).2 ⟨?_,fun c hc => ?_,bh (dce_count _ _ _) k3⟩
 ·simp only [Fn.heads,dceF,aI] at k1 ⊢; exact k1
 ·simp only [dceF,bk] at hc;obtain ⟨b,hb,rfl⟩:=hc;have h:=k2 b hb;simp only [Block.small,af,aj,aD] at h ⊢;obtain ⟨⟨⟨⟨a1,a2⟩,a3⟩,a4⟩,a5⟩:=h;refine ⟨⟨⟨⟨bh (List.length_filter_le _ _) a1,by simp only [dBlock,aI]; exact a2⟩,a3⟩,fun x hx=>a4 x (List.mem_filter.1 hx).1⟩,fun e he => ?_⟩;simp only [dBlock,bk] at he;obtain ⟨e',he',rfl⟩:=he;have:=a5 e' he';simp only [Edge.small,aj] at this ⊢;exact bh (jbo _ _ _) this
theorem dce_check {e:Env} {f:Fn} (h:check e f=true):check e (dceF f)=true:=by
 have hd:=check_dok h;obtain ⟨hh,ds,hds,hsh,hbs⟩:=check_spec h;obtain ⟨hdl,hdin⟩:=defs_in hds;obtain ⟨hnd,hmade,hout⟩:=WX hds;obtain ⟨need,hneed⟩ : ∃ need,dNeed f=need:=⟨_,rfl⟩
 have hroot : ∀ v∈roots f,on need v=true:=fun v hv=>hneed▸dNeed_root hd hv
 have hask : ∀ v u:Int,on need v=true->Asks f v u->on need u=true:=fun v u hv ha=>by rw [<-hneed] at hv ⊢; exact dNeed_asks hd hv ha
 have hrootB : ∀ b∈f.blocks, ∀ v∈rootsB b,on need v=true:=fun b hb v hv=>hroot v (by
  simp only [roots,aG,bj]; exact .inr ⟨b,hb,hv⟩)
 have hhd:=dce_head hd;have hg:(dceF f).blocks=f.blocks.map (dBlock need f.blocks):=by simp only [dceF,hneed]
 have hgs:(dceF f).sig=f.sig:=rfl;have hgt:(dceF f).types=f.types:=rfl;have hsmall:=dceF_small (check_small h);generalize dceF f=g at *
 have hgl:g.blocks.length=f.blocks.length:=by rw [hg,aI]
 have hgi : ∀ (i:Nat) (b:Block),f.blocks[i]? = some b->g.blocks[i]? = some (dBlock need f.blocks b):=fun i b hb=>by rw [hg,a8,hb]; rfl
 have hgd : ∀ n:Nat,n<f.blocks.length->(g.blocks.getD n default).params=(f.blocks.getD n default).params.filter (on need):=fun n hn=>by rw [hg,JB hn]; rfl
 have hsubl:(allL g.blocks).Sublist (allL f.blocks):=by rw [hg]; exact dce_all _ _ _
 have hrange : ∀ v∈allL f.blocks,0<=v/\v<f.types.length:=fun v hv=>by
  obtain ⟨b,hb,hv⟩:=bj.1 hv;obtain ⟨k1,k2⟩:=hdin b hb;rcases aG.1 hv with hv | hv
  ·exact k1 v hv
  ·obtain ⟨x,hx,hv⟩:=bj.1 hv;exact k2 x hx v hv
 obtain ⟨ds',hds'⟩:=YY (l:=g.blocks) (i:=0) (ds:=List.replicate g.types.length ⟨false,0,0⟩) (by rw [List.length_replicate,hgt]; exact fun v hv=>hrange v (hsubl.subset hv)) (hsubl.nodup hnd) (fun v _=>dAt_rep _ _);have hds2:defsOf g=some ds':=hds';obtain ⟨hdl',_⟩:=defs_in hds2;obtain ⟨_,hmade',hout'⟩:=WX hds2;have hrow : ∀ b:Block,rowOf (dBlock need f.blocks b)=rowOf b:=fun b=>by
  simp only [rowOf,dBlock,List.map_map];exact a7 fun e _=>rfl
 have hsu:succs g.blocks=succs f.blocks:=by
  rw [hg,succs,succs,List.map_map];exact a7 fun b _=>hrow b
 have htk:g.blocks.map tickB=f.blocks.map tickB:=by
  rw [hg,List.map_map];exact a7 fun b _=>filter_tick need b.code
 have hhead:checkHead e g=true:=by
  simp only [checkHead,af,aj,aD] at hh ⊢;obtain ⟨⟨⟨⟨⟨g1,g2⟩,g3⟩,g4⟩,g5⟩,g6⟩:=hh;refine ⟨⟨⟨⟨⟨g1,hsmall⟩,by rw [hgl]; exact g3⟩,by rw [hgt]; exact g4⟩,by rw [hgs]; exact g5⟩,fun c hc => ?_⟩;rw [hg] at hc;obtain ⟨b,hb,rfl⟩:=bk.1 hc;exact bh (List.length_filter_le _ _) (g6 b hb)
 have hshape:shapeOk g=true:=by
  simp only [shapeOk,af] at hsh ⊢;have hr:rings g.blocks (Go.Vw.G.nats (succs f.blocks))=rings f.blocks (Go.Vw.G.nats (succs f.blocks)):=by simp only [rings,htk]
  rw [hsu,hgl,hgs,hhd,hgt,hr];refine ⟨hsh.1, ?_⟩;have h5:=hsh.2;have h0:0<f.blocks.length:=List.length_pos_iff.2 hd.ne;have e0:(g.blocks.getD 0 default).code=(f.blocks.getD 0 default).code.filter (dKeep need):=by rw [hg,JB h0]; rfl
  rw [e0];generalize (f.blocks.getD 0 default).code=cf at *
  cases cf with
  | nil=>cases h5
  | cons x r =>
   simp only [aj] at h5;rw [List.filter_cons_of_pos (keep_tick h5)];simp [h5]
 have key : ∀ (i:Nat) (b:Block),f.blocks[i]? = some b -> ∀ (K:Nat) (v t:Int),on need v=true->askOk f.types ds (Go.Vw.G.nearI (succs f.blocks)) i K v t=true->askOk g.types ds' (Go.Vw.G.nearI (succs f.blocks)) i (phi (dKeep need) b.code K:Nat) v t=true:=by
  intro i b hb K v t hon ha;simp only [askOk,af,aj] at ha ⊢;obtain ⟨⟨⟨⟨q1,q2⟩,q3⟩,q4⟩,q5⟩:=ha;have hv:=hmade v q1 q4;obtain ⟨b2,hb2,hv2⟩:=bj.1 hv;obtain ⟨j,hj⟩:=aB.1 hb2;have hgj:=hgi j b2 hj;have fact : ∃ B P P':Int,ds.getD v.toNat default=⟨true,B,P⟩/\ds'.getD v.toNat default=⟨true,B,P'⟩/\(B=i->P<K->P'<(phi (dKeep need) b.code K:Nat)):=by
   rcases aG.1 hv2 with hp | ho
   ·have a1:=qP hds j b2 hj v hp;have a2:=qP hds' j _ hgj v (by simp only [dBlock,List.mem_filter]; exact ⟨hp,hon⟩);rw [bd] at a1 a2;exact ⟨_,_,_,a1,a2,fun _ _=>by omega⟩
   ·obtain ⟨x,hx,hvx⟩:=bj.1 ho;obtain ⟨k,hk⟩:=aB.1 hx;have hkeep:dKeep need x=true:=by
     unfold dKeep
     cases hp:pure x.op with
     | false=>rfl
     | true =>
      obtain ⟨o,ho⟩:=hd.one b2 hb2 x hx hp;rw [ho,aW] at hvx;subst hvx;rw [ho,List.getD_cons_zero,hon]; rfl
    have a1:=hout j b2 hj k x hk v hvx;obtain ⟨r1,r2⟩:=phi_at (dKeep need) b2.code k x hk hkeep;have a2:=hout' j _ hgj _ x r1 v hvx;refine ⟨_,_,_,a1,a2,fun e2 hlt => ?_⟩;have e3:j=i:=by omega
    subst e3;rw [hb] at hj
    cases hj
    have:=r2 K (by omega); omega
  obtain ⟨B,P,P',f1,f2,f3⟩:=fact;rw [f1] at q5;refine ⟨⟨⟨⟨q1,by rw [hdl',hgt, <-hdl]; exact q2⟩,by rw [hgt]; exact q3⟩,by rw [f2]⟩, ?_⟩;rw [f2];simp only at q5 ⊢
  by_cases e:B=i
  ·rw [if_pos e,aj] at q5 ⊢;exact f3 e q5
  ·rw [if_neg e] at q5 ⊢; exact q5
 have keyA : ∀ (i:Nat) (b:Block),f.blocks[i]? = some b -> ∀ (K:Nat) (l t:List Int),(∀ v∈l,on need v=true)->asks f.types ds (Go.Vw.G.nearI (succs f.blocks)) i K l t=true->asks g.types ds' (Go.Vw.G.nearI (succs f.blocks)) i (phi (dKeep need) b.code K:Nat) l t=true :=
  fun i b hb K l t hl ha=>eqF_mono (fun x hx y hxy=>key i b hb K x y (hl x hx) hxy) ha
 have hblocks:checkBlocks e g ds' (Go.Vw.G.nearI (succs g.blocks)) 0 g.blocks=true:=by
  rw [hsu];refine Wi fun i c hc => ?_
  rw [bd];have hil:i<f.blocks.length:=by rw [<-hgl]; exact (ae.1 hc).1
  obtain ⟨b,hb⟩ : ∃ b,f.blocks[i]? = some b:=⟨_,ac hil⟩
  have hbm:=aA hb;rw [hgi i b hb] at hc
  cases hc
  obtain ⟨c1,c2⟩:=checkBlocks_at hbs hb;rw [bd] at c1 c2;constructor
  ·refine Zh fun j x hx => ?_
   rw [bd];have hkx:dKeep need x=true:=(List.mem_filter.1 (aA hx)).2;obtain ⟨k,hk,rfl⟩:=jcx (dKeep need) b.code j x hx;have hxm:=aA hk;have:=checkCode_at c1 hk;rw [bd] at this;simp only [insOk,af] at this ⊢;rw [hgt];refine ⟨this.1, ?_⟩;have h9:=keyA i b hb k _ _ (fun v hv => ?_) this.2
   ·rw [hgt] at h9; exact h9
   ·unfold dKeep at hkx
    cases hp:pure x.op with
    | true =>
     rw [hp] at hkx;obtain ⟨o,ho⟩:=hd.one b hbm x hxm hp;rw [ho] at hkx;exact hask o v (by simpa using hkx) (.inl ⟨b,hbm,x,hxm,hp,ho,hv⟩)
    | false=>exact hrootB b hbm v (by
      simp only [rootsB,aG,bj];exact .inl ⟨x,hxm,by rw [hp]; simp [hv]⟩)
  ·unfold termOk at c2 ⊢;have e1:(dBlock need f.blocks b).term.kind=b.term.kind:=rfl;have e2:(dBlock need f.blocks b).code.length=phi (dKeep need) b.code b.code.length:=(phi_end _ _).symm;rw [e1,hgs,e2];split at c2
   ·rename_i le mo rs heq;simp only [termTail,af] at c2 ⊢;obtain ⟨⟨⟨⟨t1,t2⟩,t3⟩,t4⟩,t5⟩:=c2;have e3:(dBlock need f.blocks b).term.to.length=b.term.to.length:=by simp [dBlock]
    have e4:(dBlock need f.blocks b).term.arg=b.term.arg:=rfl;have e5:(dBlock need f.blocks b).term.args=b.term.args:=rfl;have e6:branches (dBlock need f.blocks b).term=branches b.term:=rfl;rw [e3,e4,e5,e6];refine ⟨⟨⟨⟨?_,t2⟩,t3⟩,keyA i b hb _ _ _ (fun v hv=>hrootB b hbm v (by simp only [rootsB,aG]; exact .inr (.inl hv))) t4⟩,aD.2 fun x hx => ?_⟩
    ·split at t1
     ·rename_i hbr;rw [if_pos hbr];exact keyA i b hb _ _ _ (fun v hv=>hrootB b hbm v (by simp only [rootsB,aG]; exact .inr (.inr (by rw [if_pos hbr]; exact hv)))) t1
     ·rename_i hbr; rw [if_neg hbr]; exact t1
    ·simp only [dBlock,bk] at hx;obtain ⟨x',hx',rfl⟩:=hx;obtain ⟨h0,h1,h2⟩:=hd.etos b hbm x' hx';have:=aD.1 t5 x' hx';simp only [edgeOk,af] at this ⊢;have e7:(dEdge need f.blocks x').to=x'.to:=rfl;rw [e7,hgd _ (by omega)];refine ⟨this.1, ?_⟩;rw [hgt];refine eqF_keep (p:=askOk f.types ds (Go.Vw.G.nearI (succs f.blocks)) i b.code.length) (T:=fun v=>f.types.getD v.toNat 0) (on need) (f.blocks.getD x'.to.toNat default).params x'.args h2.symm (fun a ha hona t hat => ?_) this.2;have:=key i b hb b.code.length a.2 t (hask a.1 a.2 hona (.inr ⟨b,hbm,x',hx',ha⟩)) hat;rw [hgt] at this;exact this
   ·cases c2
 simp only [check,hhead,hds2,hshape,hblocks,Bool.and_self]
end Ss
namespace Ss
def jcW (b:Block) (i:Nat):Block:=⟨b.params,b.code.eraseIdx i,b.term⟩
def Wr (b:Block) (x:Ins):Block:=⟨b.params,b.code++[x],b.term⟩
def We (bs:List Block) (p n i:Nat):List Block:=(bs.set n (jcW (bs.getD n default) i)).set p (Wr (bs.getD p default) ((bs.getD n default).code.getD i default))
structure Mv (bs:List Block) (p n i:Nat) (bp bn:Block) (x:Ins):Prop where
 hp:bs[p]? = some bp
 hn:bs[n]? = some bn
 hi:bn.code[i]? = some x
 ne:p≠n
section
variable {bs:List Block} {p n i:Nat} {bp bn:Block} {x:Ins}
theorem Mv.eq (h:Mv bs p n i bp bn x):We bs p n i=(bs.set n (jcW bn i)).set p (Wr bp x):=by
 simp only [We,ag,h.hp,h.hn,h.hi,aS]
theorem Mv.len (h:Mv bs p n i bp bn x):(We bs p n i).length=bs.length:=by simp [We]
theorem Mv.at (h:Mv bs p n i bp bn x) (j:Nat):(We bs p n i)[j]? = if j=p then some (Wr bp x) else if j=n then some (jcW bn i) else bs[j]? := by
 have h1:=(ae.1 h.hp).1;have h2:=(ae.1 h.hn).1;rw [h.eq]
 by_cases e1:j=p
 ·subst e1;rw [if_pos rfl,aZ (by simpa using h1)]
 ·rw [if_neg e1,aR (Ne.symm e1)]
  by_cases e2:j=n
  ·subst e2;rw [if_pos rfl,aZ h2]
  ·rw [if_neg e2,aR (Ne.symm e2)]
theorem Yu {α:Type} {a:α} : ∀ {l:List α} {k:Nat},l[k]? = some a->l.Perm (a::l.eraseIdx k)
 | [],k,h=>by simp at h
 | b::l,0,h=>by
  simp only [aK,ay] at h;subst h; exact List.Perm.refl _
 | b::l,k+1,h=>by
  have:=Yu (l:=l) (k:=k) (by simpa using h);rw [List.eraseIdx_cons_succ];exact (this.cons b).trans (List.Perm.swap a b _)
theorem jcy {α:Type} {l:List α} {k:Nat} {a b:α} (h:l[k]? = some a):l.Perm (a::l.eraseIdx k)/\(l.set k b).Perm (b::l.eraseIdx k):=by
 have hk:=(ae.1 h).1;refine ⟨Yu h, ?_⟩;have:=Yu (l:=l.set k b) (k:=k) (a:=b) (aZ hk)
 rwa [List.eraseIdx_set_eq] at this
theorem Mv.perm (h:Mv bs p n i bp bn x) {α:Type} (F:Block->List α) (X:List α) (h1:(F bn).Perm (X++F (jcW bn i))) (h2:(F (Wr bp x)).Perm (X++F bp)):((We bs p n i).flatMap F).Perm (bs.flatMap F):=by
 have hp2:(bs.set n (jcW bn i))[p]? = some bp:=by rw [aR (Ne.symm h.ne)]; exact h.hp
 obtain ⟨a1,a2⟩:=jcy (b:=jcW bn i) h.hn;obtain ⟨c1,c2⟩:=jcy (b:=Wr bp x) hp2;rw [h.eq];generalize (bs.set n (jcW bn i)).eraseIdx p=E at *
 generalize bs.eraseIdx n=G at *
 have e1:=c2.flatMap_right F;have e2:=c1.flatMap_right F;have e3:=a2.flatMap_right F;have e4:=a1.flatMap_right F;simp only [List.flatMap_cons] at e1 e2 e3 e4;refine e1.trans ?_;refine (h2.append_right _).trans ?_;rw [List.append_assoc];refine ((e2.symm.trans e3).append_left X).trans ?_;rw [<-List.append_assoc];exact (h1.symm.append_right _).trans e4.symm
theorem code_perm {l:List Ins} {i:Nat} {x:Ins} (h:l[i]? = some x):l.Perm (x::l.eraseIdx i):=(jcy (b:=x) h).1
theorem Mv.all (h:Mv bs p n i bp bn x):(allL (We bs p n i)).Perm (allL bs):=by
 have hc:=code_perm h.hi;refine h.perm (fun b=>b.params++zC b.code) x.outs ?_ ?_
 ·have h1:(zC bn.code).Perm (x.outs++zC (bn.code.eraseIdx i)):=by
   have:=hc.flatMap_right Ins.outs;simpa [zC] using this
  refine (h1.append_left _).trans ?_;simp only [jcW];rw [<-List.append_assoc, <-List.append_assoc];exact List.perm_append_comm.append_right _
 ·simp only [Wr,zC,List.flatMap_append,List.flatMap_cons,List.flatMap_nil,List.append_nil];rw [<-List.append_assoc];exact List.perm_append_comm
theorem Mv.map (h:Mv bs p n i bp bn x) {α:Type} (F:Block->α) (h1:F (jcW bn i)=F bn) (h2:F (Wr bp x)=F bp):(We bs p n i).map F=bs.map F:=by
 apply List.ext_getElem?
 intro j;rw [a8,a8,h.at j]
 by_cases e1:j=p
 ·subst e1; rw [if_pos rfl,h.hp,bl,bl,h2]
 ·rw [if_neg e1]
  by_cases e2:j=n
  ·subst e2; rw [if_pos rfl,h.hn,bl,bl,h1]
  ·rw [if_neg e2]
theorem Mv.succs (h:Mv bs p n i bp bn x):succs (We bs p n i)=succs bs:=h.map rowOf rfl rfl
end
end Ss
namespace Ss
open Go.Vw.G
def canMove (hm:Int->Int) (nodes:List Nat) (x:Ins):Bool:=pure x.op&&x.args.all fun a => !decide (hm a∈nodes.map Int.ofNat)
def firstB (bs:List Block) (hm:Int->Int) (nodes:List Nat):List Nat->Option (Nat × Nat)
 | []=>none
 | n::r=>match (bs.getD n default).code.findIdx? (canMove hm nodes) with
  | some i=>some (n,i)
  | none=>firstB bs hm nodes r
def first (bs:List Block) (hm:Int->Int):List (Nat × List Nat)->Option (Nat × Nat × Nat)
 | []=>none
 | l::r=>match porch bs l.1 (l.2.map Int.ofNat) with
  | none=>first bs hm r
  | some p=>match firstB bs hm l.2 l.2 with
   | some m=>some (p.toNat,m.1,m.2)
   | none=>first bs hm r
def homeOf (f:Fn) (v:Int):Int:=(((defsOf f).getD []).getD v.toNat default).block
noncomputable def lps (bs:List Block):List (Nat × List Nat):=loopsTo (rNear (nats (succs bs))) (froms (nats (succs bs))) (nats (succs bs)).length (nats (succs bs)).length
def weigh (w:Nat->Nat):Nat->List Block->Nat
 | _,[]=>0
 | j,b::bs=>b.code.length*w j+weigh w (j+1) bs
end Ss
namespace Ss
/-! ### Where each value is made: the table -/
def jbl (i:Int) (out:List Int) (l:List Int):List Int:=l.foldl (fun o v=>o.set v.toNat i) out
def jbM (i:Int) (out:List Int) (code:List Ins):List Int:=code.foldl (fun o x=>jbl i o x.outs) out
def hmBlk (i:Int) (out:List Int) (b:Block):List Int:=jbM i (jbl i out b.params) b.code
def hmAll:Nat->List Block->List Int->List Int
 | _,[],o=>o
 | i,b::r,o=>hmAll (i+1) r (hmBlk (i:Int) o b)
def homesI (f:Fn):List Int:=hmAll 0 f.blocks (List.replicate f.types.length 0)
theorem Ky (i:Int) : ∀ (l out:List Int),(jbl i out l).length=out.length
 | [],out=>rfl
 | v::l,out=>by
  have:=Ky i l (out.set v.toNat i);rw [List.length_set] at this;exact this
theorem jbL (i:Int) : ∀ (l:List Ins) (out:List Int),(jbM i out l).length=out.length
 | [],out=>rfl
 | x::l,out=>(jbL i l (jbl i out x.outs)).trans (Ky i x.outs out)
theorem hmBlk_len (i:Int) (out:List Int) (b:Block):(hmBlk i out b).length=out.length:=(jbL i _ _).trans (Ky i _ _)
theorem hmAll_len : ∀ (bs:List Block) (i:Nat) (out:List Int),(hmAll i bs out).length=out.length
 | [],_,_=>rfl
 | b::r,i,out=>(hmAll_len r (i+1) _).trans (hmBlk_len _ _ _)
theorem homesI_len (f:Fn):(homesI f).length=f.types.length:=by rw [homesI,hmAll_len,List.length_replicate]
theorem jcI (i:Int) {N:Nat} {v:Int} (hv:InR N v) : ∀ (l out:List Int),out.length=N->(∀ w∈l,InR N w)->(jbl i out l).getD v.toNat 0=if v∈l then i else out.getD v.toNat 0
 | [],out,_,_=>by simp [jbl]
 | w::l,out,ho,hl=>by
  have ih:=jcI i hv l (out.set w.toNat i) (by simpa using ho) (fun u hu=>hl u (by simp [hu]));have e:jbl i out (w::l)=jbl i (out.set w.toNat i) l:=rfl;rw [e,ih];have hw:=hl w (by simp)
  by_cases h1:v∈l
  ·rw [if_pos h1,if_pos (by simp [h1])]
  ·rw [if_neg h1]
   by_cases h2:v=w
   ·subst h2;rw [if_pos (by simp),ag,aZ (by have:=hv.1; have:=hv.2; omega)]; rfl
   ·rw [if_neg (by simp [h1,h2]),ag,aR (by have:=hv.1; have:=hw.1; omega),ag]
theorem hmCode_at (i:Int) {N:Nat} {v:Int} (hv:InR N v) : ∀ (l:List Ins) (out:List Int),out.length=N->(∀ x∈l, ∀ w∈x.outs,InR N w)->(jbM i out l).getD v.toNat 0=if v∈zC l then i else out.getD v.toNat 0
 | [],out,_,_=>by simp [jbM,zC]
 | x::l,out,ho,hl=>by
  have ih:=hmCode_at i hv l (jbl i out x.outs) (by rw [Ky]; exact ho) (fun u hu=>hl u (by simp [hu]));have e:jbM i out (x::l)=jbM i (jbl i out x.outs) l:=rfl;rw [e,ih,jcI i hv _ _ ho (hl x (by simp))];have e2:zC (x::l)=x.outs++zC l:=by simp [zC]
  rw [e2]
  by_cases h1:v∈zC l
  ·rw [if_pos h1,if_pos (by simp [h1])]
  ·rw [if_neg h1]
   by_cases h2:v∈x.outs
   ·rw [if_pos h2,if_pos (by simp [h2])]
   ·rw [if_neg h2,if_neg (by simp [h1,h2])]
theorem hmBlk_at (i:Int) {N:Nat} {v:Int} (hv:InR N v) (b:Block) (out:List Int) (ho:out.length=N) (hp : ∀ w∈b.params,InR N w) (hl : ∀ x∈b.code, ∀ w∈x.outs,InR N w):(hmBlk i out b).getD v.toNat 0=if v∈allB b then i else out.getD v.toNat 0:=by
 rw [hmBlk,hmCode_at i hv _ _ (by rw [Ky]; exact ho) hl,jcI i hv _ _ ho hp,allB]
 by_cases h1:v∈zC b.code
 ·rw [if_pos h1,if_pos (by simp [h1])]
 ·rw [if_neg h1]
  by_cases h2:v∈b.params
  ·rw [if_pos h2,if_pos (by simp [h2])]
  ·rw [if_neg h2,if_neg (by simp [h1,h2])]
theorem hmAll_at {N:Nat} {v:Int} (hv:InR N v) : ∀ (bs:List Block) (i:Nat) (out:List Int),out.length=N->(∀ b∈bs, ∀ w∈b.params,InR N w)->(∀ b∈bs, ∀ x∈b.code, ∀ w∈x.outs,InR N w)->(allL bs).Nodup ->
  (v∉allL bs->(hmAll i bs out).getD v.toNat 0=out.getD v.toNat 0) /\ ∀ (j:Nat) (b:Block),bs[j]? = some b->v∈allB b->(hmAll i bs out).getD v.toNat 0=((i+j:Nat):Int)
 | [],i,out,_,_,_,_=>⟨fun _=>rfl,by simp⟩
 | b::r,i,out,ho,hp,hl,hnd=>by
  have eL:allL (b::r)=allB b++allL r:=by simp [allL]
  rw [eL] at hnd;obtain ⟨_,n2,n3⟩:=List.nodup_append.1 hnd;obtain ⟨k1,k2⟩:=hmAll_at hv r (i+1) (hmBlk (i:Int) out b) (by rw [hmBlk_len]; exact ho) (fun c hc=>hp c (by simp [hc])) (fun c hc=>hl c (by simp [hc])) n2;have hb:=hmBlk_at (i:Int) hv b out ho (hp b (by simp)) (hl b (by simp));rw [eL,hmAll];refine ⟨fun hn => ?_,fun j c hj hc => ?_⟩
  ·simp only [aG,not_or] at hn;rw [k1 hn.2,hb,if_neg hn.1]
  ·cases j with
   | zero =>
    simp only [aK,ay] at hj;subst hj;rw [k1 (fun h=>n3 v hc v h rfl),hb,if_pos hc]; rfl
   | succ j =>
    rw [k2 j c (by simpa using hj) hc]
    congr 1; omega
theorem all_in {f:Fn} (hd:DOk f) : ∀ v∈allL f.blocks,InR f.types.length v:=fun v hv=>by
 obtain ⟨b,hb,hv⟩:=bj.1 hv;rcases aG.1 hv with h | h
 ·exact hd.pars b hb v h
 ·obtain ⟨x,hx,h⟩:=bj.1 h;exact hd.outs b hb x hx v h
theorem homes_home {e:Env} {f:Fn} (h:check e f=true) : ∀ v∈allL f.blocks,(homesI f).getD v.toNat 0=homeOf f v:=by
 intro v hv;have hd:=check_dok h;obtain ⟨_,ds,hds,_,_⟩:=check_spec h;obtain ⟨hnd,_,hout⟩:=WX hds;obtain ⟨b,hb,hvb⟩:=bj.1 hv;obtain ⟨j,hj⟩:=aB.1 hb;have:=(hmAll_at (all_in hd v hv) f.blocks 0 (List.replicate f.types.length 0) (by simp) hd.pars hd.outs hnd).2 j b hj hvb;rw [homesI,this,bd];simp only [homeOf,hds,aS];rcases aG.1 hvb with hp | ho
 ·have:=qP hds j b hj v hp;rw [bd] at this;exact (congrArg Def.block this).symm
 ·obtain ⟨y,hy,hvy⟩:=bj.1 ho;obtain ⟨k,hk⟩:=aB.1 hy;exact (congrArg Def.block (hout j b hj k y hk v hvy)).symm
end Ss
namespace Ss
open Go.Vw.G
def moved (f:Fn) (p n i:Nat):Fn:=⟨f.sig,f.types,We f.blocks p n i⟩
noncomputable def licTo:Nat->Fn->Fn
 | 0,f=>f
 | k+1,f=>match first f.blocks (homeOf f) (lps f.blocks) with
  | none=>f
  | some m=>licTo k (moved f m.1 m.2.1 m.2.2)
noncomputable def wt (f:Fn):Nat:=weigh (rk (nats (succs f.blocks)) (order (nats (succs f.blocks)))) 0 f.blocks
noncomputable def licF (f:Fn):Fn:=licTo (wt f+1) f
end Ss
namespace Go.Vw
open Go.Proofs Go.RowKit
attribute [-simp] List.map_set
theorem opIndex_sl {s:Nat} {S:Store} {k:IntKind} {o off len n:Nat} {c} (h:S.get o=some c) (hn:n<len):jB s S (.slice o off len) (.int k (n:Int))=some (.ptr o (off+n*s)):=by
 simp [jB,h,hn]
def Store.push (S:Store) (o:Nat) (cs:List V) (x:V):Store:=((S.add (1,[x])).del o).add (1,cs++[x])
def Store.push0 (S:Store) (x:V):Store:=(S.add (1,[x])).add (1,[x])
section
variable {S:Store} {o:Nat} {cs:List V} {x:V}
theorem push_new:(S.push o cs x).get (S.nx+1)=some (1,cs++[x]):=by simp [Store.push,Store.add,Store.del]
theorem push0_new:(S.push0 x).get (S.nx+1)=some (1,[x]):=by simp [Store.push0,Store.add]
theorem push_old {o':Nat} (h:o'<S.nx) (hn:o'≠o):(S.push o cs x).get o'=S.get o':=by
 have e1 : ¬ o'=S.nx+1:=by omega
 have e2 : ¬ o'=S.nx:=by omega
 simp [Store.push,Store.add,Store.del,e1,e2,hn]
theorem push0_old {o':Nat} (h:o'<S.nx):(S.push0 x).get o'=S.get o':=by
 have e1 : ¬ o'=S.nx+1:=by omega
 have e2 : ¬ o'=S.nx:=by omega
 simp [Store.push0,Store.add,e1,e2]
theorem Agree.push {S0:Store} (h:Agree S0 S) (ho:S0.nx<=o):Agree S0 (S.push o cs x):=((h.add _).del ho).add _
theorem Agree.push0 {S0:Store} (h:Agree S0 S):Agree S0 (S.push0 x):=(h.add _).add _
theorem jcC {b len:Nat} (h:S.get o=some (1,cs)) (ho:o<S.nx) (hl:cs.length=len) (hb:(len+1)*b<=140737488355328) (hb1:len+1<=140737488355328) :
  jR 1 b (S.add (1,[x])) (.slice o 0 len) (.slice S.nx 0 1)=some (.slice (S.nx+1) 0 (len+1),S.push o cs x):=by
 have:o≠S.nx:=by omega
 subst hl;simp [jR,jO,Store.add,Store.push,this,h,hb,hb1,Store.del]
 rfl
theorem jbi {b:Nat} (hb:b<=140737488355328) :
  jR 1 b (S.add (1,[x])) .nils (.slice S.nx 0 1)=some (.slice (S.nx+1) 0 1,S.push0 x):=by
 simp [jR,jO,Store.add,Store.push0,hb]
end
namespace G
def DoneAt (S:Store) (b ow om:Nat) (dv:V) (done:List Nat):Prop :=
 (dv = .nils/\done=[]) \/ ∃ od,dv = .slice od 0 done.length/\S.get od=some (1,done.map vnat)/\od≠ow/\od≠om/\b<=od/\od<S.nx
def WAt (S:Store) (g:List (List Nat)) (b ow om:Nat) (s:WS):Prop :=
 s.1.length=g.length/\ow≠om/\b<=ow/\b<=om/\ow<S.nx/\om<S.nx/\S.get om=some (1,s.1.map V.bool) /\
 ∃ dv,S.get ow=some (3,[vl (vl vnat) g, .slice om 0 g.length,dv])/\DoneAt S b ow om dv s.2
end G
theorem get_upd (S:Store) (o:Nat) (c:Nat × List V):(S.upd o c).get o=some c:=by simp [Store.upd]
theorem KS (S:Store) {o o':Nat} (c:Nat × List V) (h:o'≠o):(S.upd o c).get o'=S.get o':=by simp [Store.upd,h]
theorem Walk_v (g:List (List Nat)) (hg:G.Ok g) (S0:Store) (ow om:Nat) : ∀ (f n:Nat) (s s':G.WS) (S:Store),n<g.length->G.walk g f n s=some s'->s'.2.length<=2^30->Agree S0 S->G.WAt S g S0.nx ow om s ->
  bU 78 [.ptr ow 0,vnat n] S (fun r S'=>r = .tuple []/\Agree S0 S'/\G.WAt S' g S0.nx ow om s')
 | 0,n,s,s',S,hn,hw,hb,hag,hW=>by cases hw
 | f+1,n,s,s',S,hn,hw,hb,hag,hW=>by
  rw [G.walk_succ] at hw;obtain ⟨h1,h2,h3,h4,l1,l2,h5,dv,h6,h7⟩:=hW;refine qD (c:=jc Tryz.f78) Tryz.func78 rfl rfl (by simp [Tryz.ntmps78]) ?_;rw [Tryz.ntmps78];have hn1:n<s.1.length:=by omega
  refine QT ?_;refine qg rfl (by conv=>lhs; reduce) (by conv=>lhs; simp [-jX, -jQ,h6,jD,jB,h5,hn,hn1]) ?_;refine QN ?_;have hag1:Agree S0 (S.upd om (1,(List.map V.bool s.1).set n (V.bool true))):=hag.upd h4 _;have hW1:G.WAt (S.upd om (1,(List.map V.bool s.1).set n (V.bool true))) g S0.nx ow om (s.1.set n true,s.2):=by
   refine ⟨by simpa using h1,h2,h3,h4,l1,l2,by rw [get_upd, <-List.map_set],dv,by rw [KS _ _ h2]; exact h6, ?_⟩;rcases h7 with h7 | ⟨od,k1,k2,k3,k4,k5,k6⟩
   ·exact .inl h7
   ·exact .inr ⟨od,k1,by rw [KS _ _ k4]; exact k2,k3,k4,k5,k6⟩
  generalize S.upd om (1,(List.map V.bool s.1).set n (V.bool true))=S1 at hag1 hW1 ⊢;have hgn:g.getD n []=g[n]:=by simp [hn]
  rw [hgn] at hw;obtain ⟨sk,hk,rfl⟩:=av.1 hw;refine QT ?_;refine qg rfl (by conv=>lhs; reduce) (by conv=>lhs; simp [-jX, -jQ]) ?_;refine QN ?_;refine QT ?_;refine jV 0 rfl rfl ?_;refine QT ?_;refine jd [0,1,4] rfl (fun c σ S' => ∃ (k:Nat) (t:G.WS),k<=g[n].length/\c=g[n].length-k/\G.kids g f (g[n].drop k) t=some sk/\Agree S0 S'/\G.WAt S' g S0.nx ow om t/\σ=[(0, .ptr ow 0),(1,vnat n),(4,vnat k)]) g[n].length ?_ ?_
  ·exact ⟨0,_,by omega,rfl,hk,hag1,hW1,by simp [Fr.only,Fr.look,vnat,vint]⟩
  ·rintro c σ S' ⟨k,t,hkl,rfl,hd,hag2,hW2,rfl⟩;obtain ⟨g1,g2,g3,g4,l3,l4,g5,du,g6,g7⟩:=hW2
   by_cases hk6:k<g[n].length
   ·have h7:(k:Int)<(g[n].length:Int):=by omega
    have hst:G.kids g f (g[n].drop k) t=if t.1.getD g[n][k] false then G.kids g f (g[n].drop (k+1)) t else (G.walk g f g[n][k] t).bind (G.kids g f (g[n].drop (k+1))):=by
     rw [am hk6,G.kids_cons]
    rw [hst] at hd;have hkn:g[n][k]<g.length:=hg.elt _ (ah hn) _ (ah hk6);have hkt:g[n][k]<t.1.length:=by omega
    have hr:=hg.row _ (ah hn);have hw1:IntKind.i64.wrap ((k:Int)+1)=(k:Int)+1:=wrap_i64 (by omega) (by omega);have hgd:t.1.getD g[n][k] false=t.1[g[n][k]]:=by simp [hkt]
    rw [hgd] at hd;refine QT ?_;refine qg rfl (by conv=>lhs; reduce) (by conv=>lhs; simp [-jX, -jQ,g6,jD,jW,jy,hn,h7]) ?_;refine QN ?_;refine QT ?_;refine jJ rfl rfl rfl ?_;refine QT ?_;refine jF rfl ?_;refine QT ?_;refine jV 1 rfl rfl ?_;have ix:=opIndex_sl (s:=1) (k := .i64) (off:=0) g5 hkn;refine QT ?_;refine Ko rfl (by kernel_rfl) (by conv=>lhs; reduce) (by conv=>lhs; reduce) (by kernel_rfl) (by conv=>lhs; simp [-jX, -jQ,g6,g5,jD,jW,ix,hn,hk6,hkt]) ?_;refine QN ?_
    cases hm:t.1[g[n][k]]
    ·rw [hm] at hd;obtain ⟨u,e1,e2⟩:=aN.1 hd;refine jJ rfl rfl (by simp [ev,Fr.look,hm]) ?_;refine QT ?_;refine qg rfl (by conv=>lhs; reduce) (by conv=>lhs; simp [-jX, -jQ,g6,jD,jW,hn,hk6]) ?_;refine jK rfl (Walk_v g hg S0 ow om f g[n][k] t u S' hkn e1 ?_ hag2 ⟨g1,g2,g3,g4,l3,l4,g5,du,g6,g7⟩) ?_
     ·have:=(G.kids_len (G.walk_len g f) _ _ _ e2).1;simp at hb; omega
     ·rintro X S2 ⟨rfl,hag3,hW3⟩;refine Wz (by conv=>lhs; simp [-jX, -jQ]) ?_;refine QN ?_;refine QT ?_;refine qg rfl (by conv=>lhs; reduce) (by conv=>lhs; simp [-jX, -jQ,hw1]) ?_;refine QN ?_;exact again ⟨ao (by omega) (aY k),k+1,u,by omega,rfl,e2,hag3,hW3,by simp [Fr.only,Fr.look,vnat,vint]⟩
    ·rw [hm] at hd;refine jG rfl rfl (by simp [ev,Fr.look,hm]) ?_;refine QT ?_;refine jF rfl ?_;refine QT ?_;refine qg rfl (by conv=>lhs; reduce) (by conv=>lhs; simp [-jX, -jQ,hw1]) ?_;refine QN ?_;exact again ⟨ao (by omega) (aY k),k+1,t,by omega,rfl,hd,hag2,⟨g1,g2,g3,g4,l3,l4,g5,du,g6,g7⟩,by simp [Fr.only,Fr.look,vnat,vint]⟩
   ·have h7 : ¬ (k:Int)<(g[n].length:Int):=by omega
    refine QT ?_;refine qg rfl (by conv=>lhs; reduce) (by conv=>lhs; simp [-jX, -jQ,g6,jD,jW,jy,hn,h7]) ?_;refine QN ?_;refine QT ?_;refine jG rfl rfl rfl ?_;refine QT ?_;refine qb 0 rfl rfl ?_;have hz:g[n].drop k=[]:=by rw [aH]; omega
    rw [hz,G.kids_nil] at hd
    cases hd
    rcases g7 with ⟨rfl,hnil⟩ | ⟨od,rfl,k2,k3,k4,k5,k6⟩
    ·have ap:=jbi (S:=S') (x := .int .i64 (n:Int)) (b:=8) (by omega);have gp:(S'.push0 (.int .i64 (n:Int))).get ow=some (3,[vl (vl vnat) g,V.slice om 0 g.length,V.nils]):=(push0_old l3).trans g6;refine QT ?_;refine qg rfl (by conv=>lhs; reduce) (by conv=>lhs; simp [-jX, -jQ,g6,jD,qj,rep0,jS,ap,gp]) ?_;refine QN ?_;refine ⟨rfl,hag2.push0.upd g3 _,g1,g2,g3,g4,Nat.lt_add_right 2 l3,Nat.lt_add_right 2 l4, ?_,_,get_upd _ _ _, .inr ⟨S'.nx+1, ?_, ?_, ?_, ?_, ?_, ?_⟩⟩
     ·rw [KS _ _ (Ne.symm g2),push0_old l4]; exact g5
     ·simp [hnil]
     ·rw [KS _ _ (by omega),push0_new]; simp [hnil,vnat]
     ·omega
     ·omega
     ·omega
     ·show S'.nx+1<S'.nx+2; omega
    ·have hb2:sk.2.length+1<=2^30:=by simpa using hb
     have ap:=jcC (S:=S') (x := .int .i64 (n:Int)) (b:=8) k2 k6 (by simp:_=sk.2.length) (by omega) (by omega);have gp:(S'.push od (List.map vnat sk.2) (.int .i64 (n:Int))).get ow=some (3,[vl (vl vnat) g,V.slice om 0 g.length,V.slice od 0 sk.2.length]):=(push_old l3 (Ne.symm k3)).trans g6;refine QT ?_;refine qg rfl (by conv=>lhs; reduce) (by conv=>lhs; simp [-jX, -jQ,g6,jD,qj,rep0,jS,ap,gp]) ?_;refine QN ?_;refine ⟨rfl,(hag2.push k5).upd g3 _,g1,g2,g3,g4,Nat.lt_add_right 2 l3,Nat.lt_add_right 2 l4, ?_,_,get_upd _ _ _, .inr ⟨S'.nx+1, ?_, ?_, ?_, ?_, ?_, ?_⟩⟩
     ·rw [KS _ _ (Ne.symm g2),push_old l4 (Ne.symm k4)]; exact g5
     ·simp
     ·rw [KS _ _ (by omega),push_new]; simp [vnat]
     ·omega
     ·omega
     ·omega
     ·show S'.nx+1<S'.nx+2; omega
end Go.Vw
namespace Go.Vw
open Go.Proofs Go.RowKit
attribute [-simp] List.map_set
theorem jbc (g:List (List Nat)) (hg:G.Ok g) (a:Option Nat) (ha : ∀ n,a=some n->n<g.length):bS 44 [vl (vl vnat) g,vint (a.elim (-1) Int.ofNat)] (vl V.bool (G.without g a)):=by
 intro S;refine QB (c:=jc Tryz.f44) Tryz.func44 Tryz.ntmps44 fun hwf=>?_
 have hm256:=hg.max;have hp:0<g.length:=hg.pos;have hb1:g.length*1<=140737488355328:=by omega
 have hb0:g.length<=140737488355328:=by omega
 have wat : ∀ m:List Bool,m.length=g.length->G.WAt (St S [] [some (1,m.map V.bool),some (3,[vl (vl vnat) g, .slice (lid S.nx 0) 0 g.length, .nils])]) g S.nx (lid S.nx 1) (lid S.nx 0) (m,[]):=by
  intro m hm;refine ⟨hm,by simp [lid],by simp [lid],by simp [lid],by rw [jL]; simp [lid],by rw [jL]; simp [lid],by simp [jv], .nils,by simp [jv], .inl ⟨rfl,rfl⟩⟩
 cases a with
 | none =>
  obtain ⟨t,w1,w2,w3,w4⟩:=G.metFrom_ends hg (m:=List.replicate g.length false) (by simp) (G.rep_getD _ _);have hX:G.without g none=t.1:=w2;have e1:(-1:Int) = -1:=rfl;simp only [Option.elim];have hrep:List.replicate g.length (V.bool false)=(List.replicate g.length false).map V.bool:=by simp
  refine bt hb1 hb0 ?_
  refine QP ?_;refine jK rfl (Walk_v g hg S (lid S.nx 1) (lid S.nx 0) g.length 0 _ t _ hp w1 (by omega) zI (by rw [hrep]; exact wat _ (by simp))) ?_;rintro X T ⟨rfl,hag,hW⟩;have hom:=hW.2.2.2.2.2.2.1;obtain ⟨dv,how,_⟩:=hW.2.2.2.2.2.2.2;have hol:=hW.2.2.2.2.2.1;refine QW ?_
  refine bx how ?_
  have hfr:=Ghost.freeze1 (len:=g.length) hom (by simp [V.closed1]) (by simp [w4]);rw [hX];exact qy hwf (hfr.toB _) (hag.del (by simp [lid])) rfl
 | some a =>
  have hal:=ha a rfl;simp only [Option.elim];have hrep:List.replicate g.length (V.bool false)=(List.replicate g.length false).map V.bool:=by simp
  by_cases h0:a=0
  ·subst h0;have hX:G.without g (some 0)=List.replicate g.length false:=by simp [G.without]
   refine bv hb1 hb0 hal ?_
   have hfr:=frz1 (B:=S) (u:=[]) (l:=[some (1,(List.replicate g.length false).map V.bool),some (3,[vl (vl vnat) g,V.slice (lid S.nx 0) 0 g.length,V.nils])]) (k:=0) (len:=g.length) (cells:=(List.replicate g.length false).map V.bool) (by simp) rfl (by simp [V.closed1]) (by simp);rw [hX];rw [hrep];exact jf hwf (hfr.toB _) rfl
  ·have hz:((List.replicate g.length false).set a true).getD 0 false=false:=by rw [G.getD_set_other h0]; exact G.rep_getD _ _
   obtain ⟨t,w1,w2,w3,w4⟩:=G.metFrom_ends hg (m:=(List.replicate g.length false).set a true) (by simp) hz;have hX:G.without g (some a)=t.1.set a false:=by simp [G.without,h0,w2]
   have ha0 : ¬ (a:Int)=0:=by omega
   have hat:a<t.1.length:=by omega
   refine bJ hb1 hb0 hal ha0 h0 ?_
   refine QP ?_;refine jK rfl (Walk_v g hg S (lid S.nx 1) (lid S.nx 0) g.length 0 _ t _ hp w1 (by omega) zI (by rw [hrep, <-List.map_set]; exact wat _ (by simp))) ?_;rintro X T ⟨rfl,hag,hW⟩;have hom:=hW.2.2.2.2.2.2.1;obtain ⟨dv,how,_⟩:=hW.2.2.2.2.2.2.2;have hol:=hW.2.2.2.2.2.1;refine QW ?_;have hne : ¬ lid S.nx 1=lid S.nx 0:=by simp [lid]
   repeat first|refine QG ?_|refine QY ?_ (r:=by conv=>lhs;simp[QV,how,hom,hal,hat,qH,zY,hne])
   have hfr:=Ghost.freeze1 (S:=T.upd (lid S.nx 0) (1,(t.1.set a false).map V.bool)) (o:=lid S.nx 0) (cells:=(t.1.set a false).map V.bool) (len:=g.length) zY (jq V.bool (fun _=>rfl) _) (by simp [w4]);rw [hX];exact qy hwf (hfr.toB _) ((hag.upd (by simp [lid]) _).del (by simp [lid])) rfl
end Go.Vw
