import Derived.Test.YtcpncecdegmliaaGreatC30
/- Part of the proof. -/
set_option linter.unusedVariables false
set_option linter.unusedSimpArgs false
set_option maxRecDepth 10000
set_option maxHeartbeats 8000000
namespace Go.Vw
open Go.Proofs Go.RowKit
attribute [-simp] List.map_set
theorem jcu (l m:List Int) (hl:l.length<2^63):VPure Tryz.prog 30 [vl vint l,vl vint m] (.bool (decide (l=m))):=by
 intro S;rw [←eqF_dec];generalize hp:(fun x y:Int=>decide (x=y))=p
 by_cases hlm:l.length=m.length
 ·have hlm':(l.length:Int)=(m.length:Int):=by omega
  refine QB (c:=jc Tryz.f30) Tryz.func30 Tryz.ntmps30 fun hwf=>?_
  repeat first|refine QG ?_|refine QY ?_ (r:=by conv=>lhs;simp[QV,hlm,hlm'])
  refine QT ?_;refine jd [0,1,5] rfl (fun c σ S' => ∃ (k:Nat),k≤l.length∧c=l.length-k∧eqF p (l.drop k) (m.drop k)=eqF p l m∧σ=[(0,vl vint l),(1,vl vint m),(5,vnat k)]∧S'=St S [] []) l.length ?_ ?_
  ·exact ⟨0,by omega,rfl,rfl,by simp [Fr.only],rfl⟩
  ·rintro c σ T ⟨k,hk,rfl,hd,rfl,rfl⟩
   by_cases hkt:k<l.length
   ·have hkm:k<m.length:=by omega
    have hw:=jh hkt hl;have hst:eqF p (l.drop k) (m.drop k)=(p l[k] m[k]&&eqF p (l.drop (k+1)) (m.drop (k+1))):=by rw [List.drop_eq_getElem_cons hkt,List.drop_eq_getElem_cons hkm,eqF]
    obtain ⟨x,hx⟩ : ∃ x,l[k]=x:=⟨_,rfl⟩
    obtain ⟨y,hy⟩ : ∃ y,m[k]=y:=⟨_,rfl⟩
    rw [hx,hy] at hst
    by_cases hxy:x=y
    ·rw [show p x y=true by rw [←hp]; simp [hxy]] at hst
     repeat first|refine QG ?_|refine QY ?_ (r:=by conv=>lhs;simp[QV,hkt,hkm,hx,hy,hxy])
     show jy _ _ _ _ _ _ _;exact again ⟨Nat.sub_lt_sub_left hkt (Nat.lt_succ_self k),k+1,hkt,rfl,by rw [←hd,hst]; rfl,by simp [Fr.only,hw],rfl⟩
    ·rw [show p x y=false by rw [←hp]; simp [hxy]] at hst
     repeat first|refine QG ?_|refine QY ?_ (r:=by conv=>lhs;simp[QV,hkt,hkm,hx,hy,hxy])
     exact ja hwf (by rw [←hd,hst]; rfl) rfl
   ·have e:l.drop k=[]:=by rw [List.drop_eq_nil_iff]; omega
    have e':m.drop k=[]:=by rw [List.drop_eq_nil_iff]; omega
    rw [e,e'] at hd;have hkm : ¬ k<m.length:=by omega
    repeat first|refine QG ?_|refine QY ?_ (r:=by conv=>lhs;simp[QV,hkt,hkm])
    exact ja hwf (by rw [←hd]; rfl) rfl
 ·have hlm' : ¬ (l.length:Int)=(m.length:Int):=by omega
  have e:eqF p l m=false:=eqF_len hlm;rw [e];refine QB (c:=jc Tryz.f30) Tryz.func30 Tryz.ntmps30 fun hwf=>?_
  repeat first|refine QG ?_|refine QY ?_ (r:=by conv=>lhs;simp[QV,hlm,hlm'])
  exact ja hwf rfl rfl
theorem SameSig_v (a b:Ss.Sig) (h1:a.inn.length<2^63) (h2:a.out.length<2^63):VPure Tryz.prog 29 [jl a,jl b] (.bool (decide (a=b))):=by
 intro S;obtain ⟨a1,a2⟩:=a;obtain ⟨b1,b2⟩:=b;simp only [Ss.Sig.mk.injEq] at *
 refine QB (c:=jc Tryz.f29) Tryz.func29 Tryz.ntmps29 fun hwf=>?_
 repeat first|refine QG ?_|refine QY ?_
 refine QT ?_;refine QP ?_;refine jb rfl (jcu a1 b1 h1) ?_
 by_cases h:a1=b1
 ·refine QM (by conv=>lhs;simp[QV,h]) ?_;refine jb rfl (jcu a2 b2 h2) ?_;refine QW ?_
  repeat first|refine QG ?_|refine QY ?_
  exact ja hwf (by simp [h]) rfl
 ·refine QM (by conv=>lhs;simp[QV,h]) ?_;refine QN ?_
  repeat first|refine QG ?_|refine QY ?_
  exact ja hwf (by simp [h]) rfl
end Go.Vw
namespace Ss
end Ss
namespace Go.Vw
open Go.Proofs Go.RowKit
theorem fn_ghostD {S:Store} {fi fo ts:List Int} {bs:List Ss.Block} {cells:List V} {ot ob n m:Nat} {ids:List Nat} (h:OwL S (reps n blkD) cells (js je bs) ids) (hb:S.get ob=some (6,cells)) (hn:bs.length=n) (ht:S.get ot=some (1,ts.map vint)) (hm:ts.length=m) (hd:(ot::ob::ids).Nodup) :
  Ghost (.agg [vl vint fi,vl vint fo, .slice ot 0 m, .slice ob 0 n]) S (.agg [vl vint fi,vl vint fo,vl vint ts,vl je bs]) (S.dels (ot::ob::ids)):=by
 subst hn;subst hm;refine Ja ?_;have hw:OwL S [.c, .c, .s (List.replicate 1 .c), .s blkD] [vl vint fi,vl vint fo, .slice ot 0 ts.length, .slice ob 0 bs.length] [vl vint fi,vl vint fo,vl vint ts,vl je bs] (ot::ob::ids):=by
  refine .c rfl (.c rfl (OwL.slice (enc:=vint) (fun _=>rfl) (fun _=>rfl) ts (by rw [qp]; exact ht) ?_));have:=OwL.s (S:=S) (o:=ob) (tys:=blkD) (cells:=cells) (ys:=bs.map je) (i:=ids) (j:=[]) hb (fun y hy=>(by
   obtain ⟨b,_,rfl⟩:=List.mem_map.1 hy;exact ⟨by rw [zf]; rfl,jal b⟩)) (by rw [List.length_map,zr]; exact h) .nil
  rw [List.length_map,List.append_nil] at this;exact this
 exact hw.freeze hd S fun _ _=>rfl
end Go.Vw
namespace Ss
def emptyFn:Fn:=⟨⟨[],[]⟩,[],[]⟩
noncomputable def bceF (f:Fn):Fn:=pbce (Go.Vw.G.rNear (Go.Vw.G.nats (succs f.blocks))) (Go.Vw.G.order (Go.Vw.G.nats (succs f.blocks))) f
noncomputable def bceOut (e:Env) (f:Fn):Fn × Int:=if check e f then (bceF f,0) else (emptyFn,6)
theorem bceOut_t {e:Env} {f:Fn} (h:check e f=true):bceOut e f=(bceF f,0):=by simp [bceOut,h]
theorem bceOut_f {e:Env} {f:Fn} (h:check e f=false):bceOut e f=(emptyFn,6):=by simp [bceOut,h]
end Ss
namespace Go.Vw
open Go.Proofs Go.RowKit
attribute [-simp] List.map_set
theorem empty_ghost (S:Store):Ghost (.agg [.nils, .nils, .nils, .nils]) S (jJ Ss.emptyFn) S:=by
 refine Ghost.agg_nl rfl fun i x y hx hy => ?_
 match i,hx,hy with
 | 0,hx,hy=>cases hx; cases hy; exact .inr ⟨rfl,rfl⟩
 | 1,hx,hy=>cases hx; cases hy; exact .inr ⟨rfl,rfl⟩
 | 2,hx,hy=>cases hx; cases hy; exact .inr ⟨rfl,rfl⟩
 | 3,hx,hy=>cases hx; cases hy; exact .inr ⟨rfl,rfl⟩
theorem BceRunErr_v (e:Ss.Env) (f:Ss.Fn) (he:e.Fits) (hf:f.Fits) (hc:Ss.check e f=false):VPure Tryz.prog 6 [qM e,jJ f] (.tuple [jJ Ss.emptyFn,vint 6]):=by
 intro S;have cck:=Check_v e f he hf;generalize Ss.check e f=ck at *
 obtain ⟨⟨fi,fo⟩,ts,bs⟩:=f;obtain ⟨sg,im,gl,mu,me⟩:=e;have cck':VPure Tryz.prog 16 [.agg [vl jl sg,vint im,vl vint gl,vl V.bool mu, .bool me], .agg [vl vint fi,vl vint fo,vl vint ts,vl je bs]] (.bool ck):=cck;refine qq (c:=jc Tryz.f6) Tryz.func6 rfl (by conv=>lhs; reduce) (by simp [Tryz.ntmps6]) ?_;rw [Tryz.ntmps6];intro hwf;refine QT ?_;refine QY ?_;refine QH 2 0 ?_;refine QH 3 1 ?_;refine QO [2,3,4,5] ?_;refine QK [2] ?_;refine QT ?_;refine QP ?_;refine QL (cck') ?_;refine QM (by conv=>lhs;simp[QV,hc]) ?_;refine QN ?_
 repeat first|refine QG ?_|refine QY ?_ (r:=by conv=>lhs;simp[QV,hc])
 refine Wx (xs:=[.agg [.nils, .nils, .nils, .nils], .int .i64 6]) (by simp) ?_;exact qA hwf ((Ghost.tuple [] [_] (empty_ghost _)).toB _) zu (by rfl)
theorem BceP_v (e:Ss.Env) (f:Ss.Fn) (he:e.Fits) (hf:f.Fits):VPure Tryz.prog 6 [qM e,jJ f] (.tuple [jJ (Ss.bceOut e f).1,vint (Ss.bceOut e f).2]):=by
 cases hc:Ss.check e f with
 | false=>rw [Ss.bceOut_f hc]; exact BceRunErr_v e f he hf hc
 | true =>
  rw [Ss.bceOut_t hc];intro S;refine Js fun hwf=>qV ((BceRun_v S e f he hf hc).mono ?_)
  rintro r T ⟨r',rfl,hag,hwT,ot,ob,cells,ids,rfl,hot,hob,how,hnd,hids⟩;have hg:=fn_ghostD (fi:=f.sig.inn) (fo:=f.sig.out) how hob rfl hot rfl hnd;have hfin:Agree S (T.dels (ot::ob::ids)):=by
   refine ⟨by rw [jck]; exact hag.1,fun o ho => ?_⟩;rw [Yh,if_neg]
   ·exact hag.2 o ho
   ·intro hm;have:=(hids o hm).1; omega
  exact qA hwf ((Ghost.tuple [] [_] hg).toB _) hfin (by simp [jJ])
end Go.Vw
namespace Ss
structure ThinB (b c:Block):Prop where
 params:c.params=b.params
 term:c.term=b.term
 sub:c.code.Sublist b.code
 keep:c.code.filter (fun x=>decide (x.op≠257))=b.code.filter fun x=>decide (x.op≠257)
theorem ThinB.refl (b:Block):ThinB b b:=⟨rfl,rfl,List.Sublist.refl _,rfl⟩
theorem ThinB.trans {a b c:Block} (h:ThinB a b) (k:ThinB b c):ThinB a c:=⟨k.params.trans h.params,k.term.trans h.term,k.sub.trans h.sub,k.keep.trans h.keep⟩
def ThinL (l m:List Block):Prop:=m.length=l.length ∧ ∀ (i:Nat) (b c:Block),l[i]? = some b→m[i]? = some c→ThinB b c
theorem ThinL.refl (l:List Block):ThinL l l:=⟨rfl,fun i b c h1 h2=>by rw [h1] at h2; cases h2; exact .refl b⟩
theorem ThinL.trans {l m n:List Block} (h:ThinL l m) (k:ThinL m n):ThinL l n:=by
 refine ⟨k.1.trans h.1,fun i b c h1 h2 => ?_⟩;have hi:i<m.length:=by rw [h.1]; exact (List.getElem?_eq_some_iff.1 h1).1
 exact (h.2 i b m[i] h1 (List.getElem?_eq_getElem hi)).trans (k.2 i m[i] c (List.getElem?_eq_getElem hi) h2)
theorem jbh (near:List Int) (n:Int) : ∀ (code:List Ins) (M:Far),(pcode near n M code).1.Sublist code∧(pcode near n M code).1.filter (fun x=>decide (x.op≠257))=code.filter fun x=>decide (x.op≠257)
 | [],M=>⟨List.Sublist.refl _,rfl⟩
 | x::r,M=>by
  obtain ⟨h1,h2⟩:=jbh near n r (pnext near n M x);rw [pcode]
  by_cases hp:pcov near n M x=true
  ·rw [if_pos hp];have ho:x.op=257:=by
    unfold pcov at hp;simp only [Bool.and_eq_true,decide_eq_true_eq] at hp;exact hp.1
   exact ⟨.cons _ h1,by rw [h2,List.filter_cons_of_neg (by simp [ho])]⟩
  ·rw [if_neg hp];refine ⟨.cons_cons _ h1, ?_⟩
   by_cases ho:x.op=257
   ·rw [List.filter_cons_of_neg (by simp [ho]),List.filter_cons_of_neg (by simp [ho]),h2]
   ·rw [List.filter_cons_of_pos (by simp [ho]),List.filter_cons_of_pos (by simp [ho]),h2]
theorem pstep_thin (near:List Int) (bs:List Block) (M:Far) (n:Nat):ThinL bs (pstep near (bs,M) n).1:=by
 refine ⟨by simp [pstep],fun i b c h1 h2 => ?_⟩;simp only [pstep] at h2
 by_cases e:n=i
 ·subst e;have hn:n<bs.length:=(List.getElem?_eq_some_iff.1 h1).1;rw [List.getElem?_set_self hn] at h2;have hgd:bs.getD n default=b:=by rw [List.getD_eq_getElem?_getD,h1]; rfl
  cases h2
  rw [hgd];obtain ⟨k1,k2⟩:=jbh near n b.code M;exact ⟨rfl,rfl,k1,k2⟩
 ·rw [List.getElem?_set_ne e] at h2;rw [h1] at h2; cases h2; exact .refl b
theorem fold_thin (near:List Int) : ∀ (order:List Nat) (bs:List Block) (M:Far),ThinL bs (order.foldl (pstep near) (bs,M)).1
 | [],bs,M => .refl bs
 | n::r,bs,M=>by
  rw [List.foldl_cons];exact (pstep_thin near bs M n).trans (fold_thin near r _ _)
theorem jax (f:Fn):ThinL f.blocks (bceF f).blocks:=fold_thin _ _ _ _
theorem ThinL.fits {l m:List Block} (h:ThinL l m) (hl : ∀ b∈l,b.Fits) : ∀ c∈m,c.Fits:=by
 intro c hc;obtain ⟨i,hi⟩:=List.mem_iff_getElem?.1 hc;have hil:i<l.length:=by rw [←h.1]; exact (List.getElem?_eq_some_iff.1 hi).1
 obtain ⟨h1,h2,h3,h4⟩:=h.2 i l[i] c (List.getElem?_eq_getElem hil) hi;obtain ⟨k1,⟨k2,k3⟩,k4⟩:=hl _ (List.getElem_mem hil);exact ⟨by rw [h1]; exact k1,⟨Nat.le_trans h3.length_le k2,fun x hx=>k3 x (h3.subset hx)⟩,by rw [h2]; exact k4⟩
theorem bceF_fits {f:Fn} (h:f.Fits):(bceF f).Fits:=by
 obtain ⟨h1,h2,h3,h4⟩:=h;exact ⟨h1,h2,by rw [(jax f).1]; exact h3,(jax f).fits h4⟩
theorem ThinL.count : ∀ {l m:List Block},ThinL l m→count m≤count l
 | [],m,h=>by
  have:m=[]:=List.eq_nil_of_length_eq_zero h.1;subst this; exact Nat.le_refl _
 | b::l,[],h=>by simp [Ss.count]
 | b::l,c::m,h=>by
  have h1:=(h.2 0 b c rfl rfl).sub.length_le;have h2:ThinL l m:=⟨by have:=h.1; simpa using this,fun i x y hx hy=>h.2 (i+1) x y (by simpa using hx) (by simpa using hy)⟩
  have:=ThinL.count h2;simp only [Ss.count,List.map_cons,List.sum_cons] at this ⊢;omega
theorem ThinL.small {f g:Fn} (h:ThinL f.blocks g.blocks) (hs:g.sig=f.sig) (ht:g.types=f.types) (k:f.small=true):g.small=true:=by
 obtain ⟨k1,k2,k3⟩:=(small_iff f).1 k;refine (small_iff g).2 ⟨?_,fun c hc => ?_,Nat.le_trans h.count k3⟩
 ·simp only [Fn.heads,hs,ht,h.1] at k1 ⊢; exact k1
 ·obtain ⟨i,hi⟩:=List.mem_iff_getElem?.1 hc;have hil:i<f.blocks.length:=by rw [←h.1]; exact (List.getElem?_eq_some_iff.1 hi).1
  obtain ⟨h1,h2,h3,h4⟩:=h.2 i f.blocks[i] c (List.getElem?_eq_getElem hil) hi;have hb:=k2 _ (List.getElem_mem hil);simp only [Block.small,Bool.and_eq_true,h1,h2] at hb ⊢;obtain ⟨⟨⟨⟨a1,a2⟩,a3⟩,a4⟩,a5⟩:=hb;exact ⟨⟨⟨⟨a1,a2⟩,a3⟩,List.all_eq_true.2 fun x hx=>List.all_eq_true.1 a4 x (h3.subset hx)⟩,a5⟩
inductive Drop:List Ins→List Ins→Prop
 | nil:Drop [] []
 | keep (x:Ins) {l m:List Ins} (h:Drop l m):Drop (x::l) (x::m)
 | drop (x:Ins) {l m:List Ins} (o:x.op=257) (h:Drop l m):Drop (x::l) m
theorem WV (near:List Int) (n:Int) : ∀ (code:List Ins) (M:Far),Drop code (pcode near n M code).1
 | [],M => .nil
 | x::r,M=>by
  rw [pcode]
  by_cases hp:pcov near n M x=true
  ·rw [if_pos hp];have ho:x.op=257:=by
    unfold pcov at hp;simp only [Bool.and_eq_true,decide_eq_true_eq] at hp;exact hp.1
   exact .drop x ho (WV near n r _)
  ·rw [if_neg hp]; exact .keep x (WV near n r _)
theorem Drop.refl : ∀ l:List Ins,Drop l l
 | [] => .nil
 | x::l => .keep x (Drop.refl l)
theorem Drop.trans {a b c:List Ins} (h:Drop a b):Drop b c→Drop a c:=by
 induction h generalizing c with
 | nil=>exact fun k=>k
 | keep x h ih =>
  intro k
  cases k with
  | keep _ k=>exact .keep x (ih k)
  | drop _ o k=>exact .drop x o (ih k)
 | drop x o h ih=>exact fun k => .drop x o (ih k)
theorem Drop.pos {l m:List Ins} (h:Drop l m) : ∃ φ:Nat→Nat,(∀ k k',k≤k'→φ k≤φ k')∧(∀ k x,l[k]? = some x→x.op≠257→m[φ k]? = some x ∧ ∀ k',k<k'→φ k<φ k')∧(∀ j y,m[j]? = some y → ∃ k,l[k]? = some y∧φ k=j)∧φ l.length=m.length:=by
 induction h with
 | nil=>exact ⟨fun _=>0,fun _ _ _=>Nat.le_refl _,by simp,by simp,rfl⟩
 | @keep x l m h ih =>
  obtain ⟨φ,h1,h2,h3,h4⟩:=ih;refine ⟨fun k=>match k with | 0=>0 | k+1=>φ k+1,fun k k' hk => ?_,fun k y hk ho => ?_,fun j y hj => ?_,by simp [h4]⟩
  ·cases k with
   | zero=>simp
   | succ k=>cases k' with
    | zero=>omega
    | succ k'=>have:=h1 k k' (by omega); simp only; omega
  ·cases k with
   | zero=>exact ⟨by simpa using hk,fun k' hk'=>by cases k' with | zero=>omega | succ k'=>simp⟩
   | succ k =>
    obtain ⟨g1,g2⟩:=h2 k y (by simpa using hk) ho;exact ⟨by simpa using g1,fun k' hk'=>by cases k' with | zero=>omega | succ k'=>have:=g2 k' (by omega); simp only; omega⟩
  ·cases j with
   | zero=>exact ⟨0,by simpa using hj,rfl⟩
   | succ j =>
    obtain ⟨k,e1,e2⟩:=h3 j y (by simpa using hj);exact ⟨k+1,by simpa using e1,by simp [e2]⟩
 | @drop x l m o h ih =>
  obtain ⟨φ,h1,h2,h3,h4⟩:=ih;refine ⟨fun k=>match k with | 0=>0 | k+1=>φ k,fun k k' hk => ?_,fun k y hk ho => ?_,fun j y hj => ?_,by simp [h4]⟩
  ·cases k with
   | zero=>simp
   | succ k=>cases k' with
    | zero=>omega
    | succ k'=>exact h1 k k' (by omega)
  ·cases k with
   | zero =>
    simp only [List.getElem?_cons_zero,Option.some.injEq] at hk;subst hk; exact absurd o ho
   | succ k =>
    obtain ⟨g1,g2⟩:=h2 k y (by simpa using hk) ho;exact ⟨g1,fun k' hk'=>by cases k' with | zero=>omega | succ k'=>exact g2 k' (by omega)⟩
  ·obtain ⟨k,e1,e2⟩:=h3 j y hj;exact ⟨k+1,by simpa using e1,e2⟩
theorem Drop.outs {l m:List Ins} (h:Drop l m) (ho : ∀ x∈l,x.op=257→x.outs=[]):Ju m=Ju l:=by
 induction h with
 | nil=>rfl
 | @keep x l m h ih=>simp only [Ju,List.flatMap_cons] at ih ⊢; rw [ih fun y hy=>ho y (by simp [hy])]
 | @drop x l m o h ih =>
  simp only [Ju,List.flatMap_cons] at ih ⊢;rw [ih fun y hy=>ho y (by simp [hy]),ho x (by simp) o,List.nil_append]
theorem Drop.tick {l m:List Ins} (h:Drop l m):(m.any fun x=>decide (x.op=258))=l.any fun x=>decide (x.op=258):=by
 induction h with
 | nil=>rfl
 | keep x h ih=>simp only [List.any_cons,ih]
 | drop x o h ih=>simp only [List.any_cons,ih,o]; simp
theorem put_mk {block pos:Int} : ∀ {l:List Int} {ds:List Def},(∀ v∈l,0≤v∧v<ds.length)→l.Nodup→(∀ v∈l,(dAt ds v).made=false) → ∃ d,put block pos ds l=some d
 | [],ds,_,_,_=>⟨ds,rfl⟩
 | v::l,ds,h1,h2,h3=>by
  obtain ⟨a1,a2⟩:=h1 v (by simp);obtain ⟨n1,n2⟩:=List.nodup_cons.1 h2;have hm:=h3 v (by simp);have hm':(ds.getD v.toNat default).made=false:=hm;simp only [put];rw [if_neg (by rw [hm']; simp; omega)];refine put_mk (fun w hw=>by rw [List.length_set]; exact h1 w (by simp [hw])) n2 fun w hw => ?_
  have hne:w≠v:=fun e=>n1 (e▸hw)
  rw [jcm a1 a2 (h1 w (by simp [hw])).1,if_neg hne];exact h3 w (by simp [hw])
theorem jbg {i:Int} : ∀ {l:List Ins} {k:Nat} {ds:List Def},(∀ v∈Ju l,0≤v∧v<ds.length)→(Ju l).Nodup→(∀ v∈Ju l,(dAt ds v).made=false) → ∃ d,putCode i k ds l=some d
 | [],k,ds,_,_,_=>⟨ds,rfl⟩
 | x::l,k,ds,h1,h2,h3=>by
  have e:Ju (x::l)=x.outs++Ju l:=rfl;rw [e] at h1 h2 h3;obtain ⟨n1,n2,n3⟩:=List.nodup_append.1 h2;obtain ⟨d,hd⟩:=put_mk (block:=i) (pos:=k) (fun v hv=>h1 v (by simp [hv])) n1 (fun v hv=>h3 v (by simp [hv]));have hp:=(Ks hd).1;obtain ⟨d',hd'⟩:=jbg (i:=i) (k:=k+1) (l:=l) (ds:=d) (fun v hv=>by rw [WR hd]; exact h1 v (by simp [hv])) n2 (fun v hv=>by
   rw [hp.keep v (h1 v (by simp [hv])).1 (fun hm=>n3 v hm v hv rfl)]; exact h3 v (by simp [hv]))
  exact ⟨d',by rw [putCode,hd]; exact hd'⟩
theorem Yx : ∀ {l:List Block} {i:Nat} {ds:List Def},(∀ v∈allL l,0≤v∧v<ds.length)→(allL l).Nodup→(∀ v∈allL l,(dAt ds v).made=false) → ∃ d,putBlocks i ds l=some d
 | [],i,ds,_,_,_=>⟨ds,rfl⟩
 | b::l,i,ds,h1,h2,h3=>by
  have e:allL (b::l)=(b.params++Ju b.code)++allL l:=rfl;rw [e] at h1 h2 h3;obtain ⟨n0,n2,n3⟩:=List.nodup_append.1 h2;obtain ⟨n1,n4,n5⟩:=List.nodup_append.1 n0;obtain ⟨d,hd⟩:=put_mk (block:=i) (pos := -1) (fun v hv=>h1 v (by simp [hv])) n1 (fun v hv=>h3 v (by simp [hv]));have hp:=(Ks hd).1;obtain ⟨d1,hd1⟩:=jbg (i:=i) (k:=0) (l:=b.code) (ds:=d) (fun v hv=>by rw [WR hd]; exact h1 v (by simp [hv])) n4 (fun v hv=>by
   rw [hp.keep v (h1 v (by simp [hv])).1 (fun hm=>n5 v hm v hv rfl)]; exact h3 v (by simp [hv]))
  have hp1:=(Jf hd1).1;obtain ⟨d2,hd2⟩:=Yx (i:=i+1) (l:=l) (ds:=d1) (fun v hv=>by rw [putCode_len' hd1,WR hd]; exact h1 v (by simp [hv])) n2 (fun v hv=>by
   have h0:=(h1 v (by simp [hv])).1;rw [hp1.keep v h0 (fun hm=>n3 v (by simp [hm]) v hv rfl),hp.keep v h0 (fun hm=>n3 v (by simp [hm]) v hv rfl)]; exact h3 v (by simp [hv]))
  exact ⟨d2,by rw [putBlocks,hd]; simp only [Option.bind_some]; rw [hd1]; exact hd2⟩
theorem YH {e:Env} {f:Fn} {ds:List Def} {near:List Int} {i:Int} : ∀ {l:List Ins} {k:Nat},(∀ (j:Nat) (x:Ins),l[j]? = some x→insOk e f ds near i ((k+j:Nat):Int) x=true)→checkCode e f ds near i k l=true
 | [],k,_=>rfl
 | x::l,k,h=>by
  have h0:=h 0 x rfl;rw [Nat.add_zero] at h0;simp only [checkCode,Bool.and_eq_true];refine ⟨h0,YH fun j y hy => ?_⟩;have:=h (j+1) y (by simpa using hy);rw [show k+(j+1)=k+1+j by omega] at this;exact this
def DropL (l m:List Block):Prop:=m.length=l.length ∧ ∀ (i:Nat) (b c:Block),l[i]? = some b→m[i]? = some c→c.params=b.params∧c.term=b.term∧Drop b.code c.code
theorem DropL.refl (l:List Block):DropL l l:=⟨rfl,fun i b c h1 h2=>by rw [h1] at h2; cases h2; exact ⟨rfl,rfl, .refl _⟩⟩
theorem DropL.trans {l m n:List Block} (h:DropL l m) (k:DropL m n):DropL l n:=by
 refine ⟨k.1.trans h.1,fun i b c h1 h2 => ?_⟩;have hi:i<m.length:=by rw [h.1]; exact (List.getElem?_eq_some_iff.1 h1).1
 obtain ⟨a1,a2,a3⟩:=h.2 i b m[i] h1 (List.getElem?_eq_getElem hi);obtain ⟨b1,b2,b3⟩:=k.2 i m[i] c (List.getElem?_eq_getElem hi) h2;exact ⟨b1.trans a1,b2.trans a2,a3.trans b3⟩
theorem pstep_drop (near:List Int) (bs:List Block) (M:Far) (n:Nat):DropL bs (pstep near (bs,M) n).1:=by
 refine ⟨by simp [pstep],fun i b c h1 h2 => ?_⟩;simp only [pstep] at h2
 by_cases e:n=i
 ·subst e;have hn:n<bs.length:=(List.getElem?_eq_some_iff.1 h1).1;rw [List.getElem?_set_self hn] at h2;have hgd:bs.getD n default=b:=by rw [List.getD_eq_getElem?_getD,h1]; rfl
  cases h2
  rw [hgd];exact ⟨rfl,rfl,WV near n b.code M⟩
 ·rw [List.getElem?_set_ne e] at h2;rw [h1] at h2; cases h2; exact ⟨rfl,rfl, .refl _⟩
theorem fold_drop (near:List Int) : ∀ (order:List Nat) (bs:List Block) (M:Far),DropL bs (order.foldl (pstep near) (bs,M)).1
 | [],bs,M => .refl bs
 | n::r,bs,M=>by
  rw [List.foldl_cons];exact (pstep_drop near bs M n).trans (fold_drop near r _ _)
theorem bceF_drop (f:Fn):DropL f.blocks (bceF f).blocks:=fold_drop _ _ _ _
theorem DropL.map {α:Type} {l m:List Block} (h:DropL l m) (F:Block→α) (hF : ∀ b c:Block,b∈l→c.params=b.params→c.term=b.term→Drop b.code c.code→F c=F b):m.map F=l.map F:=by
 apply List.ext_getElem?
 intro i;rw [List.getElem?_map,List.getElem?_map]
 by_cases hi:i<l.length
 ·have hi2:i<m.length:=by rw [h.1]; exact hi
  rw [List.getElem?_eq_getElem hi,List.getElem?_eq_getElem hi2];obtain ⟨h1,h2,h3⟩:=h.2 i l[i] m[i] (List.getElem?_eq_getElem hi) (List.getElem?_eq_getElem hi2);simp only [Option.map_some,Option.some.injEq];exact hF _ _ (List.getElem_mem hi) h1 h2 h3
 ·rw [List.getElem?_eq_none (by rw [h.1]; omega),List.getElem?_eq_none (by omega)]
theorem drop_check {e:Env} {f g:Fn} (h:check e f=true) (hs:g.sig=f.sig) (ht:g.types=f.types) (hd:DropL f.blocks g.blocks) (hth:ThinL f.blocks g.blocks):check e g=true:=by
 have h257:=fun b hb x hx ho => @check_257 e f h b hb x hx ho
 obtain ⟨hh,ds,hds,hsh,hbs⟩:=check_spec h;obtain ⟨hdl,hdin⟩:=defs_in hds;obtain ⟨hnd,hmade,hout⟩:=defs_made hds;have hall:allL g.blocks=allL f.blocks:=by
  have:=hd.map allB fun b c hb h1 h2 h3=>by rw [allB,allB,h1,h3.outs fun x hx ho=>(h257 b hb x hx ho).2.2]
  rw [allL,allL,List.flatMap_def,List.flatMap_def,this]
 have hrange : ∀ v∈allL f.blocks,0≤v∧v<f.types.length:=fun v hv=>by
  obtain ⟨b,hb,hv⟩:=List.mem_flatMap.1 hv;obtain ⟨k1,k2⟩:=hdin b hb;rcases List.mem_append.1 hv with hv | hv
  ·exact k1 v hv
  ·obtain ⟨x,hx,hv⟩:=List.mem_flatMap.1 hv;exact k2 x hx v hv
 obtain ⟨ds',hds'⟩:=Yx (l:=g.blocks) (i:=0) (ds:=List.replicate g.types.length ⟨false,0,0⟩) (by rw [hall,List.length_replicate,ht]; exact hrange) (by rw [hall]; exact hnd) (fun v _=>dAt_rep _ _);have hds2:defsOf g=some ds':=hds';obtain ⟨hdl',_⟩:=defs_in hds2;obtain ⟨_,hmade',hout'⟩:=defs_made hds2;have hsu:succs g.blocks=succs f.blocks:=hd.map rowOf fun b c _ h1 h2 h3=>by rw [rowOf,rowOf,h2]
 have htk:g.blocks.map tickB=f.blocks.map tickB:=hd.map tickB fun b c _ h1 h2 h3=>h3.tick
 have hpar : ∀ n,(g.blocks.getD n default).params=(f.blocks.getD n default).params:=by
  intro n;simp only [List.getD_eq_getElem?_getD]
  by_cases hn:n<f.blocks.length
  ·have hn2:n<g.blocks.length:=by rw [hd.1]; exact hn
   rw [List.getElem?_eq_getElem hn,List.getElem?_eq_getElem hn2];exact (hd.2 n _ _ (List.getElem?_eq_getElem hn) (List.getElem?_eq_getElem hn2)).1
  ·rw [List.getElem?_eq_none (by rw [hd.1]; omega),List.getElem?_eq_none (by omega)]
 -- the head
 have hhead:checkHead e g=true:=by
  have hsm:g.small=true:=hth.small hs ht (check_small h);simp only [checkHead,Bool.and_eq_true,decide_eq_true_eq,List.all_eq_true] at hh ⊢;obtain ⟨⟨⟨⟨⟨g1,g2⟩,g3⟩,g4⟩,g5⟩,g6⟩:=hh;refine ⟨⟨⟨⟨⟨g1,hsm⟩,by rw [hd.1]; exact g3⟩,by rw [ht]; exact g4⟩,by rw [hs]; exact g5⟩,fun c hc => ?_⟩;obtain ⟨i,hi⟩:=List.mem_iff_getElem?.1 hc;have hil:i<f.blocks.length:=by rw [←hd.1]; exact (List.getElem?_eq_some_iff.1 hi).1
  rw [(hd.2 i _ c (List.getElem?_eq_getElem hil) hi).1];exact g6 _ (List.getElem_mem hil)
 have hshape:shapeOk g=true:=by
  simp only [shapeOk,Bool.and_eq_true] at hsh ⊢;have hr:rings g.blocks (Go.Vw.G.nats (succs f.blocks))=rings f.blocks (Go.Vw.G.nats (succs f.blocks)):=by simp only [rings,htk]
  rw [hsu,hd.1,hs,hpar,ht,hr];refine ⟨hsh.1, ?_⟩;have h5:=hsh.2;have h0:0<f.blocks.length:=by
   rcases Nat.eq_zero_or_pos f.blocks.length with h0 | h0
   ·have:f.blocks=[]:=List.eq_nil_of_length_eq_zero h0;rw [this] at h5; cases h5
   ·exact h0
  have h0g:0<g.blocks.length:=by rw [hd.1]; exact h0
  obtain ⟨_,_,k3⟩:=hd.2 0 _ _ (List.getElem?_eq_getElem h0) (List.getElem?_eq_getElem h0g);simp only [List.getD_eq_getElem?_getD,List.getElem?_eq_getElem h0,List.getElem?_eq_getElem h0g,Option.getD_some] at h5 ⊢;generalize f.blocks[0].code=cf at *
  generalize g.blocks[0].code=cg at *
  cases k3 with
  | nil=>cases h5
  | keep x k=>exact h5
  | drop x o k=>simp [o] at h5
 -- how what is asked turns
 have key : ∀ (i:Nat) (b c:Block),f.blocks[i]? = some b→g.blocks[i]? = some c → ∃ φ:Nat→Nat,(∀ (K:Nat) (v t:Int),askOk f.types ds (Go.Vw.G.nearI (succs f.blocks)) i K v t=true→askOk g.types ds' (Go.Vw.G.nearI (succs f.blocks)) i (φ K:Nat) v t=true)∧(∀ j y,c.code[j]? = some y → ∃ k,b.code[k]? = some y∧φ k=j)∧φ b.code.length=c.code.length:=by
  intro i b c hb hc;obtain ⟨_,_,k3⟩:=hd.2 i b c hb hc;obtain ⟨φ,p1,p2,p3,p4⟩:=k3.pos;refine ⟨φ,fun K v t ha => ?_,p3,p4⟩;simp only [askOk,Bool.and_eq_true,decide_eq_true_eq] at ha ⊢;obtain ⟨⟨⟨⟨q1,q2⟩,q3⟩,q4⟩,q5⟩:=ha;have hv:=hmade v q1 q4;obtain ⟨b2,hb2,hv2⟩:=List.mem_flatMap.1 hv;obtain ⟨j,hj⟩:=List.mem_iff_getElem?.1 hb2;have hjl:j<g.blocks.length:=by rw [hd.1]; exact (List.getElem?_eq_some_iff.1 hj).1
  obtain ⟨m1,m2,m3⟩:=hd.2 j b2 _ hj (List.getElem?_eq_getElem hjl);have fact : ∃ B P P':Int,ds.getD v.toNat default=⟨true,B,P⟩∧ds'.getD v.toNat default=⟨true,B,P'⟩∧(B=i→P<K→P'<(φ K:Nat)):=by
   rcases List.mem_append.1 hv2 with hp | ho
   ·have a1:=putBlocks_params hds j b2 hj v hp;have a2:=putBlocks_params hds' j _ (List.getElem?_eq_getElem hjl) v (by rw [m1]; exact hp);rw [Nat.zero_add] at a1 a2;exact ⟨_,_,_,a1,a2,fun _ _=>by omega⟩
   ·obtain ⟨x,hx,hvx⟩:=List.mem_flatMap.1 ho;obtain ⟨k,hk⟩:=List.mem_iff_getElem?.1 hx;have hop:x.op≠257:=fun e=>by
     rw [(h257 b2 hb2 x hx e).2.2] at hvx; cases hvx
    have a1:=hout j b2 hj k x hk v hvx
    by_cases e:j=i
    ·subst e;rw [hb] at hj
     cases hj
     obtain ⟨r1,r2⟩:=p2 k x hk hop;have a2:=hout' j c hc (φ k) x r1 v hvx;exact ⟨_,_,_,a1,a2,fun _ hlt=>by have:=r2 K (by omega); omega⟩
    ·obtain ⟨ψ,_,r2,_,_⟩:=m3.pos;have a2:=hout' j _ (List.getElem?_eq_getElem hjl) (ψ k) x (r2 k x hk hop).1 v hvx;exact ⟨_,_,_,a1,a2,fun e2=>absurd (by omega) e⟩
  obtain ⟨B,P,P',f1,f2,f3⟩:=fact;rw [f1] at q5;refine ⟨⟨⟨⟨q1,by rw [hdl',ht, ←hdl]; exact q2⟩,by rw [ht]; exact q3⟩,by rw [f2]⟩, ?_⟩;rw [f2];simp only at q5 ⊢
  by_cases e:B=i
  ·rw [if_pos e,decide_eq_true_eq] at q5 ⊢;exact f3 e q5
  ·rw [if_neg e] at q5 ⊢; exact q5
 have keyA : ∀ (i:Nat) (b c:Block),f.blocks[i]? = some b→g.blocks[i]? = some c → ∃ φ:Nat→Nat,(∀ (K:Nat) (l t:List Int),asks f.types ds (Go.Vw.G.nearI (succs f.blocks)) i K l t=true→asks g.types ds' (Go.Vw.G.nearI (succs f.blocks)) i (φ K:Nat) l t=true)∧(∀ j y,c.code[j]? = some y → ∃ k,b.code[k]? = some y∧φ k=j)∧φ b.code.length=c.code.length:=by
  intro i b c hb hc;obtain ⟨φ,k1,k2,k3⟩:=key i b c hb hc;exact ⟨φ,fun K l t ha=>eqF_mono (fun x _ y hxy=>k1 K x y hxy) ha,k2,k3⟩
 have hblocks:checkBlocks e g ds' (Go.Vw.G.nearI (succs g.blocks)) 0 g.blocks=true:=by
  rw [hsu];refine KI fun i c hc => ?_
  rw [Nat.zero_add];have hil:i<f.blocks.length:=by rw [←hd.1]; exact (List.getElem?_eq_some_iff.1 hc).1
  obtain ⟨b,hb⟩ : ∃ b,f.blocks[i]? = some b:=⟨_,List.getElem?_eq_getElem hil⟩
  obtain ⟨m1,m2,_⟩:=hd.2 i b c hb hc;obtain ⟨φ,k1,k2,k3⟩:=keyA i b c hb hc;obtain ⟨c1,c2⟩:=checkBlocks_at hbs hb;rw [Nat.zero_add] at c1 c2;constructor
  ·refine YH fun j x hx => ?_
   rw [Nat.zero_add];obtain ⟨k,hk,rfl⟩:=k2 j x hx;have:=checkCode_at c1 hk;rw [Nat.zero_add] at this;simp only [insOk,Bool.and_eq_true,ht] at this ⊢;exact ⟨this.1,by have h9:=k1 k _ _ this.2; rw [ht] at h9; exact h9⟩
  ·have hbp : ∀ n,(g.blocks.getD n default).params=(f.blocks.getD n default).params:=hpar
   unfold termOk at c2 ⊢;rw [m2,hs, ←k3];split at c2
   ·rename_i le mo rs heq;simp only [termTail,Bool.and_eq_true] at c2 ⊢;obtain ⟨⟨⟨⟨t1,t2⟩,t3⟩,t4⟩,t5⟩:=c2;refine ⟨⟨⟨⟨?_,t2⟩,t3⟩,by have h9:=k1 _ _ _ t4; exact h9⟩,List.all_eq_true.2 fun x hx => ?_⟩
    ·split at t1
     ·rename_i hbr; rw [if_pos hbr]; exact k1 _ _ _ t1
     ·rename_i hbr; rw [if_neg hbr]; exact t1
    ·have:=List.all_eq_true.1 t5 x hx;simp only [edgeOk,Bool.and_eq_true,hbp,ht] at this ⊢;exact ⟨this.1,by have h9:=k1 _ _ _ this.2; rw [ht] at h9; exact h9⟩
   ·cases c2
 simp only [check,hhead,hds2,hshape,hblocks,Bool.and_self]
theorem bceF_check {e:Env} {f:Fn} (h:check e f=true):check e (bceF f)=true:=drop_check h rfl rfl (bceF_drop f) (jax f)
def jcn (b:Block) (i:Nat):Block:=⟨b.params,b.code.eraseIdx i,b.term⟩
def KS (b:Block) (x:Ins):Block:=⟨b.params,b.code++[x],b.term⟩
def Wn (bs:List Block) (p n i:Nat):List Block:=(bs.set n (jcn (bs.getD n default) i)).set p (KS (bs.getD p default) ((bs.getD n default).code.getD i default))
structure Mv (bs:List Block) (p n i:Nat) (bp bn:Block) (x:Ins):Prop where
 hp:bs[p]? = some bp
 hn:bs[n]? = some bn
 hi:bn.code[i]? = some x
 ne:p≠n
section
variable {bs:List Block} {p n i:Nat} {bp bn:Block} {x:Ins}
theorem Mv.eq (h:Mv bs p n i bp bn x):Wn bs p n i=(bs.set n (jcn bn i)).set p (KS bp x):=by
 simp only [Wn,List.getD_eq_getElem?_getD,h.hp,h.hn,h.hi,Option.getD_some]
theorem Mv.len (h:Mv bs p n i bp bn x):(Wn bs p n i).length=bs.length:=by simp [Wn]
theorem Mv.at (h:Mv bs p n i bp bn x) (j:Nat):(Wn bs p n i)[j]? = if j=p then some (KS bp x) else if j=n then some (jcn bn i) else bs[j]? := by
 have h1:=(List.getElem?_eq_some_iff.1 h.hp).1;have h2:=(List.getElem?_eq_some_iff.1 h.hn).1;rw [h.eq]
 by_cases e1:j=p
 ·subst e1;rw [if_pos rfl,List.getElem?_set_self (by simpa using h1)]
 ·rw [if_neg e1,List.getElem?_set_ne (Ne.symm e1)]
  by_cases e2:j=n
  ·subst e2;rw [if_pos rfl,List.getElem?_set_self h2]
  ·rw [if_neg e2,List.getElem?_set_ne (Ne.symm e2)]
theorem WU {α:Type} {a:α} : ∀ {l:List α} {k:Nat},l[k]? = some a→l.Perm (a::l.eraseIdx k)
 | [],k,h=>by simp at h
 | b::l,0,h=>by
  simp only [List.getElem?_cons_zero,Option.some.injEq] at h;subst h; exact List.Perm.refl _
 | b::l,k+1,h=>by
  have:=WU (l:=l) (k:=k) (by simpa using h);rw [List.eraseIdx_cons_succ];exact (this.cons b).trans (List.Perm.swap a b _)
theorem jbY {α:Type} {l:List α} {k:Nat} {a b:α} (h:l[k]? = some a):l.Perm (a::l.eraseIdx k)∧(l.set k b).Perm (b::l.eraseIdx k):=by
 have hk:=(List.getElem?_eq_some_iff.1 h).1;refine ⟨WU h, ?_⟩;have:=WU (l:=l.set k b) (k:=k) (a:=b) (List.getElem?_set_self hk)
 rwa [List.eraseIdx_set_eq] at this
theorem Mv.perm (h:Mv bs p n i bp bn x) {α:Type} (F:Block→List α) (X:List α) (h1:(F bn).Perm (X++F (jcn bn i))) (h2:(F (KS bp x)).Perm (X++F bp)):((Wn bs p n i).flatMap F).Perm (bs.flatMap F):=by
 have hp2:(bs.set n (jcn bn i))[p]? = some bp:=by rw [List.getElem?_set_ne (Ne.symm h.ne)]; exact h.hp
 obtain ⟨a1,a2⟩:=jbY (b:=jcn bn i) h.hn;obtain ⟨c1,c2⟩:=jbY (b:=KS bp x) hp2;rw [h.eq];generalize (bs.set n (jcn bn i)).eraseIdx p=E at *
 generalize bs.eraseIdx n=G at *
 have e1:=c2.flatMap_right F;have e2:=c1.flatMap_right F;have e3:=a2.flatMap_right F;have e4:=a1.flatMap_right F;simp only [List.flatMap_cons] at e1 e2 e3 e4;refine e1.trans ?_;refine (h2.append_right _).trans ?_;rw [List.append_assoc];refine ((e2.symm.trans e3).append_left X).trans ?_;rw [←List.append_assoc];exact (h1.symm.append_right _).trans e4.symm
theorem code_perm {l:List Ins} {i:Nat} {x:Ins} (h:l[i]? = some x):l.Perm (x::l.eraseIdx i):=(jbY (b:=x) h).1
theorem Mv.all (h:Mv bs p n i bp bn x):(allL (Wn bs p n i)).Perm (allL bs):=by
 have hc:=code_perm h.hi;refine h.perm (fun b=>b.params++Ju b.code) x.outs ?_ ?_
 ·have h1:(Ju bn.code).Perm (x.outs++Ju (bn.code.eraseIdx i)):=by
   have:=hc.flatMap_right Ins.outs;simpa [Ju] using this
  refine (h1.append_left _).trans ?_;simp only [jcn];rw [←List.append_assoc, ←List.append_assoc];exact List.perm_append_comm.append_right _
 ·simp only [KS,Ju,List.flatMap_append,List.flatMap_cons,List.flatMap_nil,List.append_nil];rw [←List.append_assoc];exact List.perm_append_comm
theorem Mv.map (h:Mv bs p n i bp bn x) {α:Type} (F:Block→α) (h1:F (jcn bn i)=F bn) (h2:F (KS bp x)=F bp):(Wn bs p n i).map F=bs.map F:=by
 apply List.ext_getElem?
 intro j;rw [List.getElem?_map,List.getElem?_map,h.at j]
 by_cases e1:j=p
 ·subst e1; rw [if_pos rfl,h.hp,Option.map_some,Option.map_some,h2]
 ·rw [if_neg e1]
  by_cases e2:j=n
  ·subst e2; rw [if_pos rfl,h.hn,Option.map_some,Option.map_some,h1]
  ·rw [if_neg e2]
end
end Ss
namespace Ss
open Go.Vw.G
def canMove (hm:Int→Int) (nodes:List Nat) (x:Ins):Bool:=pure x.op&&x.args.all fun a => !decide (hm a∈nodes.map Int.ofNat)
def firstB (bs:List Block) (hm:Int→Int) (nodes:List Nat):List Nat→Option (Nat × Nat)
 | []=>none
 | n::r=>match (bs.getD n default).code.findIdx? (canMove hm nodes) with
  | some i=>some (n,i)
  | none=>firstB bs hm nodes r
def first (bs:List Block) (hm:Int→Int):List (Nat × List Nat)→Option (Nat × Nat × Nat)
 | []=>none
 | l::r=>match porch bs l.1 (l.2.map Int.ofNat) with
  | none=>first bs hm r
  | some p=>match firstB bs hm l.2 l.2 with
   | some m=>some (p.toNat,m.1,m.2)
   | none=>first bs hm r
def moved (f:Fn) (p n i:Nat):Fn:=⟨f.sig,f.types,Wn f.blocks p n i⟩
end Ss
