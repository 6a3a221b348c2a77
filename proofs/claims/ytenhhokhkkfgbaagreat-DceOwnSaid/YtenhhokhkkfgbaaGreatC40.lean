import Derived.Test.YtenhhokhkkfgbaaGreatC37
import Derived.Test.YtenhhokhkkfgbaaGreatC39
import Derived.Test.YtenhhokhkkfgbaaGreatC38
import Derived.Test.YtenhhokhkkfgbaaGreatC29
/-
  Part of the proof (texts DChk, DKeep, DNeedL, DRNeed, DStep, DDelI).
-/
set_option linter.unusedVariables false
set_option linter.unusedSimpArgs false
namespace Ss
open Go.Vw.G
def phi {α:Type} (p:α→Bool) (l:List α) (k:Nat):Nat:=((l.take k).filter p).length
theorem jat (p:Int × Int→Bool) (l m:List Int):(((l.zip m).filter p).map Prod.snd).length≤m.length:=by
 rw [List.length_map]
 refine Nat.le_trans (List.length_filter_le _ _) ?_
 rw [List.length_zip]; omega
theorem dEdge_mem {need:List Bool} {bs:List Block} {e:Edge} {v:Int} (h:v∈(dEdge need bs e).args):v∈e.args:=by
 simp only [dEdge,List.mem_map,List.mem_filter] at h
 obtain ⟨q,⟨hq,_⟩,rfl⟩:=h
 exact (List.of_mem_zip hq).2
theorem ints_sub {l m:List Int} (h:Ints m) (hl:l.length≤m.length) (hs : ∀ v∈l,v∈m):Ints l:=⟨Nat.le_trans hl h.1,fun v hv=>h.2 v (hs v hv)⟩
theorem dBlock_fits {need:List Bool} {bs:List Block} {b:Block} (h:b.Fits):(dBlock need bs b).Fits:=by
 obtain ⟨h1,⟨h2,h3⟩,h4,h5,⟨h6,h7⟩,h8⟩:=h
 refine ⟨ints_sub h1 (List.length_filter_le _ _) fun v hv=>(List.mem_filter.1 hv).1,⟨Nat.le_trans (List.length_filter_le _ _) h2,fun x hx=>h3 x (List.mem_filter.1 hx).1⟩,h4,h5,⟨by simp only [dBlock,List.length_map]; exact h6,fun x hx => ?_⟩,h8⟩
 simp only [dBlock,List.mem_map] at hx
 obtain ⟨e,he,rfl⟩:=hx
 obtain ⟨k1,k2⟩:=h7 e he
 exact ⟨k1,ints_sub k2 (jat _ _ _) fun v hv=>dEdge_mem hv⟩
theorem dceF_fits {f:Fn} (h:f.Fits):(dceF f).Fits:=by
 obtain ⟨h1,h2,h3,h4⟩:=h
 refine ⟨h1,h2,by simp only [dceF,List.length_map]; exact h3,fun c hc => ?_⟩
 simp only [dceF,List.mem_map] at hc
 obtain ⟨b,hb,rfl⟩:=hc
 exact dBlock_fits (h4 b hb)
theorem dce_count (need:List Bool) (bs:List Block) : ∀ l:List Block,count (l.map (dBlock need bs))≤count l
 | []=>Nat.le_refl _
 | b::l=>by
  have:=dce_count need bs l
  have h1:(dBlock need bs b).code.length≤b.code.length:=List.length_filter_le _ _
  simp only [count,List.map_cons,List.sum_cons] at this ⊢
  omega
theorem dceF_small {f:Fn} (k:f.small=true):(dceF f).small=true:=by
 obtain ⟨k1,k2,k3⟩:=(small_iff f).1 k
 refine (small_iff _).2 ⟨?_,fun c hc => ?_,Nat.le_trans (dce_count _ _ _) k3⟩
 ·simp only [Fn.heads,dceF,List.length_map] at k1 ⊢; exact k1
 ·simp only [dceF,List.mem_map] at hc
  obtain ⟨b,hb,rfl⟩:=hc
  have h:=k2 b hb
  simp only [Block.small,Bool.and_eq_true,decide_eq_true_eq,List.all_eq_true] at h ⊢
  obtain ⟨⟨⟨⟨a1,a2⟩,a3⟩,a4⟩,a5⟩:=h
  refine ⟨⟨⟨⟨Nat.le_trans (List.length_filter_le _ _) a1,by simp only [dBlock,List.length_map]; exact a2⟩,a3⟩,fun x hx=>a4 x (List.mem_filter.1 hx).1⟩,fun e he => ?_⟩
  simp only [dBlock,List.mem_map] at he
  obtain ⟨e',he',rfl⟩:=he
  have:=a5 e' he'
  simp only [Edge.small,decide_eq_true_eq] at this ⊢
  exact Nat.le_trans (jat _ _ _) this
end Ss

namespace Ss
theorem dceOut_t {e:Env} {f:Fn} (h:check e f=true):dceOut e f=(dceF f,0):=by simp [dceOut,h]
theorem dceOut_f {e:Env} {f:Fn} (h:check e f=false):dceOut e f=(⟨⟨[],[]⟩,[],[]⟩,6):=by simp [dceOut,h]
theorem dceOut_fits (e:Env) {f:Fn} (h:f.Fits):(dceOut e f).1.Fits:=by
 unfold dceOut
 split
 ·exact dceF_fits h
 ·exact emptyFn_fits
theorem dceOut_small (e:Env) (f:Fn):(dceOut e f).1.small=true:=by
 unfold dceOut
 split
 ·rename_i h; exact dceF_small (check_small h)
 ·rfl
end Ss

namespace Ss
theorem tab_in {f:Fn} (h:DOk f) : ∀ t,askTab f=t → ∀ l∈t, ∀ u∈l,InR f.types.length u:=by
 rintro t rfl l hl u hu
 obtain ⟨i,hi⟩:=List.mem_iff_getElem?.1 hl
 have hu':u∈(askTab f).getD ((i:Int)).toNat []:=by
  rw [List.getD_eq_getElem?_getD,Int.toNat_natCast,hi]; exact hu
 rcases Zh h (i:Int) u (by omega) hu' with ⟨b,hb,x,hx,_,_,hxu⟩ | ⟨b,hb,e,he,hq⟩
 ·exact h.args b hb x hx u hxu
 ·exact h.eargs b hb e he u (List.of_mem_zip hq).2
theorem dNeed_len {f:Fn} (h:DOk f):(dNeed f).length=f.types.length:=by
 rw [(dNeed_marks h).len,List.length_replicate]
end Ss
namespace Go.Vw
open Go.Proofs Go.RowKit
theorem Needed_v (e:Ss.Env) (f:Ss.Fn) (hf:f.Fits) (hc:Ss.check e f=true):VPure Tryz.prog 25 [qx f] (vl V.bool (Ss.dNeed f)) :=
 Needed0_v f hf (Ss.check_small hc) (Ss.check_dok hc) (Ss.tab_in (Ss.check_dok hc))
end Go.Vw

namespace Go.Vw
open Go.Proofs Go.RowKit
set_option maxRecDepth 10000
set_option maxHeartbeats 4000000
theorem St_over {S:Store} {pm on:Nat} {x y c d:Option (Nat × List V)} (lm:pm<S.nx) (lo:on<S.nx):St (St S [(pm,x),(on,y)] []) [(pm,c),(on,d)] []=St S [(pm,c),(on,d)] []:=by
 have e:(St S [(pm,x),(on,y)] []).nx=S.nx:=by rw [jx]; rfl
 refine Store.ext' (funext fun q => ?_) (by simp [jx,lid])
 rw [zi,zi,e]
 by_cases hq:q<S.nx
 ·rw [if_pos hq,if_pos hq,zi,if_pos hq]
  simp only [uGet]
  by_cases e1:q=pm
  ·simp [e1]
  ·by_cases e2:q=on
   ·subst e2; simp [e1]
   ·simp [e1,e2]
 ·rw [if_neg hq,zi,if_neg hq]
theorem RNeed0_v (f:Ss.Fn) (hf:f.Fits) (hs:f.small=true) (hd:Ss.DOk f):VPure Tryz.prog 32 [qx f] (vl V.bool (Ss.dNeed f)):=by
 intro S
 have hsame:Ss.rTurns f (f.types.length+1) (Ss.marks (List.replicate f.types.length false) (f.blocks.getD 0 default).params)=Ss.dNeed f:=Ss.need_same hd (m:=Ss.roots f) fun v=>Iff.rfl
 generalize Ss.dNeed f=D at *
 have hsm:=(Ss.small_iff f).1 hs
 have hh:=hsm.1
 simp only [Ss.Fn.heads,Bool.and_eq_true,decide_eq_true_eq] at hh
 obtain ⟨⟨⟨hh1,hh2⟩,_⟩,_⟩:=hh
 have crd:=fun pm on N tu o S h1 h2 h3 h4 h5=>RRound_v f hf hs hd pm on N tu o S h1 h2 h3 h4 h5
 have hinc:=Ss.round_inc f
 have hrt : ∀ k o,Ss.rTurns f (k+1) o=if Ss.rRound f o=o then o else Ss.rTurns f k (Ss.rRound f o):=fun k o=>rfl
 generalize Ss.rRound f=rnd at *
 generalize Ss.rTurns f=turns at *
 have hne:=hd.ne
 have dpar:=hd.pars
 obtain ⟨⟨fi,fo⟩,ts,bs⟩:=f
 simp only at *
 generalize hN:ts.length=N at *
 obtain ⟨⟨p0,c0,w0⟩,bs',hbs⟩ : ∃ b bs',bs=b::bs':=by cases bs with | nil=>exact absurd rfl hne | cons b bs'=>exact ⟨b,bs',rfl⟩
 have hb0:bs[0]? = some ⟨p0,c0,w0⟩:=by rw [hbs]; rfl
 have hb0m:(⟨p0,c0,w0⟩:Ss.Block)∈bs:=by rw [hbs]; simp
 have hp0:=dpar _ hb0m
 have hp0l:p0.length≤4096:=by
  have:=hsm.2.1 _ hb0m
  simp only [Ss.Block.small,Bool.and_eq_true,decide_eq_true_eq] at this
  exact this.1.1.1.1
 have hlt0:0<bs.length:=by rw [hbs]; simp
 have hb00:bs[0]=⟨p0,c0,w0⟩:=by have:=hb0; rw [List.getElem?_eq_getElem hlt0] at this; exact Option.some.inj this
 have hgd0:(bs.getD 0 default).params=p0:=by rw [hbs]; rfl
 rw [hgd0] at hsame
 clear hf hs hd hsm
 refine jb (c:=jg Tryz.f32) Tryz.func32 rfl rfl (by simp [Tryz.ntmps32]) ?_
 rw [Tryz.ntmps32]
 intro hwf
 repeat refine QS ?_
 refine QP ?_
 refine QN ?_
 refine ji 1 rfl ((qS (k:=0) (by simp) (by rfl) (by rfl) (by simp))) (by conv=>lhs; simp [Fr.set]) ?_
 simp only [List.set_cons_succ,List.set_cons_zero]
 have e1:N*1≤140737488355328:=by omega
 have e3:N≤140737488355328:=by omega
 have hrI : ∀ p,V.idsL p (List.replicate N (V.bool false))=true:=fun p=>jbz rfl
 have hrR : ∀ g,V.renL g (List.replicate N (V.bool false))=List.replicate N (V.bool false):=fun g=>by rw [←List.map_replicate]; exact Zs (f:=g) _
 repeat refine QS ?_
 refine JK (σm := ?sm) (Sm := ?Sm) (ZZ.mk _ (St S [] [none]) (St S [] [none]) []) 4 6 [0,1,2,3,4,5,6,7] [0,1,2,3,6,4,5,7] rfl (by kernel_rfl) (by conv=>lhs; reduce) (by kernel_rfl) (by decide) (by kernel_rfl) (by kernel_rfl) (by kernel_rfl) (by kernel_rfl) (by kernel_rfl) (by kernel_rfl) rfl (jq (by simp [subU,shpU,subL,shpL])) (Store.sub_refl _) (by conv=>lhs; reduce) (by conv=>lhs; reduce) ?H1 ?H2 ?H3
 case H1 =>
  refine QM (by conv=>lhs;simp[-List.map_set,QV,hN,e1,e3]) ?_
  refine jf rfl (by conv=>lhs;simp[-List.map_set,QV,e1,e3]) (jq (by simp [subU,shpU,subL,shpL])) ?_
  refine QM (by conv=>lhs;simp[-List.map_set,QV]) ?_
  refine jf rfl (by conv=>lhs;simp[-List.map_set,QV]) (jq (by simp [subU,shpU,subL,shpL])) ?_
  refine jf rfl (by conv=>lhs;simp[-List.map_set,QV]) (jq (by simp [subU,shpU,subL,shpL])) ?_
  refine QN ?_
  refine zl [1,3] (Eq.trans (b := ?_) ?_ rfl)
  rotate_left
  conv=>lhs; simp [Fr.only,Fr.look]
 case H2 =>
  refine QM (by conv=>lhs;simp[-List.map_set,QV,hN,e1,e3]) ?_
  refine jf rfl (by conv=>lhs;simp[-List.map_set,QV]) (jq (by simp [subU,shpU,subL,shpL])) ?_
  refine jf rfl (by conv=>lhs;simp[-List.map_set,QV,e1,e3]) (jq (by simp [subU,shpU,subL,shpL])) ?_
  refine QM (by conv=>lhs;simp[-List.map_set,QV]) ?_
  refine jf rfl (by conv=>lhs;simp[-List.map_set,QV]) (jq (by simp [subU,shpU,subL,shpL])) ?_
  refine QN ?_
  exact zz [1,3] [0,2,1] (by conv=>lhs; simp [Fr.only,Fr.look]) hwf (by decide) (by simp [-List.map_set,hrI,hrR]) (by conv=>lhs; simp [-List.map_set,hrI,hrR]) (by conv=>lhs; simp [-List.map_set,hrI,hrR]) (by conv=>lhs; simp [-List.map_set,hrI,hrR])
 generalize hS1:St S [] [none,some (1,List.replicate N (V.bool false)),some (6,[vl vint fi,vl vint fo,vl vint ts,vl jc bs,V.slice (lid S.nx 1) 0 N,V.bool false])]=S1
 have old1:Agree S S1:=by rw [←hS1]; exact Jj
 have gm:S1.get (lid S.nx 2)=some (mkC (vl vint fi) (vl vint fo) (vl vint ts) (vl jc bs) (lid S.nx 1) N false):=by rw [←hS1,jv]; rfl
 have go:S1.get (lid S.nx 1)=some (1,(List.replicate N false).map V.bool):=by rw [←hS1,jv,List.map_replicate]; rfl
 have hdo:lid S.nx 1≠lid S.nx 2:=by simp [lid]
 have hge:S.nx≤lid S.nx 1∧S.nx≤lid S.nx 2:=by simp [lid]
 clear hS1
 generalize lid S.nx 2=pm at *
 generalize lid S.nx 1=on at *
 generalize hr0:List.replicate N false=r0 at *
 have hr0l:r0.length=N:=by rw [←hr0]; simp
 refine KP fun hw1=>zY hw1 ?_
 have lm:=jr hw1 gm
 have lo:=jr hw1 go
 have bm:=fun u l => @jk S1 u l pm lm
 have bo:=fun u l => @jk S1 u l on lo
 have hd2:pm≠on:=Ne.symm hdo
 have c0:=RMark_v (vl vint fi) (vl vint fo) (vl vint ts) (vl jc bs) rfl rfl rfl rfl pm on N false r0 p0 S1 hr0l (by omega) hp0 gm go hdo
 have c0':VCalls Tryz.prog 75 [.ptr pm 0,vl vint p0] (St S1 [] []) fun v T=>v = .tuple []∧T=St S1 [(pm,some (mkC (vl vint fi) (vl vint fo) (vl vint ts) (vl jc bs) on N (Ss.fl false r0 (Ss.marks r0 p0)))),(on,some (1,(Ss.marks r0 p0).map V.bool))] []:=by rw [jQ hw1]; exact c0
 clear c0
 have hi0:=Ss.marks_inc r0 p0
 generalize Ss.marks r0 p0=o0 at *
 repeat refine QS ?_
 refine QP ?_ (r:=by conv=>lhs;simp[-List.map_set,QV,hb0,hb00,hlt0])
 refine jF rfl c0' ?_
 rintro X T9 ⟨rfl,rfl⟩
 have hupm : ∀ x y c,(St S1 [(pm,x),(on,y)] []).upd pm c=St S1 [(pm,some c),(on,y)] []:=fun x y c=>by rw [jP lm]; simp [uSet]
 have ho0:Ss.off o0<N+1:=by
  have h4:Ss.off o0≤o0.length:=List.countP_le_length
  have:=hi0.1
  omega
 refine QM (by conv=>lhs;simp[-List.map_set,QV]) ?_
 refine QN ?_
 repeat (first|refine QG ?_|refine QY ?_ (r:=by conv=>lhs;simp[-List.map_set,QV,bm,hupm]))
 repeat refine QS ?_
 refine je [3] rfl (fun c σ S' => ∃ (t:Bool) (o1:List Bool),o1.length=N∧c=(if t then Ss.off o1+1 else 0)∧(if t then (∃ k,Ss.off o1<k∧turns k o1=D) else o1=D)∧σ=[(3, .ptr pm 0)]∧S'=St S1 [(pm,some (mkC (vl vint fi) (vl vint fo) (vl vint ts) (vl jc bs) on N t)),(on,some (1,o1.map V.bool))] []) (Ss.off o0+1) ?_ ?_
 ·exact ⟨true,o0,by rw [←hi0.1]; exact hr0l,rfl,⟨N+1,ho0,hsame⟩,by simp [Fr.only],rfl⟩
 ·rintro c σ T ⟨t,o1,hol,rfl,hD,rfl,rfl⟩
  cases t with
  | true =>
   simp only [if_true] at hD ⊢
   obtain ⟨k,hk,hD⟩:=hD
   obtain ⟨k,rfl⟩ : ∃ k',k=k'+1:=⟨k-1,by omega⟩
   rw [hrt] at hD
   have cr:=crd pm on N false o1 (St S1 [(pm,some (mkC (vl vint fi) (vl vint fo) (vl vint ts) (vl jc bs) on N false)),(on,some (1,o1.map V.bool))] []) rfl hol ((bm _ _).trans (by simp [uGet])) ((bo _ _).trans (by simp [uGet,hdo])) hdo
   rw [St_over lm lo] at cr
   have hin:=hinc o1
   generalize rnd o1=o2 at *
   repeat (first|refine QG ?_|refine QY ?_ (r:=by conv=>lhs;simp[-List.map_set,QV,bm,hupm]))
   repeat refine QS ?_
   refine QP ?_
   refine jF rfl cr ?_
   rintro X T9 ⟨rfl,rfl⟩
   refine QM (by conv=>lhs;simp[-List.map_set,QV]) ?_
   refine QN ?_
   by_cases he:o2=o1
   ·rw [if_pos he] at hD
    subst he
    rw [Ss.fl_refl]
    show jt _ _ _ _ _ _ _
    exact again ⟨Nat.zero_lt_succ _,false,o2,hol,rfl,hD,by simp [Fr.only,Fr.look],rfl⟩
   ·rw [if_neg he] at hD
    have hlt:=Ss.inc_off hin he
    have hfl:Ss.fl false o1 o2=true:=by simp [Ss.fl,he]
    rw [hfl]
    show jt _ _ _ _ _ _ _
    exact again ⟨Nat.succ_lt_succ hlt,true,o2,by rw [←hin.1]; exact hol,rfl,⟨k,by omega,hD⟩,by simp [Fr.only,Fr.look],rfl⟩
  | false =>
   simp only [Bool.false_eq_true,if_false] at hD ⊢
   subst hD
   repeat (first|refine QG ?_|refine QY ?_ (r:=by conv=>lhs;simp[-List.map_set,QV,bm]))
   have hgo:(St S1 [(pm,some (mkC (vl vint fi) (vl vint fo) (vl vint ts) (vl jc bs) on N false)),(on,some (1,o1.map V.bool))] []).get on=some (1,o1.map V.bool):=(bo _ _).trans (by simp [uGet,hdo])
   refine zn hwf ((Ghost.freeze1 hgo (jJ V.bool (fun _=>rfl) _) (by simp [hol])).toB _) ⟨?_,fun o ho => ?_⟩ (by simp)
   ·show S.nx≤lid S1.nx _
    have:=old1.1
    simp only [lid]; omega
   ·have h1:o≠on:=by have:=hge.1; omega
    have h2:o≠pm:=by have:=hge.2; omega
    rw [JA,if_neg h1,jk (by have:=old1.1; omega)]
    simp only [uGet,if_neg h1,if_neg h2]
    exact old1.2 o ho
theorem RNeed_v (e:Ss.Env) (f:Ss.Fn) (hf:f.Fits) (hc:Ss.check e f=true):VPure Tryz.prog 32 [qx f] (vl V.bool (Ss.dNeed f)):=RNeed0_v f hf (Ss.check_small hc) (Ss.check_dok hc)
end Go.Vw

namespace Go.Vw
open Go.Proofs Go.RowKit
set_option maxRecDepth 10000
set_option maxHeartbeats 2000000
def outOf (q:Int→List Int→Bool) (S:Store):List V→Bool
 | [.int _ op,_,_, .slice ou _ _]=>q op (((S.get ou).getD (0,[])).2.map vToInt)
 | _=>false
theorem KM {α:Type} (q:α→Bool) : ∀ l:List α,delG (fun (_:Unit) x => !q x) (fun _ _=>()) () l=(l.filter q,())
 | []=>rfl
 | x::l=>by
  have ih:=KM q l
  by_cases h:q x=true
  ·simp [delG,ih,h]
  ·have h':q x=false:=by simpa using h
   simp [delG,ih,h']
theorem DelCode_v (T:Store) (q:Int→List Int→Bool) (code:List Ss.Ins) (rs:List (List V)) (oc:Nat) (ic:List Nat) (hcl:code.length<2^62) (hr:Rows T insD jl code rs ic) (goc:T.get oc=some (4,rs.flatten)) (hdj:oc∉ic) (hw:T.Wf) {fid:FuncId} {caps:List V} (hc:jO Tryz.prog fid=true)
  (hclo : ∀ (S':Store) (x:Ss.Ins) (oa ou:Nat),x∈code→S'.get ou=some (1,x.outs.map vint)→VCalls Tryz.prog fid (.agg [vint x.op,vu x.n, .slice oa 0 x.args.length, .slice ou 0 x.outs.length]::caps) S' fun v T'=>v = .bool (!q x.op x.outs)∧T'=S') :
  ∃ rs' ic',Rows T insD jl (code.filter fun x=>q x.op x.outs) rs' ic'∧ic'.Sublist ic∧(T.upd oc (4,rs'.flatten)).Wf∧VCalls Tryz.prog 27 [.slice oc 0 code.length, .func fid caps] T fun v T'=>v = .slice oc 0 (code.filter fun x=>q x.op x.outs).length∧T'=T.upd oc (4,rs'.flatten):=by
 obtain ⟨hrl,hr4⟩:=hr.len
 have lt : ∀ {o c},T.get o=some c→o<T.nx:=fun h=>jr hw h
 obtain ⟨icn,hdel1,hdel2,hdel3⟩:=hr.del (fun (_:Unit) r => !outOf q T r) (fun _ _=>()) (fun (_:Unit) x => !q x.op x.outs) (fun _ _=>()) (fun x r ii hxm ho hi M=>by
  obtain ⟨oa,ou,rfl,rfl,h1,h2⟩:=ins_row ho
  refine ⟨?_,rfl⟩
  simp only [outOf,vint,h2,Option.getD_some]
  rw [jaM]) ()
 rw [KM (fun x:Ss.Ins=>q x.op x.outs)] at hdel1
 simp only at hdel1
 have hdl:=(hdel1.len).1
 refine ⟨_,icn,hdel1,hdel2, ?_⟩
 generalize hres:delG (fun (_:Unit) r => !outOf q T r) (fun _ _=>()) () rs=res at *
 have hresub : ∀ r∈res.1,r∈rs:=by rw [←hres]; exact jbG _ _ _ _
 have hw':(T.upd oc (4,res.1.flatten)).Wf:=by
  refine Zf hw (lt goc) ?_
  have:=hw.ids oc _ goc
  simp only [qM,List.all_eq_true,List.mem_flatten] at this ⊢
  rintro x ⟨r,hr1,hr2⟩
  exact this x ⟨r,hresub r hr1,hr2⟩
 have hrowsin : ∀ r∈rs, ∃ x∈code, ∃ oa ou,r=[vint x.op,vu x.n, .slice oa 0 x.args.length, .slice ou 0 x.outs.length]∧T.get ou=some (1,x.outs.map vint)∧ou∈ic:=by
  clear hres hdel1 hdel2 hdel3 hdl hresub hw' hr4 hrl goc hdj hcl hclo
  induction hr with
  | nil=>simp
  | cons h t ih =>
   intro r hr
   rcases List.mem_cons.1 hr with rfl | hr
   ·obtain ⟨oa,ou,h1,h2,h3,h4⟩:=ins_row h
    exact ⟨_,by simp,oa,ou,h1,h4,by simp [h2]⟩
   ·obtain ⟨x,hx,oa,ou,h1,h2,h3⟩:=ih r hr
    exact ⟨x,by simp [hx],oa,ou,h1,h2,by simp [h3]⟩
 refine ⟨hw',vcalls_cut hw' rfl (by simp [V.ids,lt goc]) ?_⟩
 have cd:=Delete_v (fun (_:Unit) T' => ∀ o,o<T.nx→o≠oc→T'.get o=T.get o) (fun _ r => !outOf q T r) (fun _ _=>()) (oc:=oc) (N:=T.nx) (rows:=rs) (fid:=fid) (caps:=caps) hc (fun r hr=>hr4 r hr) (by omega) (lt goc)
  (fun a T1 T2 h1 h2 o ho hne=>(h1 o ho hne).trans (h2 o ho hne)) (fun a T1 r hrm hI hT=>by
   obtain ⟨x,hxm,oa,ou,rfl,ha,hai⟩:=hrowsin r hrm
   have hoc:ou≠oc:=fun e=>hdj (e▸hai)
   have e:outOf q T [vint x.op,vu x.n, .slice oa 0 x.args.length, .slice ou 0 x.outs.length]=q x.op x.outs:=by
    simp only [outOf,vint,ha,Option.getD_some]
    rw [jaM]
   rw [e]
   refine (hclo T1 x oa ou hxm ((hI ou (lt ha) hoc).trans ha)).mono ?_
   rintro v T' ⟨rfl,rfl⟩
   exact ⟨rfl,hI,Nat.le_refl _,fun o _ _=>rfl⟩) (a:=()) (S:=T) (fun o ho hne=>rfl) (Nat.le_refl _) goc
 rw [hres] at cd
 rw [hrl] at cd
 refine cd.mono ?_
 rintro v T' ⟨rfl,h1,h2,h3⟩
 refine ⟨by rw [hdl],h2,fun o ho => ?_⟩
 have ho':o<T.nx:=ho
 rw [qB]
 split
 ·rename_i e; subst e; exact h3
 ·rename_i e
  rw [h1 o ho' e]
theorem edge_row {T:Store} {e:Ss.Edge} {r:List V} {ii:List Nat} (h:OwL T Km r (jh e).cells ii) : ∃ oa,r=[vint e.to, .slice oa 0 e.args.length]∧ii=[oa]∧T.get oa=some (1,e.args.map vint):=by
 rw [jH] at h
 cases h with
 | c h1 h =>
  obtain ⟨o,rfl,h2,h3⟩:=row_row (l:=e.args) (by rw [KN]; exact h)
  exact ⟨o,rfl,h2,h3⟩
theorem edge_mk {T:Store} {e:Ss.Edge} {oa:Nat} (h:T.get oa=some (1,e.args.map vint)):OwL T Km [vint e.to, .slice oa 0 e.args.length] (jh e).cells [oa]:=by
 rw [jH]
 have:=row_mk h
 rw [KN] at this
 exact .c (x:=vint e.to) rfl this
section
variable {S H:Store} {hs:List Nat} {ob:Nat} {bs:List Ss.Block} {T:Store} {rs:List (List V)} {ids:List Nat} {i:Nat}
theorem jbv {hs:List Nat} {ob op oc oe:Nat} {ic ie:List Nat} (hd:(hs++ob::(op::oc::(ic++oe::ie))).Nodup):(∀ o∈hs,o≠ob∧o≠op∧o≠oc∧o≠oe∧o∉ic∧o∉ie)∧ob≠op∧ob≠oc∧ob≠oe∧ob∉ic∧ob∉ie∧op≠oc∧op≠oe∧op∉ic∧op∉ie∧oc≠oe∧oc∉ic∧oc∉ie∧oe∉ic∧oe∉ie∧(∀ o∈ic,o∉ie)∧ic.Nodup∧ie.Nodup:=by
 obtain ⟨h1,h2,h3⟩:=List.nodup_append.1 hd
 simp only [List.nodup_cons,List.mem_cons,List.mem_append,not_or,List.nodup_append] at h2
 obtain ⟨⟨a1,a2,a3,a4,a5⟩,⟨b1,b2,b3,b4⟩,⟨c1,c2,c3⟩,d1,⟨e1,e2⟩,d3⟩:=h2
 refine ⟨fun o ho=>⟨h3 o ho ob (by simp),h3 o ho op (by simp),h3 o ho oc (by simp),h3 o ho oe (by simp),fun hm=>h3 o ho o (by simp [hm]) rfl,fun hm=>h3 o ho o (by simp [hm]) rfl⟩,a1,a2,a4,a3,a5,b1,b3,b2,b4,c2,c1,c3, ?_,e1, ?_,d1,e2⟩
 ·exact fun hm=>d3 oe hm oe (by simp) rfl
 ·exact fun o ho hm=>d3 o ho o (by simp [hm]) rfl
theorem BInv.code (h:BInv S H hs ob bs T rs ids) (hw:T.Wf) (hi:i<bs.length) (q:Int→List Int→Bool) (hcl:bs[i].code.length<2^62) {fid:FuncId} {caps:List V} (hc:jO Tryz.prog fid=true)
  (hclo : ∀ (S':Store) (x:Ss.Ins) (oa ou:Nat),x∈bs[i].code→S'.get ou=some (1,x.outs.map vint)→VCalls Tryz.prog fid (.agg [vint x.op,vu x.n, .slice oa 0 x.args.length, .slice ou 0 x.outs.length]::caps) S' fun v T'=>v = .bool (!q x.op x.outs)∧T'=S') :
  ∃ (oc:Nat) (T5:Store) (rs':List (List V)) (ids':List Nat),rs.flatten[i*6+1]? = some (.slice oc 0 bs[i].code.length)∧VCalls Tryz.prog 27 [.slice oc 0 bs[i].code.length, .func fid caps] T (fun v T'=>v = .slice oc 0 (bs[i].code.filter fun x=>q x.op x.outs).length∧T'=T5) ∧
   T5.Wf∧T5.get ob=T.get ob∧T5.nx=T.nx∧(∀ o∈hs,T5.get o=T.get o)∧rs'.flatten=rs.flatten.set (i*6+1) (.slice oc 0 (bs[i].code.filter fun x=>q x.op x.outs).length) ∧
   BInv S H hs ob (bs.set i ⟨bs[i].params,bs[i].code.filter fun x=>q x.op x.outs,bs[i].term⟩) (T5.upd ob (6,rs'.flatten)) rs' ids':=by
 obtain ⟨r1,r2,i1,i2,op,oc,oe,rc,ce,ip,ic,ie,rfl,h6,hl,hop,hoc,hrc,hoe,hie,rfl,hnd,hput⟩:=h.at hw hi
 obtain ⟨n0,n1,n2,n3,n4,n5,n6,n7,n8,n9,n10,n11,n12,n13,n14,n15,n16,n17⟩:=jbv hnd
 obtain ⟨rc',ic',q1,q2,qw,q3⟩:=DelCode_v T q bs[i].code rc oc ic hcl hrc hoc n11 hw hc hclo
 have hfs:=Kb (m:=6) (r:=[V.slice op 0 bs[i].params.length, .slice oc 0 bs[i].code.length,vint bs[i].term.kind,vint bs[i].term.arg, .slice oe 0 bs[i].term.to.length,vl vint bs[i].term.args]) (r2:=r2) (q:=1) (w := .slice oc 0 (bs[i].code.filter fun x=>q x.op x.outs).length) h6 hl (by simp)
 refine ⟨oc,T.upd oc (4,rc'.flatten),_,_,Ji h6 hl rfl,q3,qw,jI n2,rfl,fun o ho=>jI (n0 o ho).2.2.1,hfs.symm,hput _ _ ⟨bs[i].params,_,bs[i].term⟩ (op::oc::(ic'++oe::ie)) (Nat.le_refl _) ?_ zp ?_ ?_ ?_⟩
 ·intro o _ h1 h2
  simp only [List.mem_cons,not_or] at h2
  rw [jI h1,jI h2.2.1]
 ·have g : ∀ o,o≠ob→o≠oc→((T.upd oc (4,rc'.flatten)).upd ob (6,(r1++List.set [V.slice op 0 bs[i].params.length, .slice oc 0 bs[i].code.length,vint bs[i].term.kind,vint bs[i].term.arg, .slice oe 0 bs[i].term.to.length,vl vint bs[i].term.args] 1 (.slice oc 0 (bs[i].code.filter fun x=>q x.op x.outs).length)::r2).flatten)).get o=T.get o:=fun o h1 h2=>by rw [jI h1,jI h2]
  refine jbI (b:=⟨bs[i].params,bs[i].code.filter fun x=>q x.op x.outs,bs[i].term⟩) (rs:=rc') (ce:=ce) ?_ ?_ ?_ ?_ ?_
  ·rw [g op (Ne.symm n1) n6]; exact hop
  ·rw [jI (Ne.symm n2),zp]
  ·exact q1.mono fun o ho=>g o (fun e=>n4 (e▸q2.subset ho)) (fun e=>n11 (e▸q2.subset ho))
  ·rw [g oe (Ne.symm n3) (Ne.symm n10)]; exact hoe
  ·exact hie.mono fun o ho=>g o (fun e=>n5 (e▸ho)) (fun e=>n12 (e▸ho))
 ·refine List.Sublist.nodup (.cons_cons _ (.cons_cons _ (q2.append (List.Sublist.refl _)))) (List.nodup_append.1 hnd).2.1.of_cons
 ·intro o ho
  refine .inl ?_
  simp only [List.mem_cons,List.mem_append] at ho ⊢
  rcases ho with h | h | h | h
  ·exact .inl h
  ·exact .inr (.inl h)
  ·exact .inr (.inr (.inl (q2.subset h)))
  ·exact .inr (.inr (.inr h))
theorem BInv.pars (h:BInv S H hs ob bs T rs ids) (hw:T.Wf) (hi:i<bs.length) : ∃ op,rs.flatten[i*6]? = some (.slice op 0 bs[i].params.length)∧T.get op=some (1,bs[i].params.map vint)∧ob≠op∧(∀ o∈hs,o≠op) ∧ ∀ l:List Int, ∃ rs' ids',rs'.flatten=rs.flatten.set (i*6) (.slice op 0 l.length) ∧
  BInv S H hs ob (bs.set i ⟨l,bs[i].code,bs[i].term⟩) ((T.upd op (1,l.map vint)).upd ob (6,rs'.flatten)) rs' ids':=by
 obtain ⟨r1,r2,i1,i2,op,oc,oe,rc,ce,ip,ic,ie,rfl,h6,hl,hop,hoc,hrc,hoe,hie,rfl,hnd,hput⟩:=h.at hw hi
 obtain ⟨n0,n1,n2,n3,n4,n5,n6,n7,n8,n9,n10,n11,n12,n13,n14,n15,n16,n17⟩:=jbv hnd
 refine ⟨op,Ji h6 hl (q:=0) rfl,hop,n1,fun o ho=>(n0 o ho).2.1,fun l => ?_⟩
 have hfs:=Kb (m:=6) (r:=[V.slice op 0 bs[i].params.length, .slice oc 0 bs[i].code.length,vint bs[i].term.kind,vint bs[i].term.arg, .slice oe 0 bs[i].term.to.length,vl vint bs[i].term.args]) (r2:=r2) (q:=0) (w := .slice op 0 l.length) h6 hl (by simp)
 refine ⟨_,_,hfs.symm,hput _ _ ⟨l,bs[i].code,bs[i].term⟩ (op::oc::(ic++oe::ie)) (Nat.le_refl _) ?_ zp ?_ (List.nodup_append.1 hnd).2.1.of_cons fun o ho => .inl ho⟩
 ·intro o _ h1 h2
  simp only [List.mem_cons,not_or] at h2
  rw [jI h1,jI h2.1]
 ·have g : ∀ o,o≠ob→o≠op→((T.upd op (1,l.map vint)).upd ob (6,(r1++List.set [V.slice op 0 bs[i].params.length, .slice oc 0 bs[i].code.length,vint bs[i].term.kind,vint bs[i].term.arg, .slice oe 0 bs[i].term.to.length,vl vint bs[i].term.args] 0 (.slice op 0 l.length)::r2).flatten)).get o=T.get o:=fun o h1 h2=>by rw [jI h1,jI h2]
  refine jbI (b:=⟨l,bs[i].code,bs[i].term⟩) (rs:=rc) (ce:=ce) ?_ ?_ ?_ ?_ ?_
  ·rw [jI (Ne.symm n1),zp]
  ·rw [g oc (Ne.symm n2) (Ne.symm n6)]; exact hoc
  ·exact hrc.mono fun o ho=>g o (fun e=>n4 (e▸ho)) (fun e=>n8 (e▸ho))
  ·rw [g oe (Ne.symm n3) (Ne.symm n7)]; exact hoe
  ·exact hie.mono fun o ho=>g o (fun e=>n5 (e▸ho)) (fun e=>n9 (e▸ho))
theorem BInv.to (h:BInv S H hs ob bs T rs ids) (hw:T.Wf) (hi:i<bs.length) : ∃ (oe:Nat) (ce:List V),rs.flatten[i*6+4]? = some (.slice oe 0 bs[i].term.to.length)∧T.get oe=some (2,ce):=by
 obtain ⟨r1,r2,i1,i2,op,oc,oe,rc,ce,ip,ic,ie,rfl,h6,hl,hop,hoc,hrc,hoe,hie,rfl,hnd,hput⟩:=h.at hw hi
 exact ⟨oe,ce,Ji h6 hl (q:=4) rfl,hoe⟩
theorem BInv.edge (h:BInv S H hs ob bs T rs ids) (hw:T.Wf) (hi:i<bs.length) {k:Nat} (hk:k<bs[i].term.to.length) : ∃ (oe:Nat) (ce:List V) (oa:Nat),rs.flatten[i*6+4]? = some (.slice oe 0 bs[i].term.to.length)∧T.get oe=some (2,ce)∧ce.length=bs[i].term.to.length*2∧ce[k*2]? = some (vint bs[i].term.to[k].to)∧ce[k*2+1]? = some (.slice oa 0 bs[i].term.to[k].args.length)∧T.get oa=some (1,bs[i].term.to[k].args.map vint)∧oe<T.nx∧ob≠oe∧(∀ o∈hs,o≠oe) ∧
  ∀ (T':Store) (on:Nat) (l:List Int),T.nx≤on→T.nx≤T'.nx→(∀ o,o<T.nx→o≠oe→T'.get o=T.get o)→T'.get oe=some (2,ce.set (k*2+1) (.slice on 0 l.length))→T'.get on=some (1,l.map vint) → ∃ ids',
   BInv S H hs ob (bs.set i ⟨bs[i].params,bs[i].code,⟨bs[i].term.kind,bs[i].term.arg,bs[i].term.to.set k ⟨bs[i].term.to[k].to,l⟩,bs[i].term.args⟩⟩) T' rs ids':=by
 obtain ⟨r1,r2,i1,i2,op,oc,oe,rc,ce,ip,ic,ie,rfl,h6,hl,hop,hoc,hrc,hoe,hie,rfl,hnd,hput⟩:=h.at hw hi
 have hcb:=h.cb
 have hlt:=h.all_lt hw
 obtain ⟨n0,n1,n2,n3,n4,n5,n6,n7,n8,n9,n10,n11,n12,n13,n14,n15,n16,n17⟩:=jbv hnd
 obtain ⟨res,rfl,hrl,hres⟩:=Zl (enc:=jh) (tys:=Km) (fun x=>by rw [jH]; rfl) hie
 obtain ⟨e1,e,e2,j1,jj,j2,rfl,hel,rfl,hrow,hep⟩:=hres.at (List.getElem?_eq_getElem hk)
 have he2:=hres.len.2
 have he1 : ∀ s∈e1,s.length=2:=fun s hs=>he2 s (by simp [hs])
 obtain ⟨oa,rfl,rfl,hoa⟩:=edge_row hrow
 refine ⟨oe,_,oa,Ji h6 hl (q:=4) rfl,hoe, ?_, ?_, ?_,hoa,jr hw hoe,n3,fun o ho=>(n0 o ho).2.2.2.1, ?_⟩
 ·rw [zG he2,hrl]; rfl
 ·exact Ji he1 hel (q:=0) rfl
 ·exact Ji he1 hel (q:=1) rfl
 intro T' on l hon hnx hkeep hge hgn
 have hfs:=Kb (m:=2) (r:=[vint bs[i].term.to[k].to,V.slice oa 0 bs[i].term.to[k].args.length]) (r2:=e2) (q:=1) (w := .slice on 0 l.length) he1 hel (by simp)
 rw [hfs] at hge
 have hin : ∀ o∈op::oc::(ic++oe::(j1++([oa]++j2))),o<T.nx:=fun o ho=>hlt o (by
  simp only [List.mem_append,List.mem_cons,List.not_mem_nil,or_false] at ho ⊢
  rcases ho with h | h | h | h | h | h | h<;>simp [h])
 have hno:on∉op::oc::(ic++oe::(j1++([oa]++j2))):=fun hm=>by have:=hin on hm; omega
 have g : ∀ o,o∈op::oc::(ic++oe::(j1++([oa]++j2)))→o≠oe→T'.get o=T.get o:=fun o ho hne=>hkeep o (hin o ho) hne
 have:=hput T' [V.slice op 0 bs[i].params.length, .slice oc 0 bs[i].code.length,vint bs[i].term.kind,vint bs[i].term.arg, .slice oe 0 bs[i].term.to.length,vl vint bs[i].term.args] ⟨bs[i].params,bs[i].code,⟨bs[i].term.kind,bs[i].term.arg,bs[i].term.to.set k ⟨bs[i].term.to[k].to,l⟩,bs[i].term.args⟩⟩ (op::oc::(ic++oe::(j1++([on]++j2)))) hnx ?_ ?_ ?_ ?_ ?_
 ·exact ⟨_,this⟩
 ·intro o ho _ h2
  refine hkeep o ho ?_
  rintro rfl
  exact h2 (by simp)
 ·rw [hkeep ob (hlt ob (by simp)) n3]; exact hcb
 ·have hr':=hep T' [vint bs[i].term.to[k].to,V.slice on 0 l.length] ⟨bs[i].term.to[k].to,l⟩ [on] (fun o ho=>g o (by
   rcases List.mem_append.1 ho with h | h<;>simp [h]) (fun e=>n14 (e▸by rcases List.mem_append.1 ho with h | h<;>simp [h]))) (edge_mk (e:=⟨bs[i].term.to[k].to,l⟩) hgn)
  have hbm:=jbI (T:=T') (b:=⟨bs[i].params,bs[i].code,⟨bs[i].term.kind,bs[i].term.arg,bs[i].term.to.set k ⟨bs[i].term.to[k].to,l⟩,bs[i].term.args⟩⟩) (op:=op) (oc:=oc) (oe:=oe) (rs:=rc) (ic:=ic) (ce:=(e1++[vint bs[i].term.to[k].to,V.slice on 0 l.length]::e2).flatten) (ie:=j1++([on]++j2)) (by rw [g op (by simp) n7]; exact hop) (by rw [g oc (by simp) n10]; exact hoc)
   (hrc.mono fun o ho=>g o (by simp [ho]) (fun e=>n13 (e▸ho))) hge hr'.owl
  simpa using hbm
 ·have hd2:=(List.nodup_append.1 hnd).2.1.of_cons
  refine List.nodup_iff_count.2 fun o => ?_
  have c:=List.nodup_iff_count.1 hd2 o
  have c0:on=o→(op::oc::(ic++oe::(j1++([oa]++j2)))).count o=0:=fun e=>List.count_eq_zero.2 (e▸hno)
  simp only [List.count_append,List.count_cons,List.count_nil] at c c0 ⊢
  by_cases e:on=o
  ·have:=c0 e
   subst e
   simp only [beq_self_eq_true,if_true]
   omega
  ·have:(on==o)=false:=by simpa using e
   rw [this]
   simp only [Bool.false_eq_true,if_false]
   omega
 ·intro o ho
  simp only [List.mem_append,List.mem_cons,List.not_mem_nil,or_false] at ho ⊢
  rcases ho with h | h | h | h | h | h | h
  ·exact .inl (.inl h)
  ·exact .inl (.inr (.inl h))
  ·exact .inl (.inr (.inr (.inl h)))
  ·exact .inl (.inr (.inr (.inr (.inl h))))
  ·exact .inl (.inr (.inr (.inr (.inr (.inl h)))))
  ·subst h; exact .inr hon
  ·exact .inl (.inr (.inr (.inr (.inr (.inr (.inr h))))))
end
end Go.Vw

namespace Go.Vw
open Go.Proofs Go.RowKit
set_option maxRecDepth 10000
set_option maxHeartbeats 2000000
abbrev idxU (p:Int→Bool) (l:List Int) (k:Nat):Int:=(idxG (fun (_:Unit) x=>p x) (fun _ _=>()) () l k).1
section
variable {S:Store} {l:List Int} {oc:Nat} {fid:FuncId} {caps:List V} {p:Int→Bool}
theorem IndexDelI_v (hc:jO Tryz.prog fid=true) (hlim:l.length<2^62) (hclo : ∀ v∈l,VPure Tryz.prog fid (vint v::caps) (.bool (p v))) (hg:S.get oc=some (1,l.map vint)) :
  VCalls Tryz.prog 74 [.slice oc 0 l.length, .func fid caps] S fun v T=>v=vint (idxU p l 0)∧T=S:=by
 refine jb (c:=jg Tryz.f74) Tryz.func74 rfl rfl (by simp [Tryz.ntmps74]) ?_
 rw [Tryz.ntmps74]
 intro hwf
 have lo:=jr hwf hg
 have b0:=fun u m => @jk S u m oc lo
 repeat (first|refine QG ?_|refine QY ?_ (r:=by conv=>lhs;simp[-List.map_set,QV,b0,hg]))
 repeat refine QS ?_
 refine je [0,1,7,8] rfl (fun c σ S' => ∃ (k:Nat),k≤l.length∧c=l.length-k∧idxU p (l.drop k) k=idxU p l 0∧σ=[(0, .slice oc 0 l.length),(1, .func fid caps),(7,vnat l.length),(8,vnat k)]∧S'=St S [] []) l.length ?_ ?_
 ·exact ⟨0,by omega,rfl,rfl,by simp [Fr.only],rfl⟩
 ·rintro c σ T ⟨k,hk,rfl,hd,rfl,rfl⟩
  by_cases hkt:k<l.length
  ·have hst:idxU p (l.drop k) k=if p l[k] then (k:Int) else idxU p (l.drop (k+1)) (k+1):=by
    rw [List.drop_eq_getElem_cons hkt,idxU,idxG]; split<;>rfl
   have hw:=jm hkt (by omega)
   have cc:=hclo l[k] (List.getElem_mem hkt)
   repeat (first|refine QG ?_|refine QY ?_ (r:=by conv=>lhs;simp[-List.map_set,QV,hkt,b0,hg]))
   repeat refine QS ?_
   refine QP ?_ (r:=by conv=>lhs;simp[-List.map_set,QV,hkt,b0,hg])
   refine qO rfl hc rfl cc ?_
   cases hp:p l[k] with
   | true =>
    rw [hp] at hst
    simp only [if_true] at hst
    rw [hst] at hd
    refine QM (by conv=>lhs;simp[-List.map_set,QV]) ?_
    refine QN ?_
    repeat (first|refine QG ?_|refine QY ?_)
    exact qE ⟨by rw [←hd]; rfl,jQ hwf⟩
   | false =>
    rw [hp] at hst
    simp only [Bool.false_eq_true,if_false] at hst
    refine QM (by conv=>lhs;simp[-List.map_set,QV]) ?_
    refine QN ?_
    repeat (first|refine QG ?_|refine QY ?_ (r:=by conv=>lhs;simp[-List.map_set,QV,hw]))
    show jt _ _ _ _ _ _ _
    exact again ⟨Nat.sub_lt_sub_left hkt (Nat.lt_succ_self k),k+1,hkt,rfl,by rw [←hst,hd],by simp [Fr.only,Fr.look],rfl⟩
  ·have e:l.drop k=[]:=by rw [List.drop_eq_nil_iff]; omega
   rw [e] at hd
   simp only [idxU,idxG] at hd
   repeat (first|refine QG ?_|refine QY ?_ (r:=by conv=>lhs;simp[-List.map_set,QV,hkt]))
   exact qE ⟨congrArg vint hd,jQ hwf⟩
theorem DelI_v (hc:jO Tryz.prog fid=true) (hlim:l.length<2^62) (hclo : ∀ v∈l,VPure Tryz.prog fid (vint v::caps) (.bool (!p v))) (hg:S.get oc=some (1,l.map vint)) :
  VCalls Tryz.prog 30 [.slice oc 0 l.length, .func fid caps] S fun v T=>v = .slice oc 0 (l.filter p).length∧T=S.upd oc (1,(l.filter p).map vint):=by
 have ci:=fun hg => @IndexDelI_v S l oc fid caps (fun v => !p v) hc hlim hclo hg
 have hdel:=KM p l
 refine jb (c:=jg Tryz.f30) Tryz.func30 rfl rfl (by simp [Tryz.ntmps30]) ?_
 rw [Tryz.ntmps30]
 intro hwf
 have lo:=jr hwf hg
 have b0:=fun u m => @jk S u m oc lo
 have hup : ∀ x c,(St S [(oc,x)] []).upd oc c=St S [(oc,some c)] []:=fun x c=>by rw [jP lo]; simp [uSet]
 have ci1:=ci hg
 rw [←jQ hwf] at ci1
 repeat (first|refine QG ?_|refine QY ?_)
 repeat refine QS ?_
 refine QP ?_
 refine jF rfl ci1 ?_
 rintro X T ⟨rfl,rfl⟩
 rcases jby (fun (_:Unit) x => !p x) (fun _ _=>()) l () 0 with ⟨h1,h2⟩ | ⟨i,hi,h1,h2⟩
 ·have h1':idxU (fun v => !p v) l 0 = -1:=h1
  rw [hdel] at h2
  have h3:l.filter p=l:=by simpa using congrArg Prod.fst h2
  refine QM (by conv=>lhs;simp[-List.map_set,QV,h1']) ?_
  refine QN ?_
  repeat (first|refine QG ?_|refine QY ?_)
  refine qE ⟨by rw [h3]; rfl, ?_⟩
  rw [h3,jQ hwf]
  refine Store.ext' (funext fun o => ?_) rfl
  rw [qB]; split
  ·rename_i e; subst e; exact hg
  ·rfl
 rw [Nat.zero_add] at h1
 have hw:=jm hi (by omega)
 have h1':idxU (fun v => !p v) l 0=(i:Int):=h1
 rw [hdel] at h2
 have h2':l.filter p=l.take i++(l.drop (i+1)).filter p:=by
  have:=congrArg Prod.fst h2
  rw [KM p] at this
  exact this
 have hi1 : ¬ ((i:Int) = -1):=by omega
 refine QM (by conv=>lhs;simp[-List.map_set,QV,h1']) ?_
 refine QN ?_
 repeat (first|refine QG ?_|refine QY ?_ (r:=by conv=>lhs;simp[-List.map_set,QV,hi1,hw]))
 repeat refine QS ?_
 refine je [0,1,5,6] rfl (fun c σ S' => ∃ (K:List Int) (j:Nat) (cells:List V),cells.length=l.length∧cells.take K.length=K.map vint∧cells.drop j=(l.drop j).map vint∧K.length<j∧j≤l.length∧c=l.length-j∧K++(l.drop j).filter p=l.filter p∧σ=[(0, .slice oc 0 l.length),(1, .func fid caps),(5,vnat K.length),(6,vnat j)]∧S'=St S [(oc,some (1,cells))] []) (l.length-(i+1)) ?_ ?_
 ·refine ⟨l.take i,i+1,l.map vint,by simp, ?_,by rw [List.map_drop],by simp; omega,by omega,rfl,h2'.symm, ?_, ?_⟩
  ·rw [List.length_take,Nat.min_eq_left (by omega),List.map_take]
  ·simp [Fr.only,Fr.look,Nat.min_eq_left (Nat.le_of_lt hi)]
  ·exact (Yj hwf [(oc,some (1,l.map vint))] (fun p hp=>by simp only [List.mem_singleton] at hp; subst hp; exact hg)).symm▸jQ hwf
 ·rintro c σ T3 ⟨K,j,cells,hcl,hck,hcd,hKj,hj,rfl,hd,rfl,rfl⟩
  by_cases hjt:j<l.length
  ·have hw2:=jm hjt (by omega)
   have hKw:=jm (k:=K.length) (n:=l.length) (by omega) (by omega)
   have hr:=List.drop_eq_getElem_cons hjt
   have hjc:j<cells.length:=by omega
   have hcj:cells[j]=vint l[j]:=by
    have e1:=List.drop_eq_getElem_cons hjc
    rw [e1,hr,List.map_cons] at hcd
    exact (List.cons.inj hcd).1
   have hcd2:cells.drop (j+1)=(l.drop (j+1)).map vint:=by
    have e1:=List.drop_eq_getElem_cons hjc
    rw [e1,hr,List.map_cons] at hcd
    exact (List.cons.inj hcd).2
   have cc:=hclo l[j] (List.getElem_mem hjt)
   rw [hr] at hd
   repeat (first|refine QG ?_|refine QY ?_ (r:=by conv=>lhs;simp[-List.map_set,QV,hjt,hjc,b0,hcl,hcj]))
   repeat refine QS ?_
   refine QP ?_ (r:=by conv=>lhs;simp[-List.map_set,QV,hjt,hjc,b0,hcl,hcj])
   refine qO rfl hc rfl cc ?_
   cases hp:p l[j] with
   | false =>
    rw [List.filter_cons_of_neg (by simp [hp])] at hd
    refine QM (by conv=>lhs;simp[-List.map_set,QV]) ?_
    refine QN ?_
    repeat (first|refine QG ?_|refine QY ?_ (r:=by conv=>lhs;simp[-List.map_set,QV,hw2]))
    show jt _ _ _ _ _ _ _
    exact again ⟨Nat.sub_lt_sub_left hjt (Nat.lt_succ_self j),K,j+1,cells,hcl,hck,hcd2,by omega,hjt,rfl,hd,by simp [Fr.only,Fr.look],rfl⟩
   | true =>
    rw [List.filter_cons_of_pos hp] at hd
    have hK:K.length<cells.length:=by omega
    have hKl:K.length<l.length:=by omega
    refine QM (by conv=>lhs;simp[-List.map_set,QV]) ?_
    refine QN ?_
    repeat (first|refine QG ?_|refine QY ?_ (r:=by conv=>lhs;simp[-List.map_set,QV,hw2,hKw,hjt,hjc,hcl,b0,hK,hKl,hup]))
    have hsl:K.length+[vint l[j]].length≤cells.length:=by simp; omega
    have hsp:cells.set K.length (vint l[j])=qb cells K.length [vint l[j]]:=by
     rw [qb,List.set_eq_take_append_cons_drop]; simp [hK]
    refine again ⟨Nat.sub_lt_sub_left hjt (Nat.lt_succ_self j),K++[l[j]],j+1,cells.set K.length (vint l[j]),by rw [List.length_set]; exact hcl, ?_, ?_,by simp; omega,hjt,rfl,by rw [←hd]; simp,by simp [Fr.only,Fr.look],rfl⟩
    ·have:=Zj cells K.length [vint l[j]] hsl
     rw [hck] at this
     rw [hsp]
     simpa using this
    ·rw [hsp,Zk _ _ _ _ hsl (by simp; omega)]; exact hcd2
  ·have hje:j=l.length:=by omega
   subst hje
   have e:l.drop l.length=[]:=by simp
   rw [e,List.filter_nil,List.append_nil] at hd
   have hKl:K.length≤l.length:=by omega
   have hclr:JE 1 [V.int .i64 0] (St S [(oc,some (1,cells))] []) (.slice oc K.length (l.length-K.length))=some (St S [(oc,some (1,qb cells K.length (rep0 [V.int .i64 0] (l.length-K.length))))] []):=by
    have hle:K.length+(l.length-K.length)*1≤cells.length:=by omega
    simp only [JE,b0,uGet,if_true,hle,hup]
   generalize hcz:qb cells K.length (rep0 [V.int .i64 0] (l.length-K.length))=cz at hclr
   have hct:cz.take K.length=K.map vint:=by rw [←hcz,Yp _ _ _ (by omega),hck]
   repeat (first|refine QG ?_|refine QY ?_ (r:=by conv=>lhs;simp[-List.map_set,QV,hjt,b0]))
   repeat refine QS ?_
   refine QP ?_ (r:=by conv=>lhs;simp[-List.map_set,QV,b0,hKl,hclr])
   refine QN ?_
   have hgu:(St S [(oc,some (1,cz))] []).get oc=some (1,cz):=by rw [b0]; simp [uGet]
   apply jE
   ·exact Reach.trim 0 rfl hgu K.length
   simp only [hct,hup]
   repeat (first|refine QG ?_|refine QY ?_ (r:=by conv=>lhs;simp[-List.map_set,QV,b0,hKl]))
   refine qE ⟨by rw [←hd]; rfl, ?_⟩
   rw [JJ hwf lo,hd]
end
end Go.Vw
