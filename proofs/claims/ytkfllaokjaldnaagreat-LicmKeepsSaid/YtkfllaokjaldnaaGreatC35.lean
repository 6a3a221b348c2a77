import Derived.Test.YtkfllaokjaldnaaGreatC34
import Derived.Test.YtkfllaokjaldnaaGreatC27
import Derived.Test.YtkfllaokjaldnaaGreatC31
import Derived.Test.YtkfllaokjaldnaaGreatC28
import Derived.Test.YtkfllaokjaldnaaGreatC22
/-
  Part of the proof (texts LPure, BAlive, LAlive, LTal, ECopy, KCopy).
-/
set_option linter.unusedVariables false
set_option linter.unusedSimpArgs false
namespace Go.Vw
open Go.Proofs Go.RowKit
set_option maxRecDepth 10000
set_option maxHeartbeats 2000000
theorem LicRunErr_v (e:Ss.Env) (f:Ss.Fn) (he:e.Fits) (hf:f.Fits) (hc:Ss.check e f=false):VPure Tryz.prog 9 [zG e,qL f] (.tuple [qL Ss.emptyFn,vint 6]):=by
 intro S;have cck:=Check_v e f he hf;generalize Ss.check e f=ck at *
 obtain ⟨⟨fi,fo⟩,ts,bs⟩:=f;obtain ⟨sg,im,gl,mu,me⟩:=e;have cck':VPure Tryz.prog 23 [.agg [vl jS sg,vint im,vl vint gl,vl V.bool mu, .bool me], .agg [vl vint fi,vl vint fo,vl vint ts,vl jd bs]] (.bool ck):=cck;refine qY (c:=jg Tryz.f9) Tryz.func9 rfl (by conv=>lhs; reduce) (by simp [Tryz.ntmps9]) ?_;rw [Tryz.ntmps9];intro hwf
 repeat refine QS ?_
 refine QY ?_;refine QH 2 0 ?_;refine QH 3 1 ?_;refine jI [2,3,4,5] (by conv=>lhs; simp [Fr.only,Fr.look]) ?_;refine zI [2] hwf (by decide) (by simp [-List.map_set]) (by conv=>lhs; simp [-List.map_set]) (by conv=>lhs; simp [-List.map_set]) (by conv=>lhs; simp [-List.map_set]) ?_
 repeat first|refine QG ?_|refine QY ?_
 repeat refine QS ?_
 refine QP ?_;refine jc (cck') (by rfl) ?_;refine QM (by conv=>lhs;simp[-List.map_set,QV,hc]) ?_;refine QN ?_
 repeat first|refine QG ?_|refine QY ?_ (r:=by conv=>lhs;simp[-List.map_set,QV,hc])
 refine doneC (xs:=[.agg [.nils, .nils, .nils, .nils], .int .i64 6]) (by simp) ?_;exact JS hwf ((Ghost.tuple [] [_] (empty_ghost _)).toB _) WV (by rfl)
theorem LicP_v (e:Ss.Env) (f:Ss.Fn) (he:e.Fits) (hf:f.Fits):VPure Tryz.prog 9 [zG e,qL f] (.tuple [qL (Ss.licOut e f).1,vint (Ss.licOut e f).2]):=by
 cases hc:Ss.check e f with
 | false=>rw [Ss.licOut_f hc]; exact LicRunErr_v e f he hf hc
 | true =>
  rw [Ss.licOut_t hc];intro S;refine Js fun hwf=>zC ((LicRun_v S e f he hf hc).mono ?_)
  rintro r T ⟨r',rfl,hag,hwT,ot,ob,cells,ids,rfl,hot,hob,how,hnd,hids⟩;have hg:=fn_ghostD (fi:=(Ss.licF f).sig.inn) (fo:=(Ss.licF f).sig.out) how hob rfl hot rfl hnd;have hfin:Agree S (T.dels (ot::ob::ids)):=by
   refine ⟨by rw [jce]; exact hag.1,fun o ho => ?_⟩;rw [Yy,if_neg]
   ·exact hag.2 o ho
   ·intro hm;have:=(hids o hm).1; omega
  exact JS hwf ((Ghost.tuple [] [_] hg).toB _) hfin (by simp [qL])
end Go.Vw

namespace Ss
def smallB:Fn:=⟨⟨[127,127],[127]⟩,[127,127],[⟨[0,1],[⟨258,0,[],[]⟩,⟨257,8,[0],[]⟩,⟨257,4,[0],[]⟩,⟨257,4,[1],[]⟩],⟨4,0,[],[0]⟩⟩]⟩
def smallB':Fn:=⟨⟨[127,127],[127]⟩,[127,127],[⟨[0,1],[⟨258,0,[],[]⟩,⟨257,8,[0],[]⟩,⟨257,4,[1],[]⟩],⟨4,0,[],[0]⟩⟩]⟩
def envB:Env:=⟨[],0,[],[],true⟩
end Ss
namespace Go.Vw
open Go.Proofs Go.RowKit
set_option maxRecDepth 10000
set_option maxHeartbeats 8000000
end Go.Vw

namespace Go.Vw
open Go.Proofs Go.RowKit
set_option maxRecDepth 10000
set_option maxHeartbeats 8000000
theorem loop14_v:VPure Tryz.prog 40 [] (qL Ss.smallL):=by
 intro S;have hr2:rep0 [V.int .i64 0] 2=[.int .i64 0, .int .i64 0]:=rfl;have hr3:rep0 [V.int .i64 0] 3=[.int .i64 0, .int .i64 0, .int .i64 0]:=rfl;have hr1:rep0 [V.int .i64 0] 1=[.int .i64 0]:=rfl;have hr4:rep0 [V.int .i64 0, .int .u64 0, .nils, .nils] 1=[.int .i64 0, .int .u64 0, .nils, .nils]:=rfl;have hr8:rep0 [V.int .i64 0, .int .u64 0, .nils, .nils] 2=[.int .i64 0, .int .u64 0, .nils, .nils, .int .i64 0, .int .u64 0, .nils, .nils]:=rfl;have hre:rep0 [V.int .i64 0, .nils] 1=[.int .i64 0, .nils]:=rfl;have hrb:rep0 [V.nils, .nils, .int .i64 0, .int .i64 0, .nils, .nils] 2=[.nils, .nils, .int .i64 0, .int .i64 0, .nils, .nils, .nils, .nils, .int .i64 0, .int .i64 0, .nils, .nils]:=rfl;refine qY (c:=jg Tryz.f40) Tryz.func40 rfl (by conv=>lhs; reduce) (by simp [Tryz.ntmps40]) ?_;rw [Tryz.ntmps40];intro hwf
 repeat refine QS ?_
 refine QY ?_
 repeat refine QS ?_
 refine QY ?_ (r:=by conv=>lhs;simp[-List.map_set,QV,hr2,hr1,hr4,hre])
 apply js
 ·exact Reach.nilCell (k:=2) (i:=2) (by simp) (by rfl) (by rfl)
 simp only [List.set_cons_succ,List.set_cons_zero]
 apply js
 ·exact Reach.nilCell (k:=2) (i:=3) (by simp) (by rfl) (by rfl)
 simp only [List.set_cons_succ,List.set_cons_zero]
 apply js
 ·exact Reach.frzCellS (enc:=jq) (s:=4) (fun _=>rfl) qZ (k:=4) (j:=2) (i:=1) [⟨258,0,[],[]⟩] (by decide) (by simp) (by simp) (by rfl) (by rfl) (by rfl)
 simp only [List.set_cons_succ,List.set_cons_zero]
 apply js
 ·exact Reach.frzCell (k:=4) (j:=1) (i:=0) (by decide) (by simp) (by simp) (by rfl) (by rfl) (by rfl) (by rfl) (by rfl)
 simp only [List.set_cons_succ,List.set_cons_zero]
 apply js
 ·exact Reach.nilCell (k:=3) (i:=1) (by simp) (by rfl) (by rfl)
 simp only [List.set_cons_succ,List.set_cons_zero]
 apply js
 ·exact Reach.frzCellS (enc:=jk) (s:=2) (fun _=>rfl) qN (k:=4) (j:=3) (i:=4) [⟨1,[]⟩] (by decide) (by simp) (by simp) (by rfl) (by rfl) (by rfl)
 simp only [List.set_cons_succ,List.set_cons_zero]
 apply js
 ·exact Reach.nilCell (k:=4) (i:=5) (by simp) (by rfl) (by rfl)
 simp only [List.set_cons_succ,List.set_cons_zero]
 repeat refine QS ?_
 refine QY ?_ (r:=by conv=>lhs;simp[-List.map_set,QV,hr2,hr1,hr8,hre])
 apply js
 ·exact Reach.nilCell (k:=7) (i:=2) (by simp) (by rfl) (by rfl)
 simp only [List.set_cons_succ,List.set_cons_zero]
 apply js
 ·exact Reach.nilCell (k:=7) (i:=3) (by simp) (by rfl) (by rfl)
 simp only [List.set_cons_succ,List.set_cons_zero]
 apply js
 ·exact Reach.frzCell (k:=7) (j:=5) (i:=6) (by decide) (by simp) (by simp) (by rfl) (by rfl) (by rfl) (by rfl) (by rfl)
 simp only [List.set_cons_succ,List.set_cons_zero]
 apply js
 ·exact Reach.frzCell (k:=7) (j:=6) (i:=7) (by decide) (by simp) (by simp) (by rfl) (by rfl) (by rfl) (by rfl) (by rfl)
 simp only [List.set_cons_succ,List.set_cons_zero]
 apply js
 ·exact Reach.frzCellS (enc:=jq) (s:=4) (fun _=>rfl) qZ (k:=9) (j:=7) (i:=1) [⟨258,0,[],[]⟩,⟨106,0,[0,1],[2]⟩] (by decide) (by simp) (by simp) (by rfl) (by rfl) (by rfl)
 simp only [List.set_cons_succ,List.set_cons_zero]
 apply js
 ·exact Reach.nilCell (k:=8) (i:=1) (by simp) (by rfl) (by rfl)
 simp only [List.set_cons_succ,List.set_cons_zero]
 apply js
 ·exact Reach.frzCellS (enc:=jk) (s:=2) (fun _=>rfl) qN (k:=9) (j:=8) (i:=4) [⟨1,[]⟩] (by decide) (by simp) (by simp) (by rfl) (by rfl) (by rfl)
 simp only [List.set_cons_succ,List.set_cons_zero]
 apply js
 ·exact Reach.nilCell (k:=9) (i:=0) (by simp) (by rfl) (by rfl)
 simp only [List.set_cons_succ,List.set_cons_zero]
 apply js
 ·exact Reach.nilCell (k:=9) (i:=5) (by simp) (by rfl) (by rfl)
 simp only [List.set_cons_succ,List.set_cons_zero]
 repeat refine QS ?_
 refine QY ?_ (r:=by conv=>lhs;simp[-List.map_set,QV,hr2,hr3,hrb])
 apply js
 ·exact Reach.frzCell (k:=0) (j:=10) (i:=0) (by decide) (by simp) (by simp) (by rfl) (by rfl) (by rfl) (by rfl) (by rfl)
 simp only [List.set_cons_succ,List.set_cons_zero]
 apply js
 ·exact Reach.nilCell (k:=0) (i:=1) (by simp) (by rfl) (by rfl)
 simp only [List.set_cons_succ,List.set_cons_zero]
 apply js
 ·exact Reach.frzCell (k:=0) (j:=11) (i:=2) (by decide) (by simp) (by simp) (by rfl) (by rfl) (by rfl) (by rfl) (by rfl)
 simp only [List.set_cons_succ,List.set_cons_zero]
 apply js
 ·exact Reach.frzCellS (enc:=jd) (s:=6) (fun _=>rfl) zo (k:=0) (j:=12) (i:=3) [⟨[0,1],[⟨258,0,[],[]⟩],⟨1,0,[⟨1,[]⟩],[]⟩⟩,⟨[],[⟨258,0,[],[]⟩,⟨106,0,[0,1],[2]⟩],⟨1,0,[⟨1,[]⟩],[]⟩⟩] (by decide) (by simp) (by simp) (by rfl) (by rfl) (by rfl)
 simp only [List.set_cons_succ,List.set_cons_zero]
 repeat first|refine QG ?_|refine QY ?_
 exact doneC (by simp; rfl) (ja hwf (by simp [Ss.smallL,vl]) rfl)
theorem envL_ghost (S:Store):Ghost (.agg [.nils, .int .i64 0, .nils, .nils, .bool false]) S (zG Ss.envL) S:=by
 refine Ghost.agg_nl rfl fun i x y hx hy => ?_
 match i,hx,hy with
 | 0,hx,hy=>cases hx; cases hy; exact .inr ⟨rfl,rfl⟩
 | 1,hx,hy=>cases hx; cases hy; exact .inl rfl
 | 2,hx,hy=>cases hx; cases hy; exact .inr ⟨rfl,rfl⟩
 | 3,hx,hy=>cases hx; cases hy; exact .inr ⟨rfl,rfl⟩
 | 4,hx,hy=>cases hx; cases hy; exact .inl rfl
theorem Alive14_v:VPure Tryz.prog 12 [] (.bool true):=by
 intro S;have hr1:rep0 [V.int .i64 0] 1=[.int .i64 0]:=rfl;have cs:=loop14_v;have cb:=LicP_v Ss.envL Ss.smallL Ss.envL_fits Ss.smallL_fits;have cp:=Porch_v Ss.smallL Ss.smallL_fits 1 [1] (by decide);rw [Ss.smallL_out] at cb;rw [Ss.smallL_porch] at cp;have hF':qL Ss.smallL' = .agg [vl vint [127,127],vl vint [],vl vint [127,127,127],vl jd [⟨[0,1],[⟨258,0,[],[]⟩,⟨106,0,[0,1],[2]⟩],⟨1,0,[⟨1,[]⟩],[]⟩⟩,⟨[],[⟨258,0,[],[]⟩],⟨1,0,[⟨1,[]⟩],[]⟩⟩]]:=rfl;obtain ⟨f1,f2,f3,f4,hF,o1,o2,o3,o4,c1,c2,c3,c4⟩ : ∃ f1 f2 f3 f4,qL Ss.smallL = .agg [f1,f2,f3,f4]∧f1.one=true∧f2.one=true∧f3.one=true∧f4.one=true∧f1.closed1=true∧f2.closed1=true∧f3.closed1=true∧f4.closed1=true:=⟨_,_,_,_,rfl,rfl,rfl,rfl,rfl,rfl,rfl,rfl,rfl⟩
 rw [hF] at cs cb cp;rw [hF'] at cb;refine jb (c:=jg Tryz.f12) Tryz.func12 rfl rfl (by simp [Tryz.ntmps12]) ?_;rw [Tryz.ntmps12];intro hwf
 repeat refine QS ?_
 refine QY ?_
 repeat refine QS ?_
 refine QP ?_;refine jp rfl (cs) ?_;refine zj rfl (GhostArgs.one [] [_] (envL_ghost _)) cb ?_;refine QW ?_;refine QH 1 0 ?_
 repeat refine QS ?_
 refine QP ?_;refine jp rfl (cs) ?_;refine QM (by conv=>lhs;simp[-List.map_set,QV,hr1]) ?_;refine zj rfl (GhostArgs.one [_,_] [] (frz1 (k:=1) (len:=1) (by simp) rfl rfl rfl)) cp ?_;simp only [porchV];refine QW ?_;have hix0 : ∀ S,qo 6 S (vl jd [⟨[0,1],[⟨258,0,[],[]⟩,⟨106,0,[0,1],[2]⟩],⟨1,0,[⟨1,[]⟩],[]⟩⟩,⟨[],[⟨258,0,[],[]⟩],⟨1,0,[⟨1,[]⟩],[]⟩⟩]) (.int .i64 0)=some (.ref (.agg [vl vint [0,1],vl jq [⟨258,0,[],[]⟩,⟨106,0,[0,1],[2]⟩], .int .i64 1, .int .i64 0,vl jk [⟨1,[]⟩],vl vint []])):=fun _=>rfl
 have hix1 : ∀ S,qo 6 S (vl jd [⟨[0,1],[⟨258,0,[],[]⟩,⟨106,0,[0,1],[2]⟩],⟨1,0,[⟨1,[]⟩],[]⟩⟩,⟨[],[⟨258,0,[],[]⟩],⟨1,0,[⟨1,[]⟩],[]⟩⟩]) (.int .i64 1)=some (.ref (.agg [vl vint [],vl jq [⟨258,0,[],[]⟩], .int .i64 1, .int .i64 0,vl jk [⟨1,[]⟩],vl vint []])):=fun _=>rfl
 repeat first|refine QG ?_|refine QY ?_ (r:=by conv=>lhs;simp[-List.map_set,QV,hix0,hix1])
 exact ja (X := .bool true) hwf (by simp) rfl
end Go.Vw

namespace Ss
/-! ### How many instructions of each kind -/
def slotI (a:Int):Nat:=(BitVec.ofInt 64 a &&& BitVec.ofInt 64 1023).toNat
theorem slotI_lt (a:Int):slotI a<1024:=by
 have h:(BitVec.ofInt 64 1023).toNat=1023:=by decide
 have:slotI a≤1023:=by
  rw [slotI,BitVec.toNat_and,h];exact Nat.and_le_right
 omega
def cnt (l:List Ins) (j:Nat):Nat:=l.countP fun x=>slotI x.op=j
theorem cnt_le (l:List Ins) (j:Nat):cnt l j≤l.length:=List.countP_le_length
def tal (A B:List Ins):List Int:=(List.range 1024).map fun j=>(cnt A j:Int)-(cnt B j:Int)
theorem tal_len (A B:List Ins):(tal A B).length=1024:=by simp [tal]
theorem tal_get (A B:List Ins) {j:Nat} (h:j<(tal A B).length):(tal A B)[j]=(cnt A j:Int)-(cnt B j:Int):=by simp [tal]
theorem tal_up (A B:List Ins) (x:Ins):(tal A B).set (slotI x.op) ((cnt A (slotI x.op):Int)-(cnt B (slotI x.op):Int)+1)=tal (A++[x]) B:=by
 refine List.ext_getElem (by simp [tal_len]) fun j h1 h2 => ?_
 rw [List.getElem_set,tal_get,tal_get]
 by_cases e:slotI x.op=j
 ·subst e;rw [if_pos rfl];simp only [cnt,List.countP_append,List.countP_singleton,decide_true,if_true];omega
 ·rw [if_neg e];simp only [cnt,List.countP_append,List.countP_singleton];simp [e]
theorem tal_down (A B:List Ins) (x:Ins):(tal A B).set (slotI x.op) ((cnt A (slotI x.op):Int)-(cnt B (slotI x.op):Int)-1)=tal A (B++[x]):=by
 refine List.ext_getElem (by simp [tal_len]) fun j h1 h2 => ?_
 rw [List.getElem_set,tal_get,tal_get]
 by_cases e:slotI x.op=j
 ·subst e;rw [if_pos rfl];simp only [cnt,List.countP_append,List.countP_singleton,decide_true,if_true];omega
 ·rw [if_neg e];simp only [cnt,List.countP_append,List.countP_singleton];simp [e]
theorem tal_zero {A B:List Ins} (h:A.Perm B):tal A B=List.replicate 1024 0:=by
 refine List.ext_getElem (by rw [tal_len,List.length_replicate]) fun j h1 h2 => ?_
 rw [tal_get,List.getElem_replicate];have:cnt A j=cnt B j:=h.countP_eq _;omega
theorem tal_nil:tal [] []=List.replicate 1024 0:=tal_zero (List.Perm.refl _)
theorem and_slot (a:Int):Go.IntKind.i64.wrap ((BitVec.ofInt Go.IntKind.i64.bits a &&& BitVec.ofInt Go.IntKind.i64.bits 1023).toNat:Int)=(slotI a:Int):=by
 have h:=slotI_lt a;have e:((BitVec.ofInt Go.IntKind.i64.bits a &&& BitVec.ofInt Go.IntKind.i64.bits 1023).toNat:Int)=(slotI a:Int):=rfl;rw [e];exact Go.Vw.wrap_i64 (by omega) (by omega)
end Ss
namespace Ss
def bareF (f:Fn):Fn:=⟨f.sig,f.types,f.blocks.map bare⟩
theorem codes_len (bs:List Block):(bs.flatMap Block.code).length=count bs:=by
 rw [List.length_flatMap]; rfl
theorem codes_take (bs:List Block) (k:Nat):((bs.take k).flatMap Block.code).length≤count bs:=by
 have h:(bs.take k).flatMap Block.code++(bs.drop k).flatMap Block.code=bs.flatMap Block.code:=by rw [←List.flatMap_append,List.take_append_drop]
 have h2:=congrArg List.length h;have h3:=codes_len bs;rw [List.length_append] at h2;omega
theorem codes_step {bs:List Block} {k:Nat} (h:k<bs.length):(bs.take (k+1)).flatMap Block.code=(bs.take k).flatMap Block.code++bs[k].code:=by
 rw [List.take_add_one,List.getElem?_eq_getElem h,List.flatMap_append]; simp
theorem codes_at {bs:List Block} {k j:Nat} (h:k<bs.length) (hj:j≤bs[k].code.length):((bs.take k).flatMap Block.code++bs[k].code.take j).length≤count bs:=by
 have h1:=codes_take bs (k+1);rw [codes_step h,List.length_append] at h1;rw [List.length_append,List.length_take,Nat.min_eq_left hj];omega
theorem bare_small {f:Fn} (h:f.small=true):(bareF f).small=true:=by
 obtain ⟨h1,h2,h3⟩:=(small_iff f).1 h;refine (small_iff _).2 ⟨?_, ?_, ?_⟩
 ·simp only [bareF,Fn.heads,List.length_map] at h1 ⊢;exact h1
 ·intro b hb;obtain ⟨c,hc,rfl⟩:=List.mem_map.1 hb;have:=h2 c hc;simp only [Block.small,Bool.and_eq_true] at this;simp only [Block.small,bare,Bool.and_eq_true];exact ⟨⟨this.1.1,rfl⟩,this.2⟩
 ·have h0 : ∀ l:List Block,count (l.map bare)=0:=by
   intro l
   induction l with
   | nil=>rfl
   | cons b l ih =>
    simp only [count,List.map_cons,List.sum_cons,bare,List.length_nil] at ih ⊢;omega
  have:count (bareF f).blocks=0:=h0 _;omega
theorem bare_fits {f:Fn} (h:f.Fits):(bareF f).Fits:=by
 obtain ⟨h1,h2,h3,h4⟩:=h;refine ⟨h1,h2,by simpa [bareF] using h3,fun b hb => ?_⟩;obtain ⟨c,hc,rfl⟩:=List.mem_map.1 hb;obtain ⟨k1,k2,k3⟩:=h4 c hc;exact ⟨k1,⟨by simp [bare],by simp [bare]⟩,k3⟩
def bareTo (bs:List Block) (k:Nat):List Block:=(bs.take k).map bare++bs.drop k
theorem bareTo_zero (bs:List Block):bareTo bs 0=bs:=by simp [bareTo]
theorem bareTo_len (bs:List Block) {k:Nat} (h:k≤bs.length):(bareTo bs k).length=bs.length:=by simp [bareTo]; omega
theorem bareTo_end (bs:List Block):bareTo bs bs.length=bs.map bare:=by simp [bareTo]
theorem bareTo_at {bs:List Block} {k:Nat} (h:k<bs.length) (h2:k<(bareTo bs k).length):(bareTo bs k)[k]=bs[k]:=by
 simp only [bareTo];rw [List.getElem_append_right (by simp; omega)];simp [Nat.min_eq_left (Nat.le_of_lt h)]
theorem bareTo_step {bs:List Block} {k:Nat} (h:k<bs.length):(bareTo bs k).set k (bare bs[k])=bareTo bs (k+1):=by
 simp only [bareTo];rw [List.set_append_right _ _ (by simp; omega),List.length_map,List.length_take,Nat.min_eq_left (Nat.le_of_lt h),Nat.sub_self,List.drop_eq_getElem_cons h,List.set_cons_zero,List.take_add_one,List.getElem?_eq_getElem h,List.map_append];simp
end Ss
namespace Ss
theorem and_slot2 (a:Int):Go.IntKind.i64.wrap (((a % 2^Go.IntKind.i64.bits).toNat &&& 1023 % 2^Go.IntKind.i64.bits:Nat):Int)=(slotI a:Int):=by
 have h:=and_slot a;simpa using h
end Ss

namespace Go.Vw
open Go.Proofs Go.RowKit
set_option maxRecDepth 10000
set_option maxHeartbeats 2000000
abbrev blkE:List Ty:=[.c, .s (List.replicate 4 .c), .c, .c, .s (List.replicate 2 .c), .c]
def CopiedE (S:Store) (g:Ss.Fn) (r:V) (T:Store):Prop:=Agree S T∧T.Wf ∧ ∃ (ot ob:Nat) (cells:List V) (ids:List Nat),r = .agg [vl vint g.sig.inn,vl vint g.sig.out, .slice ot 0 g.types.length, .slice ob 0 g.blocks.length]∧T.get ot=some (1,g.types.map vint)∧T.get ob=some (6,cells)∧OwL T (reps g.blocks.length blkE) cells (jo jd g.blocks) ids∧(ot::ob::ids).Nodup ∧ ∀ o∈ot::ob::ids,S.nx≤o∧o<T.nx
end Go.Vw

namespace Go.Vw
open Go.Proofs Go.RowKit
set_option maxRecDepth 10000
set_option maxHeartbeats 2000000
theorem jy (f:Nat→Nat) (l:List Ss.Block):V.renL f (jo jd l)=jo jd l:=JA zo f l
theorem jt (p:Nat→Bool) (l:List Ss.Block):V.idsL p (jo jd l)=true:=JB zo p l
theorem RReplaceB_v (S:Store) (f:Ss.Fn) (to:List Int) (hf:f.Fits) (hs:f.small=true) (hto:to.length<2^63):VCalls Tryz.prog 57 [qL f,vl vint to] S fun r T=>r = .agg [vl vint f.sig.inn,vl vint f.sig.out,vl vint f.types, .slice (lid S.nx 0) 0 f.blocks.length]∧T=St S [] [some (6,jo jd (f.blocks.map (Ss.repBlock to)))]:=by
 have csm:=WX f hf;rw [hs] at csm;obtain ⟨hh,hbk,hcnt⟩:=(Ss.small_iff f).1 hs;simp only [Ss.Fn.heads,Bool.and_eq_true,decide_eq_true_eq] at hh;obtain ⟨sm,hsm⟩ : ∃ sm,sm=true:=⟨_,rfl⟩
 rw [←hsm] at csm;have cfi:=Zz f.sig.inn (by omega);have cfo:=Zz f.sig.out (by omega);have cft:=Zz f.types (by omega);have csw:=fun l hl=>swap_v l to hl hto
 have cpu:=fun v=>put_v v to hto
 have hbF:=hf.2.2.2;obtain ⟨⟨fi,fo⟩,ts,bs⟩:=f;simp only at hh hbk hbF hcnt cfi cfo cft ⊢;have csm':VPure Tryz.prog 35 [.agg [vl vint fi,vl vint fo,vl vint ts,vl jd bs]] (.bool sm):=csm;refine qY (c:=jg Tryz.f57) Tryz.func57 rfl (by conv=>lhs; reduce) (by simp [Tryz.ntmps57]) ?_;rw [Tryz.ntmps57];intro hwf
 repeat first|refine QG ?_|refine QY ?_
 refine QH 2 0 ?_
 repeat refine QS ?_
 refine QP ?_;refine jc (csm') (by rfl) ?_;refine QM (by conv=>lhs;simp[-List.map_set,QV,hsm]) ?_;refine QN ?_
 repeat first|refine QG ?_|refine QY ?_ (r:=by conv=>lhs;simp[-List.map_set,QV,hsm])
 refine jI [1,2,4] (by conv=>lhs; simp [Fr.only,Fr.look]) ?_;refine zI [1] hwf (by decide) (by simp [-List.map_set]) (by conv=>lhs; simp [-List.map_set]) (by conv=>lhs; simp [-List.map_set]) (by conv=>lhs; simp [-List.map_set]) ?_
 repeat refine QS ?_
 refine jP (St S [] []) (St S [] []) [] rfl (by kernel_rfl) (by conv=>lhs; reduce) (by conv=>lhs; reduce) (by kernel_rfl) (by kernel_rfl) (jm (by simp [subU,shpU,subL,shpL])) (by conv=>lhs; simp [-List.map_set,QV]) ?_;refine jc (cfi) (by rfl) ?_;refine QZ ?_;refine jc (cfo) (by rfl) ?_;refine QZ ?_;refine jc (cft) (by rfl) ?_;refine QZ ?_;refine jf rfl (by conv=>lhs;simp[-List.map_set,QV]) (jm (by simp [subU,shpU,subL,shpL])) ?_;refine QZ ?_;refine jf rfl (by conv=>lhs;simp[-List.map_set,QV]) (jm (by simp [subU,shpU,subL,shpL])) ?_;refine QW ?_
 repeat first|refine QG ?_|refine QY ?_
 apply js
 ·exact Reach.voidCell 6 (k:=1) (i:=3) (by simp) (by rfl) (by rfl)
 simp only [List.cons_append,List.nil_append,List.length_cons,List.length_nil,List.set_cons_succ,List.set_cons_zero];refine jI [1,2,4,5,6] (by conv=>lhs; simp [Fr.only,Fr.look]) ?_;refine zI [0,1,2] hwf (by decide) (by simp [-List.map_set]) (by conv=>lhs; simp [-List.map_set]) (by conv=>lhs; simp [-List.map_set]) (by conv=>lhs; simp [-List.map_set]) ?_
 repeat refine QS ?_
 refine je [1,2,4,5,6] rfl (fun c σ S' => ∃ (k:Nat) (out:List Ss.Block),k≤bs.length∧c=bs.length-k∧out=(bs.take k).map (Ss.repBlock to)∧out.length=k∧σ=[(1,vl vint to),(2, .ref (.agg [vl vint fi,vl vint fo,vl vint ts,vl jd bs])),(4, .ptr (lid S.nx 0) 0),(5, .ptr (lid S.nx 1) 0),(6,vnat k)]∧S'=St S [] [some (4,[.nils, .nils, .nils, .nils]),some (4,[vl vint fi,vl vint fo,vl vint ts, .slice (lid S.nx 2) 0 k]),some (6,jo jd out)]) bs.length ?_ ?_
 ·exact ⟨0,[],by omega,rfl,by simp,rfl,by simp [Fr.only],by simp [jo]⟩
 ·rintro c σ T ⟨k,out,hk,rfl,ho,hol,rfl,rfl⟩
  by_cases hkt:k<bs.length
  case neg =>
   have hke:k=bs.length:=by omega
   subst hke;rw [List.take_length] at ho
   repeat first|refine QG ?_|refine QY ?_ (r:=by conv=>lhs;simp[-List.map_set,QV,hkt])
   refine doneC (xs:=[.agg [vl vint fi,vl vint fo,vl vint ts, .slice (lid S.nx 2) 0 bs.length]]) (by simp) ?_;rw [tupV_1];refine done_gc [2] hwf (by decide) (by simp [jy,jt]) (by first | (simp [jy,jt]; done) | (simp [jy,jt]; rfl)) (by first | (simp; done) | (simp; rfl)) ⟨rfl,by rw [ho]⟩
  have hw:=jn hkt (by omega);have hbF':=hbF _ (List.getElem_mem hkt);have hbk':=hbk _ (List.getElem_mem hkt);have htk:(bs.take (k+1)).map (Ss.repBlock to)=(bs.take k).map (Ss.repBlock to)++[Ss.repBlock to bs[k]]:=by rw [List.take_add_one,List.getElem?_eq_getElem hkt,List.map_append]; rfl
  obtain ⟨⟨ps,code,⟨tk,ta,tt,az⟩⟩,hx⟩ : ∃ b,bs[k]=b:=⟨_,rfl⟩
  rw [hx] at hbF' hbk' htk;simp only [Ss.Block.small,Bool.and_eq_true,List.all_eq_true,Ss.Ins.small,Ss.Edge.small,decide_eq_true_eq] at hbk';obtain ⟨⟨⟨⟨hps,htt⟩,haz⟩,hcode⟩,hto2⟩:=hbk';have hcl:=hcnt;have hcb:code.length≤4096:=by
   have:=count_mem (List.getElem_mem hkt);rw [hx] at this;simp only at this;omega
  have cps:=Zz ps (by omega)
  repeat first|refine QG ?_|refine QY ?_ (r:=by conv=>lhs;simp[-List.map_set,QV,hkt,hx])
  refine QH 7 3 ?_
  repeat refine QS ?_
  refine QP ?_;refine jc (cps) (by rfl) ?_;refine QW ?_
  repeat first|refine QG ?_|refine QY ?_
  apply js
  ·exact Reach.voidCell 4 (k:=4) (i:=1) (by simp) (by rfl) (by rfl)
  simp only [List.cons_append,List.nil_append,List.length_cons,List.length_nil,List.set_cons_succ,List.set_cons_zero];refine jI [1,2,4,5,6,7,8,9] (by conv=>lhs; simp [Fr.only,Fr.look]) ?_;refine zI [0,1,2,4,5] hwf (by decide) (by simp [-List.map_set,jy,jt]) (by conv=>lhs; simp [-List.map_set,jy,jt]) (by conv=>lhs; simp [-List.map_set,jy,jt]) (by conv=>lhs; simp [-List.map_set,jy,jt]) ?_
  repeat refine QS ?_
  refine je [1,2,4,5,6,7,8,9] rfl (fun c σ S' => ∃ (j:Nat) (co:List Ss.Ins),j≤code.length∧c=code.length-j∧co=(code.take j).map (Ss.repIns to)∧co.length=j∧σ=[(1,vl vint to),(2, .ref (.agg [vl vint fi,vl vint fo,vl vint ts,vl jd bs])),(4, .ptr (lid S.nx 0) 0),(5, .ptr (lid S.nx 1) 0),(6,vnat k),(7, .ref (.agg [vl vint ps,vl jq code, .int .i64 tk, .int .i64 ta,vl jk tt,vl vint az])),(8, .ptr (lid S.nx 3) 0),(9,vnat j)]∧S'=St S [] [some (4,[.nils, .nils, .nils, .nils]),some (4,[vl vint fi,vl vint fo,vl vint ts, .slice (lid S.nx 2) 0 k]),some (6,jo jd out),some (6,[vl vint ps, .slice (lid S.nx 4) 0 j, .int .i64 0, .int .i64 0, .nils, .nils]),some (4,jo jq co)]) code.length ?_ ?_
  ·exact ⟨0,[],by omega,rfl,by simp,rfl,by simp [Fr.only],by simp [jo]⟩
  ·rintro c σ T ⟨j,co,hj,rfl,hco,hcol,rfl,rfl⟩
   by_cases hjt:j<code.length
   case neg =>
    have hje:j=code.length:=by omega
    subst hje;rw [List.take_length] at hco;have cza:=csw az (by omega);have cta:=cpu ta;generalize hgz:az.map (Ss.putv to)=gz at *
    generalize hgt:Ss.putv to ta=gt at *
    repeat first|refine QG ?_|refine QY ?_ (r:=by conv=>lhs;simp[-List.map_set,QV,hjt])
    refine QH 11 5 ?_
    repeat refine QS ?_
    refine jP (St S [] []) (St S [] [none,none,none,some (6,[])]) [] rfl (by kernel_rfl) (by conv=>lhs; reduce) (by conv=>lhs; reduce) (by kernel_rfl) (by kernel_rfl) (jm (by simp [subU,shpU,subL,shpL])) (by conv=>lhs; simp [-List.map_set,QV]) ?_;refine jc (cza) (by rfl) ?_;refine QZ ?_;refine jf rfl (by conv=>lhs;simp[-List.map_set,QV]) (jm (by simp [subU,shpU,subL,shpL])) ?_;refine QW ?_;refine jI [1,2,4,5,6,8,11] (by conv=>lhs; simp [Fr.only,Fr.look]) ?_;refine zI [0,1,2,3,4] hwf (by decide) (by simp [-List.map_set,jy,jt,ze,qK]) (by conv=>lhs; simp [-List.map_set,jy,jt,ze,qK]) (by conv=>lhs; simp [-List.map_set,jy,jt,ze,qK]) (by conv=>lhs; simp [-List.map_set,jy,jt,ze,qK]) ?_;refine JV rfl ?_;refine WZ (fun σ S'=>σ=[(1,vl vint to),(2, .ref (.agg [vl vint fi,vl vint fo,vl vint ts,vl jd bs])),(4, .ptr (lid S.nx 0) 0),(5, .ptr (lid S.nx 1) 0),(6,vnat k),(8, .ptr (lid S.nx 3) 0),(11, .ref (.agg [.int .i64 tk, .int .i64 ta,vl jk tt,vl vint az]))]∧S'=St S [] [some (4,[.nils, .nils, .nils, .nils]),some (4,[vl vint fi,vl vint fo,vl vint ts, .slice (lid S.nx 2) 0 k]),some (6,jo jd out),some (6,[vl vint ps, .slice (lid S.nx 4) 0 code.length, .int .i64 tk, .int .i64 (if tk=2∨tk=3 then gt else ta), .nils,vl vint gz]),some (4,jo jq co)]) [1,2,4,5,6,8,11] ?_ ?_
    ·by_cases h2:tk=2
     ·repeat first|refine QG ?_|refine QY ?_ (r:=by conv=>lhs;simp[-List.map_set,QV,h2])
      repeat refine QS ?_
      refine QP ?_;refine jc (cta) (by rfl) ?_;refine QW ?_
      repeat first|refine QG ?_|refine QY ?_
      exact ⟨by simp [Fr.only,h2],by simp [h2]⟩
     by_cases h3:tk=3
     ·repeat first|refine QG ?_|refine QY ?_ (r:=by conv=>lhs;simp[-List.map_set,QV,h2,h3])
      repeat refine QS ?_
      refine QP ?_;refine jc (cta) (by rfl) ?_;refine QW ?_
      repeat first|refine QG ?_|refine QY ?_
      exact ⟨by simp [Fr.only,h3],by simp [h3]⟩
     ·repeat first|refine QG ?_|refine QY ?_ (r:=by conv=>lhs;simp[-List.map_set,QV,h2,h3])
      exact ⟨by simp [Fr.only],by simp [h2,h3]⟩
    rintro σ S' ⟨rfl,rfl⟩;generalize hgg:(if tk=2∨tk=3 then gt else ta)=gg
    repeat first|refine QG ?_|refine QY ?_
    apply js
    ·exact Reach.voidCell 2 (k:=3) (i:=4) (by simp) (by rfl) (by rfl)
    simp only [List.cons_append,List.nil_append,List.length_cons,List.length_nil,List.set_cons_succ,List.set_cons_zero]
    repeat refine QS ?_
    refine je [1,2,4,5,6,8,11,12] rfl (fun c σ S' => ∃ (j:Nat) (eo:List Ss.Edge),j≤tt.length∧c=tt.length-j∧eo=(tt.take j).map (Ss.repEdge to)∧eo.length=j∧σ=[(1,vl vint to),(2, .ref (.agg [vl vint fi,vl vint fo,vl vint ts,vl jd bs])),(4, .ptr (lid S.nx 0) 0),(5, .ptr (lid S.nx 1) 0),(6,vnat k),(8, .ptr (lid S.nx 3) 0),(11, .ref (.agg [.int .i64 tk, .int .i64 ta,vl jk tt,vl vint az])),(12,vnat j)]∧S'=St S [] [some (4,[.nils, .nils, .nils, .nils]),some (4,[vl vint fi,vl vint fo,vl vint ts, .slice (lid S.nx 2) 0 k]),some (6,jo jd out),some (6,[vl vint ps, .slice (lid S.nx 4) 0 code.length, .int .i64 tk, .int .i64 gg, .slice (lid S.nx 5) 0 j,vl vint gz]),some (4,jo jq co),some (2,jo jk eo)]) tt.length ?_ ?_
    ·exact ⟨0,[],by omega,rfl,by simp,rfl,by simp [Fr.only],by simp [jo]⟩
    ·rintro c σ T ⟨j,eo,hj,rfl,heo,heol,rfl,rfl⟩
     by_cases hjt:j<tt.length
     case neg =>
      have hje:j=tt.length:=by omega
      subst hje;rw [List.take_length] at heo
      repeat first|refine QG ?_|refine QY ?_ (r:=by conv=>lhs;simp[-List.map_set,QV,hjt])
      have hcel:(jo jd out).length=k*6:=by rw [Jc (s:=6) (fun _=>by rw [jO]; rfl),hol]
      have hb:(k+1)*112≤140737488355328:=by omega
      have hb':k+1≤140737488355328:=by omega
      have hblk:Ss.repBlock to ⟨ps,code,⟨tk,ta,tt,az⟩⟩=⟨ps,co,⟨tk,gg,eo,gz⟩⟩:=by
       simp only [Ss.repBlock,Ss.repTerm,hgt,hgz,hgg,hco,heo]
      have hcv:(vl jq co).one=true∧(vl jk eo).one=true:=⟨rfl,rfl⟩
      rw [←hcol, ←heol]
      apply js
      ·exact Reach.frzCellS (enc:=jq) (s:=4) (fun _=>by rw [qW]; rfl) qZ (k:=3) (j:=4) (i:=1) co (by decide) (by simp) (by simp) (by rfl) (by rfl) (by simp [jt,qK,Jp])
      simp only [List.set_cons_succ,List.set_cons_zero]
      apply js
      ·exact Reach.frzCellS (enc:=jk) (s:=2) (fun _=>by rw [za]; rfl) qN (k:=3) (j:=5) (i:=4) eo (by decide) (by simp) (by simp) (by rfl) (by rfl) (by simp [jt,qK,Jp])
      simp only [List.set_cons_succ,List.set_cons_zero]
      repeat first|refine QG ?_|refine QY ?_ (r:=by conv=>lhs;simp[-List.map_set,QV,hb,hb',hcel,rep0,hw])
      refine jY [0,1,7] (by conv=>lhs; simp [Fr.only]) hwf (by decide) (by simp [-List.map_set,jy,jt]) (by conv=>lhs; simp [-List.map_set,jy,jt]) (by conv=>lhs; simp [-List.map_set,jy,jt]) (by conv=>lhs; simp [-List.map_set,jy,jt]) ⟨?_,k+1,out++[⟨ps,co,⟨tk,gg,eo,gz⟩⟩],hkt,rfl,by rw [htk,hblk,ho],by simp [hol],by simp,by simp [zF,jO]⟩;omega
     have hwj:=jn hjt (by omega);have hej:=hto2 _ (List.getElem_mem hjt);have hcj:(tt.take (j+1)).map (Ss.repEdge to)=(tt.take j).map (Ss.repEdge to)++[Ss.repEdge to tt[j]]:=by rw [List.take_add_one,List.getElem?_eq_getElem hjt,List.map_append]; rfl
     obtain ⟨⟨xt,xa⟩,hx2⟩ : ∃ x,tt[j]=x:=⟨_,rfl⟩
     rw [hx2] at hcj hej;simp only at hej;have cxa:=csw xa (by omega);have hfl:(jo jk eo).length=j*2:=by rw [Jc (s:=2) (fun _=>by rw [za]; rfl),heol]
     have hb:(j+1)*32≤140737488355328:=by omega
     have hb':j+1≤140737488355328:=by omega
     generalize hga:xa.map (Ss.putv to)=ga at *
     repeat first|refine QG ?_|refine QY ?_ (r:=by conv=>lhs;simp[-List.map_set,QV,hjt])
     repeat refine QS ?_
     refine jP (St S [] []) (St S [] [none,none,none,some (6,[])]) [110] rfl (by kernel_rfl) (by conv=>lhs; reduce) (by conv=>lhs; reduce) (by kernel_rfl) (by kernel_rfl) (jm (by simp [subU,shpU,subL,shpL])) (by conv=>lhs; simp [-List.map_set,QV,hjt,hx2]) ?_;refine jc (cxa) (by rfl) ?_;refine QZ ?_;refine jf rfl (by conv=>lhs;simp[-List.map_set,QV,rep0]) (jm (by simp [subU,shpU,subL,shpL])) ?_;refine QZ ?_;refine jf rfl (by conv=>lhs;simp[-List.map_set,QV,hb,hb',hfl]) (jm (by simp [subU,shpU,subL,shpL])) ?_;refine QZ ?_;refine jf rfl (by conv=>lhs;simp[-List.map_set,QV]) (jm (by simp [subU,shpU,subL,shpL])) ?_;refine QW ?_
     repeat first|refine QG ?_|refine QY ?_ (r:=by conv=>lhs;simp[-List.map_set,QV,hwj])
     refine jY [0,1,2,3,4,7] (by conv=>lhs; simp [Fr.only]) hwf (by decide) (by simp [-List.map_set,jy,jt,ze,qK,KK,Jp]) (by conv=>lhs; simp [-List.map_set,jy,jt,ze,qK,KK,Jp]) (by conv=>lhs; simp [-List.map_set,jy,jt,ze,qK,KK,Jp]) (by conv=>lhs; simp [-List.map_set,jy,jt,ze,qK,KK,Jp]) ⟨?_,j+1,eo++[Ss.repEdge to ⟨xt,xa⟩],hjt,rfl,by rw [hcj,heo],by simp [heol],by simp [hwj],by simp [zF,Ss.repEdge,hga]⟩;omega
   have hwj:=jn hjt (by omega);have hcj:(code.take (j+1)).map (Ss.repIns to)=(code.take j).map (Ss.repIns to)++[Ss.repIns to code[j]]:=by rw [List.take_add_one,List.getElem?_eq_getElem hjt,List.map_append]; rfl
   have hsj:=hcode _ (List.getElem_mem hjt);obtain ⟨⟨xo,xn,xa,xu⟩,hx2⟩ : ∃ x,code[j]=x:=⟨_,rfl⟩
   rw [hx2] at hcj hsj;simp only at hsj;have cxa:=csw xa (by omega);have cxu:=Zz xu (by omega);have hfl:(jo jq co).length=j*4:=by rw [Jc (s:=4) (fun _=>by rw [qW]; rfl),hcol]
   have hb:(j+1)*64≤140737488355328:=by omega
   have hb':j+1≤140737488355328:=by omega
   generalize hga:xa.map (Ss.putv to)=ga at *
   repeat first|refine QG ?_|refine QY ?_ (r:=by conv=>lhs;simp[-List.map_set,QV,hjt,hx2])
   refine QH 10 5 ?_
   repeat refine QS ?_
   refine jP (St S [] []) (St S [] [none,none,none,some (6,[])]) [59] rfl (by kernel_rfl) (by conv=>lhs; reduce) (by conv=>lhs; reduce) (by kernel_rfl) (by kernel_rfl) (jm (by simp [subU,shpU,subL,shpL])) (by conv=>lhs; simp [-List.map_set,QV]) ?_;refine jc (cxa) (by rfl) ?_;refine QZ ?_;refine jc (cxu) (by rfl) ?_;refine QZ ?_;refine jf rfl (by conv=>lhs;simp[-List.map_set,QV,rep0]) (jm (by simp [subU,shpU,subL,shpL])) ?_;refine QZ ?_;refine jf rfl (by conv=>lhs;simp[-List.map_set,QV,hb,hb',hfl]) (jm (by simp [subU,shpU,subL,shpL])) ?_;refine QZ ?_;refine jf rfl (by conv=>lhs;simp[-List.map_set,QV]) (jm (by simp [subU,shpU,subL,shpL])) ?_;refine QW ?_
   repeat first|refine QG ?_|refine QY ?_ (r:=by conv=>lhs;simp[-List.map_set,QV,hwj])
   refine jY [0,1,2,3,7] (by conv=>lhs; simp [Fr.only]) hwf (by decide) (by simp [-List.map_set,jy,jt,ze,qK]) (by conv=>lhs; simp [-List.map_set,jy,jt,ze,qK]) (by conv=>lhs; simp [-List.map_set,jy,jt,ze,qK]) (by conv=>lhs; simp [-List.map_set,jy,jt,ze,qK]) ⟨?_,j+1,co++[Ss.repIns to ⟨xo,xn,xa,xu⟩],hjt,rfl,by rw [hcj,hco],by simp [hcol],by simp [hwj],by simp [zF,Ss.repIns,hga]⟩;omega
theorem RCopyB_v (S:Store) (f:Ss.Fn) (hf:f.Fits) (hs:f.small=true):VCalls Tryz.prog 18 [qL f] S fun r T=>r = .agg [vl vint f.sig.inn,vl vint f.sig.out,vl vint f.types, .slice (lid S.nx 0) 0 f.blocks.length]∧T=St S [] [some (6,jo jd f.blocks)]:=by
 have cr : ∀ S,VCalls Tryz.prog 57 [qL f, .nils] S fun r T=>r = .agg [vl vint f.sig.inn,vl vint f.sig.out,vl vint f.types, .slice (lid S.nx 0) 0 f.blocks.length]∧T=St S [] [some (6,jo jd f.blocks)]:=fun S=>by
  have h:=RReplaceB_v S f [] hf hs (by simp);have hX:Ss.replace f []=⟨f.sig,f.types,f.blocks.map (Ss.repBlock [])⟩:=rfl;rw [Ss.replace_nil] at hX;have hb:f.blocks.map (Ss.repBlock [])=f.blocks:=by
   obtain ⟨⟨_,_⟩,_,_⟩:=f;simp only [Ss.Fn.mk.injEq] at hX;exact hX.2.2.symm
  rw [hb] at h;exact zx (GhostArgs.one [qL f] [] (Ghost.nils_list S)) h
 obtain ⟨⟨fi,fo⟩,ts,bs⟩:=f;have cr' : ∀ S,VCalls Tryz.prog 57 [.agg [vl vint fi,vl vint fo,vl vint ts,vl jd bs], .nils] S fun r T=>r = .agg [vl vint fi,vl vint fo,vl vint ts, .slice (lid S.nx 0) 0 bs.length]∧T=St S [] [some (6,jo jd bs)]:=cr
 refine qY (c:=jg Tryz.f18) Tryz.func18 rfl (by conv=>lhs; reduce) (by simp [Tryz.ntmps18]) ?_;rw [Tryz.ntmps18];intro hwf
 repeat first|refine QG ?_|refine QY ?_
 refine QH 1 0 ?_;have cr2:=cr' (St S [] [none,some (4,[.nils, .nils, .nils, .nils])]);rw [qp,qJ, ←Jh] at cr2;simp only [List.cons_append,List.nil_append,List.length_cons,List.length_nil,Nat.zero_add,Nat.add_zero] at cr2
 repeat refine QS ?_
 refine QP ?_;refine ql rfl cr2 ?_;rintro X T ⟨rfl,rfl⟩;refine QW ?_
 repeat first|refine QG ?_|refine QY ?_
 refine doneC (xs:=[.agg [vl vint fi,vl vint fo,vl vint ts, .slice (lid S.nx 2) 0 bs.length]]) (by simp) ?_;rw [tupV_1];refine done_gc [2] hwf (by decide) (by simp [jy,jt]) (by first | (simp [jy,jt]; done) | (simp [jy,jt]; rfl)) (by first | (simp; done) | (simp; rfl)) ⟨rfl,rfl⟩
end Go.Vw
