import Derived.Test.YtenhhokhkkfgbaaGreatC12
import Derived.Test.YtenhhokhkkfgbaaGreatC11
/-
  Part of the proof (texts SSmall, VTwo).
-/
set_option linter.unusedVariables false
set_option linter.unusedSimpArgs false
namespace Go.Vw
open Go.Proofs Go.RowKit
set_option maxRecDepth 10000
set_option maxHeartbeats 8000000
theorem short1_v (l:List Int):VPure Tryz.prog 117 ([vl vint l]++[]) (.bool (decide (4096<l.length))):=by
 intro S
 refine jb (c:=jg Tryz.f117) Tryz.func117 rfl rfl (by simp [Tryz.ntmps117]) ?_
 rw [Tryz.ntmps117]
 intro hwf
 repeat (first|refine QG ?_|refine QY ?_)
 exact ja hwf (by simp; omega) rfl
theorem jbd (ls:List (List Int)) (hl:ls.length<2^63):VPure Tryz.prog 93 [vl (vl vint) ls] (.bool (Ss.shortL ls)):=by
 intro S
 have e:(!ls.any fun l=>decide (4096<l.length))=Ss.shortL ls:=by
  rw [Ss.shortL,List.not_any_eq_all_not]
  congr 1; funext l; by_cases h:l.length≤4096<;>simp [h]<;>omega
 rw [←e]
 refine jb (c:=jg Tryz.f93) Tryz.func93 rfl rfl (by simp [Tryz.ntmps93]) ?_
 rw [Tryz.ntmps93]
 intro hwf
 repeat (first|refine QG ?_|refine QY ?_)
 repeat refine QS ?_
 refine QP ?_
 refine jA rfl (AnyL_v ls (fun l=>decide (4096<l.length)) _ [] rfl hl (fun l _=>short1_v l)) ?_
 refine QM (by conv=>lhs;simp[-List.map_set,QV]) ?_
 refine QN ?_
 repeat (first|refine QG ?_|refine QY ?_)
 exact ja hwf rfl rfl
theorem shortL_1 (a:List Int):Ss.shortL [a]=decide (a.length≤4096):=by simp [Ss.shortL]
theorem YM (a b:List Int):Ss.shortL [a,b]=(decide (a.length≤4096)&&decide (b.length≤4096)):=by simp [Ss.shortL]
theorem shortL_3 (a b c:List Int):Ss.shortL [a,b,c]=(decide (a.length≤4096)&&decide (b.length≤4096)&&decide (c.length≤4096)):=by simp [Ss.shortL,Bool.and_assoc]
theorem small_v (f:Ss.Fn) (hf:f.Fits):VPure Tryz.prog 58 [qx f] (.bool f.small):=by
 intro S
 obtain ⟨⟨fi,fo⟩,ts,bs⟩:=f
 obtain ⟨_,_,hbl0,hbf⟩:=hf
 simp only at hbl0 hbf
 have hbl:bs.length<2^63:=by omega
 refine jb (c:=jg Tryz.f58) Tryz.func58 rfl rfl (by simp [Tryz.ntmps58]) ?_
 rw [Tryz.ntmps58]
 intro hwf
 repeat (first|refine QG ?_|refine QY ?_)
 repeat refine QS ?_
 refine QP ?_
 refine zk (xs':=[vl (vl vint) [ts,fi,fo]]) rfl (GhostArgs.one [] [] (frz1 (k:=1) (len:=3) (by simp) rfl rfl rfl)) (jbd _ (by simp)) ?_
 simp only [List.set_cons_succ,List.set_cons_zero]
 cases h1:Ss.shortL [ts,fi,fo] with
 | false =>
  refine QM (by conv=>lhs;simp[-List.map_set,QV,h1]) ?_
  refine QN ?_
  repeat (first|refine QG ?_|refine QY ?_)
  refine ja hwf ?_ rfl
  rw [shortL_3] at h1
  simp [Ss.Fn.small,Ss.Fn.heads] at h1 ⊢
  omega
 | true =>
 by_cases h2:(4096:Int)<(bs.length:Int)
 ·refine QM (by conv=>lhs;simp[-List.map_set,QV,h1,h2]) ?_
  refine QN ?_
  repeat (first|refine QG ?_|refine QY ?_)
  exact ja hwf (by simp [Ss.Fn.small,Ss.Fn.heads]; omega) rfl
 have hh:Ss.Fn.small ⟨⟨fi,fo⟩,ts,bs⟩=Ss.smallFrom 0 bs:=by
  have:Ss.Fn.heads ⟨⟨fi,fo⟩,ts,bs⟩=true:=by rw [shortL_3] at h1; simp [Ss.Fn.heads] at h1 ⊢; omega
  simp [Ss.Fn.small,this]
 rw [hh]
 refine QM (by conv=>lhs;simp[-List.map_set,QV,h1,h2]) ?_
 refine QN ?_
 repeat (first|refine QG ?_|refine QY ?_)
 refine js [3,28,29,30] (by conv=>lhs; simp [Fr.only,Fr.look]) ?_
 refine zL [0] hwf (by decide) (by simp [-List.map_set]) (by conv=>lhs; simp [-List.map_set]) (by conv=>lhs; simp [-List.map_set]) (by conv=>lhs; simp [-List.map_set]) ?_
 repeat refine QS ?_
 refine je [3,28,29,30] rfl (fun c σ S' => ∃ (k n:Nat),k≤bs.length∧n≤4096∧c=bs.length-k∧Ss.smallFrom n (bs.drop k)=Ss.smallFrom 0 bs∧σ=[(3,vint (4096-(n:Int))),(28,vl jc bs),(29,vnat bs.length),(30,vnat k)]∧S'=St S [] [some (4,[vl vint fi,vl vint fo,vl vint ts,vl jc bs])]) bs.length ?_ ?_
 ·exact ⟨0,0,by omega,by omega,rfl,rfl,by simp [Fr.only],rfl⟩
 ·rintro c σ T ⟨k,n,hk,hn,rfl,hd,rfl,rfl⟩
  by_cases hkt:k<bs.length
  ·have hw:=jm hkt hbl
   have hbk:=hbf _ (List.getElem_mem hkt)
   have hst:=Ss.drop_small (n:=n) hkt
   obtain ⟨⟨ps,code,⟨tk,ta,to,az⟩⟩,hb⟩ : ∃ b,bs[k]=b:=⟨_,rfl⟩
   rw [hb] at hst hbk
   obtain ⟨_,⟨hcl0,_⟩,_,_,⟨htl0,_⟩,_⟩:=hbk
   simp only at hcl0 htl0
   have hcl:code.length<2^63:=by omega
   have htl:to.length<2^63:=by omega
   have hwn:IntKind.i64.wrap (4096-(n:Int)-(code.length:Int))=4096-(n:Int)-(code.length:Int):=wrap_i64 (by omega) (by omega)
   have hS:Ss.Block.small ⟨ps,code,⟨tk,ta,to,az⟩⟩=(decide (ps.length≤4096)&&decide (to.length≤4096)&&decide (az.length≤4096)&&code.all Ss.Ins.small&&to.all Ss.Edge.small):=rfl
   by_cases g1:4096-(n:Int)-(code.length:Int)<0
   ·have e:Ss.smallFrom n (bs.drop k)=false:=by rw [hst]; simp; omega
    rw [←hd,e]
    repeat (first|refine QG ?_|refine QY ?_ (r:=by conv=>lhs;simp[-List.map_set,QV,hkt,hb,hwn,g1]))
    exact ja hwf rfl rfl
   repeat (first|refine QG ?_|refine QY ?_ (r:=by conv=>lhs;simp[-List.map_set,QV,hkt,hb,hwn,g1]))
   repeat refine QS ?_
   refine QP ?_ (r:=by conv=>lhs;simp[-List.map_set,QV,hkt,hb,hwn,g1])
   refine zk (xs':=[vl (vl vint) [ps,az]]) rfl (GhostArgs.one [] [] (frz1 (k:=2) (len:=2) (by simp) rfl rfl rfl)) (jbd _ (by simp)) ?_
   simp only [List.set_cons_succ,List.set_cons_zero]
   cases g2:Ss.shortL [ps,az] with
   | false =>
    have e:Ss.smallFrom n (bs.drop k)=false:=by rw [YM] at g2; rw [hst,hS]; simp at g2 ⊢; omega
    rw [←hd,e]
    refine QM (by conv=>lhs;simp[-List.map_set,QV,g2]) ?_
    refine QN ?_
    repeat (first|refine QG ?_|refine QY ?_)
    exact ja hwf rfl rfl
   | true =>
   by_cases g3:(4096:Int)<(to.length:Int)
   ·have e:Ss.smallFrom n (bs.drop k)=false:=by rw [hst,hS]; simp; omega
    rw [←hd,e]
    refine QM (by conv=>lhs;simp[-List.map_set,QV,g2,g3]) ?_
    refine QN ?_
    repeat (first|refine QG ?_|refine QY ?_)
    exact ja hwf rfl rfl
   rw [YM] at g2
   have g2':ps.length≤4096∧az.length≤4096:=by simpa using g2
   rw [show decide (n+code.length≤4096)=true by simp; omega,hS,show decide (ps.length≤4096)=true by simp; omega,show decide (to.length≤4096)=true by simp; omega,show decide (az.length≤4096)=true by simp; omega,Bool.true_and,Bool.true_and,Bool.true_and,Bool.true_and] at hst
   rw [←YM] at g2
   refine QM (by conv=>lhs;simp[-List.map_set,QV,g2,g3]) ?_
   refine QN ?_
   repeat (first|refine QG ?_|refine QY ?_)
   refine js [3,5,28,29,30,59,60,61] (by conv=>lhs; simp [Fr.only,Fr.look]) ?_
   refine zL [0,1] hwf (by decide) (by simp [-List.map_set]) (by conv=>lhs; simp [-List.map_set]) (by conv=>lhs; simp [-List.map_set]) (by conv=>lhs; simp [-List.map_set]) ?_
   repeat refine QS ?_
   refine je [3,5,28,29,30,59,60,61] rfl (fun c σ S' => ∃ (j:Nat),j≤code.length∧c=code.length-j∧(code.drop j).all Ss.Ins.small=code.all Ss.Ins.small∧σ=[(3,vint (4096-(n:Int)-(code.length:Int))),(5, .ptr (lid S.nx 1) 0),(28,vl jc bs),(29,vnat bs.length),(30,vnat k),(59,vl jl code),(60,vnat code.length),(61,vnat j)]∧S'=St S [] [some (4,[vl vint fi,vl vint fo,vl vint ts,vl jc bs]),some (6,[vl vint ps,vl jl code, .int .i64 tk, .int .i64 ta,vl jh to,vl vint az])]) code.length ?_ ?_
   ·exact ⟨0,by omega,rfl,rfl,by simp [Fr.only],rfl⟩
   ·rintro c σ T ⟨j,hj,rfl,hdj,rfl,rfl⟩
    by_cases hjt:j<code.length
    ·have hwj:=jm hjt hcl
     have hstj:=Ss.drop_all Ss.Ins.small hjt
     obtain ⟨⟨io,iN,ia,iu⟩,hx⟩ : ∃ b,code[j]=b:=⟨_,rfl⟩
     rw [hx] at hstj
     have hX:Ss.Ins.small ⟨io,iN,ia,iu⟩=Ss.shortL [ia,iu]:=(YM _ _).symm
     rw [hX] at hstj
     repeat (first|refine QG ?_|refine QY ?_ (r:=by conv=>lhs;simp[-List.map_set,QV,hjt,hx]))
     repeat refine QS ?_
     refine QP ?_ (r:=by conv=>lhs;simp[-List.map_set,QV,hjt,hx])
     refine zk (xs':=[vl (vl vint) [ia,iu]]) rfl (GhostArgs.one [] [] (frz1 (k:=3) (len:=2) (by simp) rfl rfl rfl)) (jbd _ (by simp)) ?_
     simp only [List.set_cons_succ,List.set_cons_zero]
     cases q1:Ss.shortL [ia,iu] with
     | false =>
      rw [q1,Bool.false_and] at hstj
      have e:code.all Ss.Ins.small=false:=by rw [←hdj,hstj]
      rw [←hd,hst,e]
      refine QM (by conv=>lhs;simp[-List.map_set,QV,q1]) ?_
      refine QN ?_
      repeat (first|refine QG ?_|refine QY ?_)
      exact ja hwf rfl rfl
     | true =>
      rw [q1,Bool.true_and] at hstj
      refine QM (by conv=>lhs;simp[-List.map_set,QV,q1]) ?_
      refine QN ?_
      repeat (first|refine QG ?_|refine QY ?_)
      refine QA [0,1] (h:=⟨?_,j+1,hjt,rfl,by rw [←hdj,hstj],by simp [hwj],rfl⟩)
      omega
    ·rw [Ss.drop_all_end _ hjt] at hdj
     rw [←hdj,Bool.true_and] at hst
     repeat (first|refine QG ?_|refine QY ?_ (r:=by conv=>lhs;simp[-List.map_set,QV,hjt]))
     repeat refine QS ?_
     refine je [3,28,29,30,75,76,77] rfl (fun c σ S' => ∃ (j:Nat),j≤to.length∧c=to.length-j∧(to.drop j).all Ss.Edge.small=to.all Ss.Edge.small∧σ=[(3,vint (4096-(n:Int)-(code.length:Int))),(28,vl jc bs),(29,vnat bs.length),(30,vnat k),(75,vl jh to),(76,vnat to.length),(77,vnat j)]∧S'=St S [] [some (4,[vl vint fi,vl vint fo,vl vint ts,vl jc bs]),some (6,[vl vint ps,vl jl code, .int .i64 tk, .int .i64 ta,vl jh to,vl vint az])]) to.length ?_ ?_
     ·exact ⟨0,by omega,rfl,rfl,by simp [Fr.only],rfl⟩
     ·rintro c σ T ⟨j,hj,rfl,hdj,rfl,rfl⟩
      by_cases hjt:j<to.length
      ·have hwj:=jm hjt htl
       have hstj:=Ss.drop_all Ss.Edge.small hjt
       obtain ⟨⟨io,ia⟩,hx⟩ : ∃ b,to[j]=b:=⟨_,rfl⟩
       rw [hx] at hstj
       have hX:Ss.Edge.small ⟨io,ia⟩=Ss.shortL [ia]:=(shortL_1 _).symm
       rw [hX] at hstj
       repeat (first|refine QG ?_|refine QY ?_ (r:=by conv=>lhs;simp[-List.map_set,QV,hjt,hx]))
       repeat refine QS ?_
       refine QP ?_ (r:=by conv=>lhs;simp[-List.map_set,QV,hjt,hx])
       refine zk (xs':=[vl (vl vint) [ia]]) rfl (GhostArgs.one [] [] (frz1 (k:=3) (len:=1) (by simp) rfl rfl rfl)) (jbd _ (by simp)) ?_
       simp only [List.set_cons_succ,List.set_cons_zero]
       cases q1:Ss.shortL [ia] with
       | false =>
        rw [q1,Bool.false_and] at hstj
        have e:to.all Ss.Edge.small=false:=by rw [←hdj,hstj]
        rw [←hd,hst,e]
        refine QM (by conv=>lhs;simp[-List.map_set,QV,q1]) ?_
        refine QN ?_
        repeat (first|refine QG ?_|refine QY ?_)
        exact ja hwf rfl rfl
       | true =>
        rw [q1,Bool.true_and] at hstj
        refine QM (by conv=>lhs;simp[-List.map_set,QV,q1]) ?_
        refine QN ?_
        repeat (first|refine QG ?_|refine QY ?_)
        refine QA [0,1] (h:=⟨?_,j+1,hjt,rfl,by rw [←hdj,hstj],by simp [hwj],rfl⟩)
        omega
      ·rw [Ss.drop_all_end _ hjt] at hdj
       rw [←hdj] at hst
       repeat (first|refine QG ?_|refine QY ?_ (r:=by conv=>lhs;simp[-List.map_set,QV,hjt,hw]))
       refine QA [0] (h:=⟨?_,k+1,n+code.length,hkt,by omega,rfl,by rw [←hd,hst,Bool.true_and],by simp; omega,rfl⟩)
       omega
  ·rw [Ss.drop_small_end hkt] at hd
   rw [←hd]
   repeat (first|refine QG ?_|refine QY ?_ (r:=by conv=>lhs;simp[-List.map_set,QV,hkt]))
   exact ja hwf rfl rfl
end Go.Vw

/-
  Regions that draw, with two allocations that stand in no order: a walk for each of the two orders.
-/
namespace Go.Vw
open Go.RowKit
def jD (ops:Array Oper) (j i:Nat):Array Oper:=ops.modify j fun o=>{ o with after:=o.after.push ⟨i, .data⟩ }
theorem ze (ops:Array Oper) (j i:Nat):(jD ops j i).size=ops.size:=by simp [jD]
theorem JI (ops:Array Oper) {j i k:Nat} (h:k≠j):(jD ops j i)[k]? = ops[k]? := by
  simp only [jD,Array.getElem?_modify]
  rw [if_neg (Ne.symm h)]
theorem jai (ops:Array Oper) {j i:Nat} {o:Oper} (h:ops[j]? = some o):(jD ops j i)[j]? = some { o with after:=o.after.push ⟨i, .data⟩ }:=by
  simp only [jD,Array.getElem?_modify,if_true,h,Option.map_some]
theorem Zu {ops:Array Oper} {i j k:Nat} {listed:Array Bool} (h:k∈Region.ready .any (jD ops j i) listed):k∈Region.ready .any ops listed:=by
  obtain ⟨h1,o,ho,hall⟩:=mem_ready.1 h
  by_cases e:k=j
  · subst e
    cases hk:ops[k]? with
    | none =>
      have:(jD ops k i).size≤k:=by rw [ze]; exact Array.getElem?_eq_none_iff.1 hk
      rw [Array.getElem?_eq_none this] at ho; cases ho
    | some o' =>
      rw [jai ops hk] at ho
      cases ho
      exact mem_ready.2 ⟨h1,o',hk,fun e he=>hall e (by simp [he])⟩
  · rw [JI ops e] at ho
    exact mem_ready.2 ⟨h1,o,ho,hall⟩
theorem qT {ops:Array Oper} {i j k:Nat} {listed:Array Bool} (h:k∈Region.ready .any ops listed) (hk:k≠j∨listed.getD i false=true):k∈Region.ready .any (jD ops j i) listed:=by
  obtain ⟨h1,o,ho,hall⟩:=mem_ready.1 h
  by_cases e:k=j
  · subst e
    have hi:=hk.resolve_left (fun h=>h rfl)
    refine mem_ready.2 ⟨h1,_,jai ops ho,fun e he hb => ?_⟩
    simp only [Array.mem_push] at he
    rcases he with he | rfl
    · exact hall e he hb
    · exact hi
  · exact mem_ready.2 ⟨h1,o,by rw [JI ops e]; exact ho,hall⟩
section
variable {P:Program} {Z:ZZ} {ops:Array Oper} {cs:List CO} {Q:Ff→Store→Prop}
theorem set_true_i {listed:Array Bool} {i k:Nat} (h:listed.getD i false=true):(listed.setIfInBounds k true).getD i false=true:=by
  by_cases e:k=i
  · subst e
    have:k<listed.size:=by
      rcases Nat.lt_or_ge k listed.size with h' | h'
      · exact h'
      · simp [Array.getElem?_eq_none h'] at h
    simp [this]
  · rw [getD_set_ne false e]; exact h
theorem KB {i j:Nat} : ∀ (n:Nat) (listed:Array Bool) (τ:Ff) (S:Store),listed.getD i false=true→anyZ P Z (jD ops j i) cs Q n listed τ S→anyZ P Z ops cs Q n listed τ S
  | 0,listed,τ,S,hi,h=>⟨List.eq_nil_iff_forall_not_mem.2 fun k hk=>(by have:=qT (i:=i) (j:=j) hk (.inr hi); rw [h.1] at this; cases this),h.2⟩
  | n+1,listed,τ,S,hi,h=>by
    refine ⟨fun h0=>h.1 (List.eq_nil_iff_forall_not_mem.2 fun k hk=>by have:=Zu hk; rw [h0] at this; cases this),fun k hk => ?_⟩
    exact WJ (fun τ S=>KB n _ τ S (set_true_i hi)) (h.2 k (qT hk (.inr hi)))
theorem jaw {o:CO} {v v':V} {τ:Ff} {S S1 S1':Store} (hc:o.op.isCall=false) (h:KR P Z o v τ S S1) (h':KR P Z o v' τ S S1'):v=v'∧S1=S1':=by
  have rd : ∀ {Y:Store} {v v':V},Jo P Y τ o.op v→Jo P Y τ o.op v'→v=v':=by
    intro Y v v' h h'
    cases hop:o.op with
    | call f a=>rw [hop] at hc; simp [COp.isCall] at hc
    | callv f a=>rw [hop] at hc; simp [COp.isCall] at hc
    | _ =>
      rw [hop] at h h'
      simp only [Jo] at h h'
      obtain ⟨Z1,e1⟩:=h
      obtain ⟨Z2,e2⟩:=h'
      rw [e1] at e2
      exact (Prod.mk.inj (Option.some.inj e2)).1
  rcases h with ⟨w1,h⟩ | ⟨w1,rfl,rfl⟩
  · rcases h' with ⟨w2,h'⟩ | ⟨w2,_,_⟩
    · rcases h with ⟨r1,rfl,k1⟩ | ⟨r1,k1,_⟩
      · rcases h' with ⟨r2,rfl,k2⟩ | ⟨r2,k2,_⟩
        · exact ⟨rd k1 k2,rfl⟩
        · rw [r1] at r2; cases r2
      · rcases h' with ⟨r2,rfl,k2⟩ | ⟨r2,k2,_⟩
        · rw [r1] at r2; cases r2
        · have wv : ∀ {v:V} {S1:Store},zS P (trnL Z.es o.dst) τ S o.op v S1→jp (evf τ) S o.op=some (v,S1):=by
            intro v S1 h
            cases hop:o.op with
            | call f a=>rw [hop] at hc; simp [COp.isCall] at hc
            | callv f a=>rw [hop] at hc; simp [COp.isCall] at hc
            | _=>rw [hop] at h; exact h
          have e1:=wv k1
          have e2:=wv k2
          rw [e1] at e2; cases e2; exact ⟨rfl,rfl⟩
    · rw [w1] at w2; cases w2
  · rcases h' with ⟨w2,h'⟩ | ⟨w2,rfl,rfl⟩
    · rw [w1] at w2; cases w2
    · exact ⟨rfl,rfl⟩
theorem anyZ_two {i j:Nat} (hij:i≠j) (hdet : ∀ (k:Nat) o,cs[k]? = some o→o.op.isCall=false) (hlen:cs.length=ops.size) : ∀ (n:Nat) (listed:Array Bool) (τ:Ff) (S:Store),listed.getD i true=false→listed.getD j true=false →
    anyZ P Z (jD ops j i) cs Q n listed τ S→anyZ P Z (jD ops i j) cs Q n listed τ S→anyZ P Z ops cs Q n listed τ S
  | 0,listed,τ,S,hi,hj,h1,h2=>⟨List.eq_nil_iff_forall_not_mem.2 fun k hk=>(by
      by_cases e:k=j
      · have:=qT (i:=j) (j:=i) hk (.inl (by omega)); rw [h2.1] at this; cases this
      · have:=qT (i:=i) (j:=j) hk (.inl e); rw [h1.1] at this; cases this),h1.2⟩
  | n+1,listed,τ,S,hi,hj,h1,h2=>by
    have lt : ∀ {k:Nat},listed.getD k true=false→(listed.setIfInBounds k true).getD k false=true:=by
      intro k hk
      have:k<listed.size:=by
        rcases Nat.lt_or_ge k listed.size with h' | h'
        · exact h'
        · simp [Array.getElem?_eq_none h'] at hk
      simp [this]
    refine ⟨fun h0=>h1.1 (List.eq_nil_iff_forall_not_mem.2 fun k hk=>by have:=Zu hk; rw [h0] at this; cases this),fun k hk => ?_⟩
    by_cases ei:k=i
    · subst ei
      exact WJ (fun τ S=>KB n _ τ S (lt hi)) (h1.2 k (qT hk (.inl hij)))
    by_cases ej:k=j
    · subst ej
      exact WJ (fun τ S=>KB n _ τ S (lt hj)) (h2.2 k (qT hk (.inl ei)))
    have k1:=h1.2 k (qT hk (.inl ej))
    have k2:=h2.2 k (qT hk (.inl ei))
    obtain ⟨_,o',ho',_⟩:=mem_ready.1 hk
    have hlt:k<cs.length:=by rw [hlen]; exact (Array.getElem?_eq_some_iff.1 ho').1
    have hok:cs[k]? = some cs[k]:=List.getElem?_eq_getElem hlt
    simp only [atZ,hok] at k1 k2 ⊢
    rw [qW] at k1 k2 ⊢
    obtain ⟨v,S1,y1,n1⟩:=k1
    obtain ⟨v',S1',y2,n2⟩:=k2
    obtain ⟨rfl,rfl⟩:=jaw (hdet k _ hok) y1 y2
    exact ⟨v,S1,y1,anyZ_two hij hdet hlen n _ _ _ (by rw [getD_set_ne true ei]; exact hi) (by rw [getD_set_ne true ej]; exact hj) n1 n2⟩
theorem Jl {Q':Ff→Store→Prop} (hq : ∀ τ S,Q τ S→Q' τ S) : ∀ {l:List CO} {τ:Ff} {S:Store},Kk P Z Q l τ S→Kk P Z Q' l τ S
  | [],τ,S,h=>hq τ S h
  | o::r,τ,S,h=>by
    simp only [Kk] at h ⊢
    rw [qW] at h ⊢
    obtain ⟨v,S1,h1,h2⟩:=h
    exact ⟨v,S1,h1,Jl hq h2⟩
def lexO (es ms:List Nat) (ops:Array Oper) (cs:List CO):List Nat→Array Bool→Bool
  | [],listed=>(Region.ready .any ops listed).isEmpty
  | k::ord,listed=>(Region.ready .any ops listed).contains k &&
      (match cs[k]? with
       | some oi=>(List.range cs.length).all fun j=>j==k||listed.getD j true||YZ ms k j||(match cs[j]? with
          | some oj=>oi.apart oj&&(isRd es oi||isRd es oj)
          | none=>true)
       | none=>false)&&lexO es ms ops cs ord (listed.setIfInBounds k true)
def YG (cs:List CO) (ord:List Nat):List CO:=ord.filterMap fun k=>cs[k]?
theorem WK (hlen:cs.length=ops.size) : ∀ (ord:List Nat) (listed:Array Bool) (τ:Ff) (S:Store),zq ops listed→lexO Z.es (zd ops) ops cs ord listed=true→Kk P Z Q (YG cs ord) τ S→anyZ P Z ops cs Q ord.length listed τ S
  | [],_,_,_,_,hB,h=>⟨by simpa [lexO] using hB,h⟩
  | k::ord,listed,τ,S,hcl,hB,h=>by
    simp only [lexO,Bool.and_eq_true] at hB
    obtain ⟨⟨hr,hf⟩,hB'⟩:=hB
    cases h0:cs[k]? with
    | none=>rw [h0] at hf; cases hf
    | some o =>
    have hp:YG cs (k::ord)=o::YG cs ord:=by simp [YG,h0]
    rw [hp] at h
    simp only [Kk] at h
    rw [qW] at h
    obtain ⟨v,S1,hy,hK⟩:=h
    have hr':k∈Region.ready .any ops listed:=by simpa using hr
    refine Yh h0 hlen ord.length listed τ S S1 hcl (fun j oj hj hne hun hno => ?_) hr' hy (WK hlen ord _ _ _ (zX hcl hr') hB' hK)
    simp only [h0,List.all_eq_true,List.mem_range] at hf
    have h1:=hf j (List.getElem?_eq_some_iff.1 hj).1
    have hnm:YZ (zd ops) k j=false:=by
      cases hm:YZ (zd ops) k j with
      | false=>rfl
      | true=>obtain ⟨n,hn⟩:=JV hm; rw [hno n] at hn; cases hn
    simp only [hj,Bool.or_eq_true,beq_iff_eq,hne,false_or,hun,Bool.false_eq_true,hnm,Bool.and_eq_true] at h1
    exact h1
end
section
variable {P:Program} {N b:Nat} {Q:Exit→Fr→Store→Prop} {σ:Fr} {S:Store}
theorem jbb {id:Nat} {ops:Array Oper} {cs:List CO} {Z:ZZ} {i j:Nat} {ord1 ord2:List Nat} (hm:P.follows .mixedOrders=true) (hc:qA P N ops=some cs) (hnc:cs.all (fun o => !o.op.isCall)=true) (hij:i≠j) (hi:i<ops.size) (hj:j<ops.size)
    (hB1:lexO Z.es (zd (jD ops j i)) (jD ops j i) cs ord1 (Array.replicate ops.size false)=true) (hB2:lexO Z.es (zd (jD ops i j)) (jD ops i j) cs ord2 (Array.replicate ops.size false)=true)
    (hn1:ord1.length=ops.size) (hn2:ord2.length=ops.size) (hE:zH (zd ops) cs Z.es=true) (hz:Z.ok S) (h0:Z.z0.Sub S)
    (H1:Kk P Z (fun τ S => ∃ σ':Fr,σ'.look=τ∧Q .normal σ' S) (YG cs ord1) σ.look S) (H2:Kk P Z (fun τ S => ∃ σ':Fr,σ'.look=τ∧Q .normal σ' S) (YG cs ord2) σ.look S):VWp P N b (.region id ops true) Q σ S:=by
  intro m β w a hS hF
  obtain ⟨hlen,_⟩:=jaa hc
  refine wp_region_any hm ?_
  have hcl : ∀ ops':Array Oper,ops'.size=ops.size→zq ops' (Array.replicate ops.size false):=by
    intro ops' he i o ho hi
    have:i<ops'.size:=(Array.getElem?_eq_some_iff.1 ho).1
    rw [he] at this
    simp [this] at hi
  have a1:=WK (P:=P) (Z:=Z) (ops:=jD ops j i) (by rw [ze]; exact hlen) ord1 _ σ.look S (hcl _ (ze _ _ _)) hB1 H1
  have a2:=WK (P:=P) (Z:=Z) (ops:=jD ops i j) (by rw [ze]; exact hlen) ord2 _ σ.look S (hcl _ (ze _ _ _)) hB2 H2
  rw [hn1] at a1
  rw [hn2] at a2
  have:=anyZ_two hij (fun k o hk=>by
    simp only [List.all_eq_true] at hnc
    have:=hnc o (List.mem_of_getElem? hk)
    simpa using this) hlen ops.size _ σ.look S (by simp [hi]) (by simp [hj]) a1 a2
  exact Yg hc hE ops.size _ σ S m β _ a this (hcl ops rfl) hz (fun _=>h0) hS.drew hF ((Ext.drew m β w).toB b)
theorem JK {c c2:Code} {cs:List CO} {Q2:Exit→Fr→Store→Prop} {σm:Fr} {Sm:Store} (Z:ZZ) (i j:Nat) (ord1 ord2:List Nat) (h:Code.kind c=2) (hm:P.follows .mixedOrders=true) (hc:qA P N (Code.ops c)=some cs) (hnc:cs.all (fun o => !o.op.isCall)=true) (hij:i≠j)
    (hi:decide (i<(Code.ops c).size)=true) (hj:decide (j<(Code.ops c).size)=true)
    (hB1:lexO Z.es (zd (jD (Code.ops c) j i)) (jD (Code.ops c) j i) cs ord1 (Array.replicate (Code.ops c).size false)=true) (hB2:lexO Z.es (zd (jD (Code.ops c) i j)) (jD (Code.ops c) i j) cs ord2 (Array.replicate (Code.ops c).size false)=true)
    (hn1:ord1.length=(Code.ops c).size) (hn2:ord2.length=(Code.ops c).size) (hes:Z.es=[]) (hz:Z.ok S) (h0:Z.z0.Sub S)
    {cs1 cs2:List CO} (hp1:YG cs ord1=cs1) (hp2:YG cs ord2=cs2)
    (H1:jY P (some Z) cs1 (fun σ S=>Reach N b σ S σm Sm) σ S) (H2:jY P (some Z) cs2 (fun σ S=>Reach N b σ S σm Sm) σ S) (H:VWp P N b c2 Q2 σm Sm):VWp P N b c (Wa (VWp P N b c2 Q2) Q) σ S:=by
  subst hp1
  subst hp2
  cases c with
  | region id ops d =>
    cases d
    · simp [Code.kind] at h
    · refine jbb hm hc hnc hij (of_decide_eq_true hi) (of_decide_eq_true hj) hB1 hB2 hn1 hn2 (by rw [hes]; exact ZX _ _) hz h0 ?_ ?_
      · exact Jl (fun τ S=>fun ⟨σ',e,hr⟩=>⟨σ',e,jE hr H⟩) (zj _ σ S H1)
      · exact Jl (fun τ S=>fun ⟨σ',e,hr⟩=>⟨σ',e,jE hr H⟩) (zj _ σ S H2)
  | _=>simp [Code.kind] at h
end
/-! ### .. behind a part that stands in the order of the text -/
section
variable {P:Program} {Z:ZZ} {ops:Array Oper} {cs:List CO} {Q:Ff→Store→Prop}
def ZJ (es ms:List Nat) (ops:Array Oper) (cs:List CO):Nat→Nat→Array Bool→Bool
  | 0,_,_=>true
  | n+1,k,listed=>(Region.ready .any ops listed).contains k &&
      (match cs[k]? with
       | some oi=>(List.range cs.length).all fun j=>j==k||listed.getD j true||YZ ms k j||(match cs[j]? with
          | some oj=>oi.apart oj&&(isRd es oi||isRd es oj)
          | none=>true)
       | none=>false)&&ZJ es ms ops cs n (k+1) (listed.setIfInBounds k true)
def zM:Nat→Nat→Array Bool→Array Bool
  | 0,_,l=>l
  | n+1,k,l=>zM n (k+1) (l.setIfInBounds k true)
theorem anyZ_pre (hlen:cs.length=ops.size) {fuel:Nat} : ∀ (l:List CO) (k:Nat) (listed:Array Bool) (τ:Ff) (S:Store),(∀ j<l.length,l[j]? = cs[k+j]?)→zq ops listed→ZJ Z.es (zd ops) ops cs l.length k listed=true →
    Kk P Z (fun τ S=>anyZ P Z ops cs Q fuel (zM l.length k listed) τ S) l τ S→anyZ P Z ops cs Q (fuel+l.length) listed τ S
  | [],_,_,_,_,_,_,_,h=>h
  | o::l,k,listed,τ,S,hl,hcl,hB,h=>by
    have h0:cs[k]? = some o:=by simpa using (hl 0 (by simp)).symm
    simp only [List.length_cons,ZJ,Bool.and_eq_true,h0] at hB
    obtain ⟨⟨hr,hf⟩,hB'⟩:=hB
    simp only [Kk] at h
    rw [qW] at h
    obtain ⟨v,S1,hy,hK⟩:=h
    have hr':k∈Region.ready .any ops listed:=by simpa using hr
    refine Yh h0 hlen (fuel+l.length) listed τ S S1 hcl (fun j oj hj hne hun hno => ?_) hr' hy (anyZ_pre hlen l (k+1) _ _ _ (fun j hj=>by have:=hl (j+1) (by simp; omega); simpa [Nat.add_assoc,Nat.add_comm 1 j] using this) (zX hcl hr') hB' hK)
    simp only [List.all_eq_true,List.mem_range] at hf
    have h1:=hf j (List.getElem?_eq_some_iff.1 hj).1
    have hnm:YZ (zd ops) k j=false:=by
      cases hm:YZ (zd ops) k j with
      | false=>rfl
      | true=>obtain ⟨n,hn⟩:=JV hm; rw [hno n] at hn; cases hn
    simp only [hj,Bool.or_eq_true,beq_iff_eq,hne,false_or,hun,Bool.false_eq_true,hnm,Bool.and_eq_true] at h1
    exact h1
theorem YA (hlen:cs.length=ops.size) {es:List Nat} : ∀ (n k:Nat) (listed:Array Bool),zq ops listed→ZJ es (zd ops) ops cs n k listed=true→zq ops (zM n k listed)
  | 0,_,_,h,_=>h
  | n+1,k,listed,h,hB=>by
    simp only [ZJ,Bool.and_eq_true] at hB
    exact YA hlen n (k+1) _ (zX h (by simpa using hB.1.1)) hB.2
theorem WI {listed:Array Bool} {i j:Nat} (h:zq ops listed) (hj:listed.getD j true=false):zq (jD ops j i) listed:=by
  intro k o ho hk
  by_cases e:k=j
  · subst e; rw [hj] at hk; cases hk
  · rw [JI ops e] at ho
    exact h k o ho hk
theorem anyZ_twoL {i j:Nat} (hij:i≠j) (hlen:cs.length=ops.size) : ∀ (n:Nat) (listed:Array Bool) (τ:Ff) (S:Store),(∀ (k:Nat) o,cs[k]? = some o→k≠i→k≠j→listed.getD k true=false→o.op.isCall=false)→listed.getD i true=false→listed.getD j true=false →
    anyZ P Z (jD ops j i) cs Q n listed τ S→anyZ P Z (jD ops i j) cs Q n listed τ S→anyZ P Z ops cs Q n listed τ S
  | 0,listed,τ,S,_,hi,hj,h1,h2=>⟨List.eq_nil_iff_forall_not_mem.2 fun k hk=>(by
      by_cases e:k=j
      · have:=qT (i:=j) (j:=i) hk (.inl (by omega)); rw [h2.1] at this; cases this
      · have:=qT (i:=i) (j:=j) hk (.inl e); rw [h1.1] at this; cases this),h1.2⟩
  | n+1,listed,τ,S,hdet,hi,hj,h1,h2=>by
    have lt : ∀ {k:Nat},listed.getD k true=false→(listed.setIfInBounds k true).getD k false=true:=by
      intro k hk
      have:k<listed.size:=by
        rcases Nat.lt_or_ge k listed.size with h' | h'
        · exact h'
        · simp [Array.getElem?_eq_none h'] at hk
      simp [this]
    refine ⟨fun h0=>h1.1 (List.eq_nil_iff_forall_not_mem.2 fun k hk=>by have:=Zu hk; rw [h0] at this; cases this),fun k hk => ?_⟩
    by_cases ei:k=i
    · subst ei
      exact WJ (fun τ S=>KB n _ τ S (lt hi)) (h1.2 k (qT hk (.inl hij)))
    by_cases ej:k=j
    · subst ej
      exact WJ (fun τ S=>KB n _ τ S (lt hj)) (h2.2 k (qT hk (.inl ei)))
    have k1:=h1.2 k (qT hk (.inl ej))
    have k2:=h2.2 k (qT hk (.inl ei))
    obtain ⟨hun,o',ho',_⟩:=mem_ready.1 hk
    have hlt:k<cs.length:=by rw [hlen]; exact (Array.getElem?_eq_some_iff.1 ho').1
    have hok:cs[k]? = some cs[k]:=List.getElem?_eq_getElem hlt
    simp only [atZ,hok] at k1 k2 ⊢
    rw [qW] at k1 k2 ⊢
    obtain ⟨v,S1,y1,n1⟩:=k1
    obtain ⟨v',S1',y2,n2⟩:=k2
    obtain ⟨rfl,rfl⟩:=jaw (hdet k _ hok ei ej hun) y1 y2
    refine ⟨v,S1,y1,anyZ_twoL hij hlen n _ _ _ (fun k' o hk' h3 h4 h5=>hdet k' o hk' h3 h4 ?_) (by rw [getD_set_ne true ei]; exact hi) (by rw [getD_set_ne true ej]; exact hj) n1 n2⟩
    by_cases e:k=k'
    · subst e; exact hun
    · rw [getD_set_ne true e] at h5; exact h5
end
section
variable {P:Program} {N b:Nat} {Q:Exit→Fr→Store→Prop} {σ:Fr} {S:Store}
def callsOk (cs:List CO) (i j n0:Nat):Bool:=(List.range cs.length).all fun k=>decide (k<n0)||k==i||k==j||(match cs[k]? with | some o => !o.op.isCall | none=>true)
theorem vw_drawSplit {c c2:Code} {cs:List CO} {Q2:Exit→Fr→Store→Prop} (Z:ZZ) (n0 i j:Nat) (ord1 ord2:List Nat) (h:Code.kind c=2) (hm:P.follows .mixedOrders=true) (hc:qA P N (Code.ops c)=some cs) (hnc:callsOk cs i j n0=true) (hij:i≠j)
    (hp:ZJ Z.es (zd (Code.ops c)) (Code.ops c) cs n0 0 (Array.replicate (Code.ops c).size false)=true)
    (hi:(zM n0 0 (Array.replicate (Code.ops c).size false)).getD i true=false) (hj:(zM n0 0 (Array.replicate (Code.ops c).size false)).getD j true=false)
    (hu:(List.range n0).all (fun k=>(zM n0 0 (Array.replicate (Code.ops c).size false)).getD k true)=true)
    (hB1:lexO Z.es (zd (jD (Code.ops c) j i)) (jD (Code.ops c) j i) cs ord1 (zM n0 0 (Array.replicate (Code.ops c).size false))=true) (hB2:lexO Z.es (zd (jD (Code.ops c) i j)) (jD (Code.ops c) i j) cs ord2 (zM n0 0 (Array.replicate (Code.ops c).size false))=true)
    (hn0:decide (n0≤(Code.ops c).size)=true) (hn1:ord1.length+n0=(Code.ops c).size) (hn2:ord2.length+n0=(Code.ops c).size) (hE:zH (zd (Code.ops c)) cs Z.es=true) (hz:Z.ok S) (h0:Z.z0.Sub S)
    {cs0 cs1 cs2:List CO} (hp0:cs.take n0=cs0) (hp1:YG cs ord1=cs1) (hp2:YG cs ord2=cs2)
    (H:jY P (some Z) cs0 (fun σ S => ∃ σm Sm,VWp P N b c2 Q2 σm Sm∧jY P (some Z) cs1 (fun σ S=>Reach N b σ S σm Sm) σ S∧jY P (some Z) cs2 (fun σ S=>Reach N b σ S σm Sm) σ S) σ S):VWp P N b c (Wa (VWp P N b c2 Q2) Q) σ S:=by
  subst hp0
  subst hp1
  subst hp2
  cases c with
  | region id ops d =>
    cases d
    · simp [Code.kind] at h
    · intro m β w a hS hF
      simp only [Code.ops] at *
      obtain ⟨hlen,_⟩:=jaa hc
      refine wp_region_any hm ?_
      have hcl:zq ops (Array.replicate ops.size false):=by
        intro i o ho hi
        have:i<ops.size:=(Array.getElem?_eq_some_iff.1 ho).1
        simp [this] at hi
      have hle:n0≤cs.length:=by rw [hlen]; exact of_decide_eq_true hn0
      have hl0:(cs.take n0).length=n0:=by rw [List.length_take,Nat.min_eq_left hle]
      have hcl1:=YA hlen n0 0 _ hcl hp
      have key:Kk P Z (fun τ S=>anyZ P Z ops cs (fun τ S => ∃ σ':Fr,σ'.look=τ∧(Wa (VWp P N b c2 Q2) Q) .normal σ' S) ord1.length (zM n0 0 (Array.replicate ops.size false)) τ S) (cs.take n0) σ.look S:=by
        refine Jl (fun τ S => ?_) (zj _ σ S H)
        rintro ⟨σ1,rfl,σm,Sm,hQ,H1,H2⟩
        have a1:=WK (P:=P) (Z:=Z) (Q:=fun τ S => ∃ σ':Fr,σ'.look=τ∧(Wa (VWp P N b c2 Q2) Q) .normal σ' S) (ops:=jD ops j i) (by rw [ze]; exact hlen) ord1 _ σ1.look S (WI hcl1 hj) hB1 (Jl (fun τ S=>fun ⟨σ',e,hr⟩=>⟨σ',e,jE hr hQ⟩) (zj _ σ1 S H1))
        have a2:=WK (P:=P) (Z:=Z) (Q:=fun τ S => ∃ σ':Fr,σ'.look=τ∧(Wa (VWp P N b c2 Q2) Q) .normal σ' S) (ops:=jD ops i j) (by rw [ze]; exact hlen) ord2 _ σ1.look S (WI hcl1 hi) hB2 (Jl (fun τ S=>fun ⟨σ',e,hr⟩=>⟨σ',e,jE hr hQ⟩) (zj _ σ1 S H2))
        rw [show ord2.length=ord1.length by omega] at a2
        refine anyZ_twoL hij hlen ord1.length _ σ1.look S (fun k o hk h3 h4 h5 => ?_) hi hj a1 a2
        simp only [callsOk,List.all_eq_true,List.mem_range] at hnc
        have hh:=hnc k (List.getElem?_eq_some_iff.1 hk).1
        have h6 : ¬ k<n0:=fun h6=>by
          simp only [List.all_eq_true,List.mem_range] at hu
          rw [hu k h6] at h5; cases h5
        simpa [h6,h3,h4,hk] using hh
      have:=anyZ_pre (P:=P) (Z:=Z) hlen (cs.take n0) 0 (Array.replicate ops.size false) σ.look S (fun q hq=>by rw [Nat.zero_add,List.getElem?_take,if_pos (by omega)]) hcl (by rw [hl0]; exact hp) (by rw [hl0]; exact key)
      rw [hl0,hn1] at this
      exact Yg hc hE ops.size _ σ S m β _ a this hcl hz (fun _=>h0) hS.drew hF ((Ext.drew m β w).toB b)
  | _=>simp [Code.kind] at h
end
theorem zl {N b:Nat} {σ σ':Fr} {S:Store} (ks:List Nat) (h:σ.only ks=σ'):Reach N b σ S σ' S:=by subst h; exact Reach.only ks
theorem zz {N:Nat} {σ σ1 σ':Fr} {B:Store} {u u':Upds} {l l':List (Option (Nat × List V))} (ks gs:List Nat) (hσ1:σ.only ks=σ1) (hw:B.Wf) (h1:gs.Nodup) (h2:(Kl B.nx gs u&&YH B.nx gs l gs&&idsF (gcP B.nx gs) σ1)=true)
    (hu:gcU B.nx gs u=u') (hl:gcL B.nx gs l gs=l') (hσ:renF (gcTo B.nx gs) σ1=σ'):Reach N B.nx σ (St B u l) σ' (St B u' l') :=
  (zl ks hσ1).trans (Reach.gc gs hw h1 h2 hu hl hσ)
end Go.Vw
