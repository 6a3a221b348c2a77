import Derived.Test.YtenhhokhkkfgbaaGreatC26
import Derived.Test.YtenhhokhkkfgbaaGreatC27
import Derived.Test.YtenhhokhkkfgbaaGreatC29
/-
  Part of the proof (texts DRound, DMark, DOkc, DRun).
-/
set_option linter.unusedVariables false
set_option linter.unusedSimpArgs false
namespace Ss
def marks (need:List Bool) (l:List Int):List Bool:=l.foldl (fun o v=>o.set v.toNat true) need
def rIns (o:List Bool) (x:Ins):List Bool:=if pure x.op then (if on o (x.outs.getD 0 0) then marks o x.args else o) else marks (marks o x.outs) x.args
def rPar (o:List Bool) (q:Int × Int):List Bool:=if on o q.1 then o.set q.2.toNat true else o
def rEdge (bs:List Block) (o:List Bool) (e:Edge):List Bool:=((bs.getD e.to.toNat default).params.zip e.args).foldl rPar o
def rTerm (o:List Bool) (t:Term):List Bool:=if branches t then (marks o t.args).set t.arg.toNat true else marks o t.args
def rBlock (bs:List Block) (o:List Bool) (b:Block):List Bool:=b.term.to.foldl (rEdge bs) (rTerm (b.code.foldl rIns o) b.term)
def rRound (f:Fn) (o:List Bool):List Bool:=f.blocks.foldl (rBlock f.blocks) o
def rTurns (f:Fn):Nat→List Bool→List Bool
 | 0,o=>o
 | k+1,o=>if rRound f o=o then o else rTurns f k (rRound f o)
def Inc (a b:List Bool):Prop:=a.length=b.length ∧ ∀ i:Nat,a[i]? = some true→b[i]? = some true
theorem Inc.refl (a:List Bool):Inc a a:=⟨rfl,fun _ h=>h⟩
theorem Inc.trans {a b c:List Bool} (h:Inc a b) (k:Inc b c):Inc a c:=⟨h.1.trans k.1,fun i hi=>k.2 i (h.2 i hi)⟩
theorem Inc.anti {a b:List Bool} (h:Inc a b) (k:Inc b a):a=b:=by
 refine List.ext_getElem h.1 fun i h1 h2 => ?_
 have a1:=h.2 i
 have b1:=k.2 i
 rw [List.getElem?_eq_getElem h1,List.getElem?_eq_getElem h2] at a1 b1
 simp only [Option.some.injEq] at a1 b1
 exact Bool.eq_iff_iff.2 ⟨a1,b1⟩
theorem inc_set (o:List Bool) (i:Nat):Inc o (o.set i true):=by
 refine ⟨by simp,fun j hj => ?_⟩
 rw [List.getElem?_set]
 split
 ·rename_i e
  subst e
  rw [if_pos (List.getElem?_eq_some_iff.1 hj).1]
 ·exact hj
theorem zQ {α:Type} {g:List Bool→α→List Bool} (h : ∀ o a,Inc o (g o a)) : ∀ (l:List α) (o:List Bool),Inc o (l.foldl g o)
 | [],o => .refl o
 | a::l,o=>(h o a).trans (zQ h l (g o a))
theorem JP {α:Type} {g:List Bool→α→List Bool} (h : ∀ o a,Inc o (g o a)) : ∀ {l:List α} {o:List Bool},l.foldl g o=o → ∀ a∈l,g o a=o
 | [],o,_,a,ha=>by simp at ha
 | b::l,o,hf,a,ha=>by
  rw [List.foldl_cons] at hf
  have h1:=zQ h l (g o b)
  rw [hf] at h1
  have hb:g o b=o:=h1.anti (h o b)
  rcases List.mem_cons.1 ha with rfl | ha
  ·exact hb
  ·rw [hb] at hf; exact JP h hf a ha
theorem marks_inc (o:List Bool) (l:List Int):Inc o (marks o l):=zQ (fun o v=>inc_set o _) l o
theorem ins_inc (o:List Bool) (x:Ins):Inc o (rIns o x):=by
 unfold rIns
 split
 ·split
  ·exact marks_inc _ _
  ·exact .refl _
 ·exact (marks_inc _ _).trans (marks_inc _ _)
theorem par_inc (o:List Bool) (q:Int × Int):Inc o (rPar o q):=by
 unfold rPar
 split
 ·exact inc_set _ _
 ·exact .refl _
theorem jbD (bs:List Block) (o:List Bool) (e:Edge):Inc o (rEdge bs o e):=zQ par_inc _ _
theorem term_inc (o:List Bool) (t:Term):Inc o (rTerm o t):=by
 unfold rTerm
 split
 ·exact (marks_inc _ _).trans (inc_set _ _)
 ·exact marks_inc _ _
theorem block_inc (bs:List Block) (o:List Bool) (b:Block):Inc o (rBlock bs o b):=(zQ ins_inc _ _).trans ((term_inc _ _).trans (zQ (jbD bs) _ _))
theorem round_inc (f:Fn) (o:List Bool):Inc o (rRound f o):=zQ (block_inc f.blocks) _ _
theorem inc_off {a b:List Bool} (h:Inc a b) (hn:b≠a):off b<off a:=by
 have h1:=off_le h.1 h.2
 rcases Nat.lt_or_ge (off b) (off a) with h2 | h2
 ·exact h2
 ·exfalso
  refine hn (h.anti ⟨h.1.symm,fun i hi => ?_⟩).symm
  have hlt:=(List.getElem?_eq_some_iff.1 hi).1
  cases ha:a[i]? with
  | none=>rw [List.getElem?_eq_none_iff] at ha; have:=h.1; omega
  | some x =>
   cases x with
   | true=>rfl
   | false =>
    have h3:=off_set ha
    have h4:off b≤off (a.set i true):=off_le (by rw [List.length_set]; exact h.1) fun j hj=>by
     rw [List.getElem?_set] at hj
     split at hj
     ·rename_i e; subst e; exact hi
     ·exact h.2 j hj
    omega
theorem turns_fix {f:Fn} : ∀ {k:Nat} {o:List Bool},off o<k→rRound f (rTurns f k o)=rTurns f k o
 | 0,o,h=>by omega
 | k+1,o,h=>by
  rw [rTurns]
  split
  ·rename_i e; exact e
  ·rename_i e
   have:=inc_off (round_inc f o) e
   exact turns_fix (by omega)
theorem Zg {f:Fn} {P:List Bool→Prop} (hs : ∀ o,P o→P (rRound f o)) : ∀ {k:Nat} {o:List Bool},P o→P (rTurns f k o)
 | 0,o,h=>h
 | k+1,o,h=>by
  rw [rTurns]
  split
  ·exact h
  ·exact Zg hs (hs o h)
theorem KI {o:List Bool} {l:List Int} (h:marks o l=o) {v:Int} (hv:v∈l) (hr:v.toNat<o.length):on o v=true:=by
 have:=JP (fun o v=>inc_set o _) h v hv
 rw [zw, ←this,List.getElem?_set_self hr]
def rootsB (b:Block):List Int:=(b.code.flatMap fun x=>if pure x.op then [] else x.args++x.outs)++(b.term.args++if branches b.term then [b.term.arg] else [])
def roots (f:Fn):List Int:=(f.blocks.getD 0 default).params++f.blocks.flatMap rootsB
theorem head_mem {f:Fn} (h:DOk f):f.blocks.getD 0 default∈f.blocks:=by
 cases hb:f.blocks with
 | nil=>exact absurd hb h.ne
 | cons b bs=>simp
theorem roots_in {f:Fn} (h:DOk f) : ∀ v∈roots f,InR f.types.length v:=fun v hv=>by
 rcases List.mem_append.1 hv with hv | hv
 ·exact h.pars _ (head_mem h) v hv
 ·obtain ⟨b,hb,hv⟩:=List.mem_flatMap.1 hv
  rcases List.mem_append.1 hv with hv | hv
  ·obtain ⟨x,hx,hv⟩:=List.mem_flatMap.1 hv
   split at hv
   ·simp at hv
   ·rcases List.mem_append.1 hv with hv | hv
    ·exact h.args b hb x hx v hv
    ·exact h.outs b hb x hx v hv
  ·rcases List.mem_append.1 hv with hv | hv
   ·exact h.targs b hb v hv
   ·split at hv
    ·rename_i hk
     simp only [List.mem_singleton] at hv
     subst hv
     exact h.targ b hb hk
    ·simp at hv
theorem JO {P:Nat→Prop} {o:List Bool} {l:List Int} (ho : ∀ i:Nat,o[i]? = some true→P i) (hl : ∀ v∈l,P v.toNat) : ∀ i:Nat,(marks o l)[i]? = some true→P i:=by
 unfold marks
 refine qg (P:=fun o:List Bool => ∀ i:Nat,o[i]? = some true→P i) ho fun t v hv ht i hi => ?_
 rw [List.getElem?_set] at hi
 split at hi
 ·rename_i e; subst e; exact hl v hv
 ·exact ht i hi
theorem Zo {f:Fn} (h:DOk f):Marks (askTab f) (List.replicate f.types.length false) (roots f) (rTurns f (f.types.length+1) (marks (List.replicate f.types.length false) (f.blocks.getD 0 default).params)):=by
 have hoff:off (marks (List.replicate f.types.length false) (f.blocks.getD 0 default).params)<f.types.length+1:=by
  have h1:off (marks (List.replicate f.types.length false) (f.blocks.getD 0 default).params)≤(marks (List.replicate f.types.length false) (f.blocks.getD 0 default).params).length:=List.countP_le_length
  have h2:=(marks_inc (List.replicate f.types.length false) (f.blocks.getD 0 default).params).1
  rw [List.length_replicate] at h2
  omega
 have hfix:=turns_fix (f:=f) hoff
 have hinc:Inc (marks (List.replicate f.types.length false) (f.blocks.getD 0 default).params) (rTurns f (f.types.length+1) (marks (List.replicate f.types.length false) (f.blocks.getD 0 default).params)) :=
  Zg (P:=fun o=>Inc (marks (List.replicate f.types.length false) (f.blocks.getD 0 default).params) o) (fun o ho=>ho.trans (round_inc f o)) (.refl _)
 have hlen:(rTurns f (f.types.length+1) (marks (List.replicate f.types.length false) (f.blocks.getD 0 default).params)).length=f.types.length:=by
  rw [←hinc.1, ←(marks_inc _ _).1,List.length_replicate]
 have hleast : ∀ P:Nat→Prop,(∀ v∈roots f,P v.toNat)→(∀ i:Nat,P i → ∀ u∈(askTab f).getD i [],P u.toNat) → ∀ i:Nat,(rTurns f (f.types.length+1) (marks (List.replicate f.types.length false) (f.blocks.getD 0 default).params))[i]? = some true→P i:=by
  intro P hr hc
  let Q:=fun o:List Bool => ∀ i:Nat,o[i]? = some true→P i
  have hrB : ∀ b∈f.blocks, ∀ v∈rootsB b,P v.toNat:=fun b hb v hv=>hr v (by
   simp only [roots,List.mem_append,List.mem_flatMap]; exact .inr ⟨b,hb,hv⟩)
  refine Zg (P:=Q) (fun o ho => ?_) (JO (P:=P) (fun i hi => ?_) fun v hv=>hr v (by simp only [roots,List.mem_append]; exact .inl hv))
  ·unfold rRound
   refine qg (P:=Q) ho fun o b hb ho => ?_
   unfold rBlock
   refine qg (P:=Q) ?_ fun o e he ho => ?_
   ·have hcode:Q (b.code.foldl rIns o):=qg (P:=Q) ho fun o x hx ho=>by
     unfold rIns
     split
     ·rename_i hp
      split
      ·rename_i hon
       obtain ⟨v,hv⟩:=h.one b hb x hx hp
       rw [hv] at hon
       have hPv:=ho _ (zw.1 hon)
       exact JO ho fun u hu=>hc _ hPv u (by
        have:=tab_full h (v:=v) (u:=u) (.inl ⟨b,hb,x,hx,hp,hv,hu⟩)
        simpa using this)
      ·exact ho
     ·rename_i hp
      have hin : ∀ v∈x.args++x.outs,P v.toNat:=fun v hv=>hrB b hb v (by
       simp only [rootsB,List.mem_append,List.mem_flatMap]
       exact .inl ⟨x,hx,by rw [if_neg hp]; exact hv⟩)
      exact JO (JO ho fun v hv=>hin v (by simp [hv])) fun v hv=>hin v (by simp [hv])
    have hargs:=JO (l:=b.term.args) hcode fun v hv=>hrB b hb v (by simp only [rootsB,List.mem_append]; exact .inr (.inl hv))
    unfold rTerm
    split
    ·rename_i hk
     intro i hi
     rw [List.getElem?_set] at hi
     split at hi
     ·rename_i e
      subst e
      exact hrB b hb _ (by simp only [rootsB,List.mem_append]; exact .inr (.inr (by rw [if_pos hk]; simp)))
     ·exact hargs i hi
    ·exact hargs
   ·unfold rEdge
    refine qg (P:=Q) ho fun o q hq ho => ?_
    unfold rPar
    split
    ·rename_i hon
     intro i hi
     rw [List.getElem?_set] at hi
     split at hi
     ·rename_i e2
      subst e2
      exact hc _ (ho _ (zw.1 hon)) _ (tab_full h (.inr ⟨b,hb,e,he,hq⟩))
     ·exact ho i hi
    ·exact ho
  ·have:=List.mem_of_getElem? hi
   rw [List.mem_replicate] at this
   cases this.2
 generalize rTurns f (f.types.length+1) (marks (List.replicate f.types.length false) (f.blocks.getD 0 default).params)=R at *
 have hblk : ∀ b∈f.blocks,rBlock f.blocks R b=R:=JP (block_inc f.blocks) hfix
 have hpart : ∀ b∈f.blocks,(∀ x∈b.code,rIns R x=R)∧rTerm R b.term=R ∧ ∀ e∈b.term.to,rEdge f.blocks R e=R:=fun b hb=>by
  have e:=hblk b hb
  unfold rBlock at e
  have i1:=zQ ins_inc b.code R
  have i2:=term_inc (b.code.foldl rIns R) b.term
  have i3:=zQ (jbD f.blocks) b.term.to (rTerm (b.code.foldl rIns R) b.term)
  rw [e] at i3
  have e1:b.code.foldl rIns R=R:=(i2.trans i3).anti i1
  rw [e1] at e i2 i3
  have e2:rTerm R b.term=R:=i3.anti i2
  rw [e2] at e
  exact ⟨JP ins_inc e1,e2,JP (jbD f.blocks) e⟩
 have hlt : ∀ v,InR f.types.length v→v.toNat<R.length:=fun v hv=>by have:=hv.1; have:=hv.2; omega
 have hmm : ∀ {l m:List Int},marks (marks R l) m=R→marks R l=R∧marks R m=R:=fun {l m} e=>by
  have i1:=marks_inc R l
  have i2:=marks_inc (marks R l) m
  rw [e] at i2
  have e1:=i2.anti i1
  exact ⟨e1,by rw [e1] at e; exact e⟩
 refine ⟨by rw [hlen,List.length_replicate],fun i hi => ?_,fun v hv => ?_,fun i hi => .inr fun u hu => ?_,fun P _ h1 h2=>hleast P h1 h2⟩
 ·have:=List.mem_of_getElem? hi
  rw [List.mem_replicate] at this
  cases this.2
 ·have hvr:=hlt v (roots_in h v hv)
  rcases List.mem_append.1 hv with hv | hv
  ·refine zw.2 (hinc.2 _ ?_)
   have hfx:marks (marks (List.replicate f.types.length false) (f.blocks.getD 0 default).params) (f.blocks.getD 0 default).params=marks (List.replicate f.types.length false) (f.blocks.getD 0 default).params:=by
    refine Inc.anti ⟨(marks_inc _ _).1.symm,fun i hi => ?_⟩ (marks_inc _ _)
    refine JO (P:=fun i=>(marks (List.replicate f.types.length false) (f.blocks.getD 0 default).params)[i]? = some true) (fun i hi=>hi) (fun u hu => ?_) i hi
    have hur:u.toNat<f.types.length:=by obtain ⟨a1,a2⟩:=h.pars _ (head_mem h) u hu; omega
    have key : ∀ (l:List Int) (o:List Bool),u∈l→u.toNat<o.length→(marks o l)[u.toNat]? = some true:=by
     intro l
     induction l with
     | nil=>intro o hu; simp at hu
     | cons a l ih =>
      intro o hu ho
      rcases List.mem_cons.1 hu with rfl | hu
      ·exact (marks_inc (o.set u.toNat true) l).2 _ (List.getElem?_set_self ho)
      ·exact ih _ hu (by rw [List.length_set]; exact ho)
    exact key _ _ hu (by rw [List.length_replicate]; exact hur)
   exact zw.1 (KI hfx hv (by rw [←(marks_inc _ _).1,List.length_replicate]; omega))
  ·obtain ⟨b,hb,hv⟩:=List.mem_flatMap.1 hv
   obtain ⟨p1,p2,_⟩:=hpart b hb
   rcases List.mem_append.1 hv with hv | hv
   ·obtain ⟨x,hx,hv⟩:=List.mem_flatMap.1 hv
    have e:=p1 x hx
    unfold rIns at e
    split at hv
    ·simp at hv
    ·rename_i hp
     rw [if_neg hp] at e
     obtain ⟨e1,e2⟩:=hmm e
     rcases List.mem_append.1 hv with hv | hv
     ·exact KI e2 hv hvr
     ·exact KI e1 hv hvr
   ·unfold rTerm at p2
    split at p2
    ·rename_i hk
     have i1:=marks_inc R b.term.args
     have i2:=inc_set (marks R b.term.args) b.term.arg.toNat
     rw [p2] at i2
     have e1:=i2.anti i1
     rcases List.mem_append.1 hv with hv | hv
     ·exact KI e1 hv hvr
     ·rw [if_pos hk,List.mem_singleton] at hv
      subst hv
      rw [e1] at p2
      rw [zw, ←p2,List.getElem?_set_self hvr]
    ·rename_i hk
     rcases List.mem_append.1 hv with hv | hv
     ·exact KI p2 hv hvr
     ·rw [if_neg hk] at hv; simp at hv
 ·have ha:=Zh h (i:Int) u (by omega) (by simpa using hu)
  rcases ha with ⟨b,hb,x,hx,hp,ho,hxu⟩ | ⟨b,hb,e,he,hq⟩
  ·have e:=(hpart b hb).1 x hx
   unfold rIns at e
   rw [if_pos hp,ho,if_pos (by rw [zw]; simpa using hi)] at e
   exact KI e hxu (hlt u (h.args b hb x hx u hxu))
  ·have e:=JP par_inc ((hpart b hb).2.2 e he) _ hq
   unfold rPar at e
   rw [if_pos (by rw [zw]; simpa using hi)] at e
   have hur:=hlt u (h.eargs b hb _ he u (List.of_mem_zip hq).2)
   rw [zw, ←e]
   exact List.getElem?_set_self hur
theorem need_same {f:Fn} (h:DOk f) {m:List Int} (hm : ∀ v,v∈m↔v∈roots f):rTurns f (f.types.length+1) (marks (List.replicate f.types.length false) (f.blocks.getD 0 default).params)=dfs (askTab f) (f.types.length+1) (List.replicate f.types.length false) m:=by
 refine marks_eq (Zo h) (dfs_marks (N:=f.types.length) (fun l hl u hu => ?_) _ _ _ (by simp) (fun v hv => ?_) ?_) fun v=>(hm v).symm
 ·obtain ⟨i,hi⟩:=List.mem_iff_getElem?.1 hl
  have hu':u∈(askTab f).getD ((i:Int)).toNat []:=by
   rw [List.getD_eq_getElem?_getD,Int.toNat_natCast,hi]; exact hu
  have hr:InR f.types.length u:=by
   rcases Zh h (i:Int) u (by omega) hu' with ⟨b,hb,x,hx,_,_,hxu⟩ | ⟨b,hb,e,he,hq⟩
   ·exact h.args b hb x hx u hxu
   ·exact h.eargs b hb e he u (List.of_mem_zip hq).2
  have:=hr.1; have:=hr.2; omega
 ·have hr:=roots_in h v ((hm v).1 hv)
  have:=hr.1; have:=hr.2; omega
 ·have h1:off (List.replicate f.types.length false)≤(List.replicate f.types.length false).length:=List.countP_le_length
  rw [List.length_replicate] at h1
  omega
end Ss

namespace Go.Vw
open Go.Proofs Go.RowKit
set_option maxRecDepth 10000
set_option maxHeartbeats 2000000
def zE:Store:=⟨fun _=>none,0⟩
theorem zE_ok (S:Store):zE.Sub S∧zE.Shp S:=⟨fun o c h=>(by cases h),fun o c h=>(by cases h)⟩
theorem vcallv_t {P:Program} {σ:Fr} {Z:ZZ} {K:Fr→Store→Prop} {d:Option Nat} {g:FuncId} {caps:List V} {fz:Arg} {args:List Arg} {xs:List V} {r:List CO} {X:V} {S S':Store} (hf:ev σ fz = .func g caps) (hc:jO P g=true) (ha:args.map (ev σ)++caps=xs) (h:VCalls P g xs S fun r T=>r=X∧T=S') (hw:wrcL Z.es d=true) (ht:trnL Z.es d=true) (hz:Z.ok S') (H:jY P (some Z) r K (σ.put d X) S'):jY P (some Z) (⟨d,none, .callv fz args⟩::r) K σ S:=by
 rw [YJ,hf]; simp only [jaz]; rw [ha]
 refine ⟨hc, ?_⟩
 show Jm P (some Z) d g xs S _
 simp only [Jm]
 rw [if_pos hw]
 exact ⟨X,S', .inl ht,h,hz,H⟩
theorem Mark_v (t:List (List Int)) (N pn pm pa on:Nat) (ht:t.length=N) (hN:N<2^62) (hr : ∀ l∈t,l.length<2^62) (hi : ∀ l∈t, ∀ u∈l,Ss.InR N u) :
  ∀ (n:Nat) (need:List Bool) (l:List Int) (S:Store),Ss.off need<n→need.length=N→l.length<2^62→(∀ v∈l,Ss.InR N v)→S.get pn=some (1,[.slice on 0 N])→S.get on=some (1,need.map V.bool)→S.get pa=some (1,[vl (vl vint) t])→S.get pm=some (1,[.func 68 [.ptr pn 0, .ptr pm 0, .ptr pa 0]])→on≠pn→on≠pa→on≠pm →
   VCalls Tryz.prog 68 [vl vint l, .ptr pn 0, .ptr pm 0, .ptr pa 0] S fun v T=>v = .tuple []∧T=S.upd on (1,(Ss.dfs t n need l).map V.bool):=by
 intro n
 induction n with
 | zero=>intro need l S h; omega
 | succ n ih =>
 intro need l S hoff hnl hll hlr gn go ga gm d1 d2 d3
 refine jb (c:=jg Tryz.f68) Tryz.func68 rfl rfl (by simp [Tryz.ntmps68]) ?_
 rw [Tryz.ntmps68]
 intro hwf
 have ln:=jr hwf gn
 have lo:=jr hwf go
 have la:=jr hwf ga
 have lm:=jr hwf gm
 repeat (first|refine QG ?_|refine QY ?_)
 repeat refine QS ?_
 refine je [1,2,3,7,8,9] rfl (fun c σ S' => ∃ (k:Nat) (nd:List Bool),k≤l.length∧c=l.length-k∧nd.length=N∧Ss.off nd<n+1∧Ss.dfs t (n+1) nd (l.drop k)=Ss.dfs t (n+1) need l∧σ=[(1, .ptr pn 0),(2, .ptr pm 0),(3, .ptr pa 0),(7,vl vint l),(8,vnat l.length),(9,vnat k)]∧S'=St S [(on,some (1,nd.map V.bool))] []) l.length ?_ ?_
 ·refine ⟨0,need,by omega,rfl,hnl,hoff,rfl,by simp [Fr.only], ?_⟩
  exact (Yj hwf [(on,some (1,need.map V.bool))] (fun p hp=>by simp only [List.mem_singleton] at hp; subst hp; exact go)).symm▸jQ hwf
 ·rintro c σ T ⟨k,nd,hk,rfl,hndl,hndo,hd,rfl,rfl⟩
  by_cases hkt:k<l.length
  ·have hw:=jm hkt (by omega)
   have hst:=List.drop_eq_getElem_cons hkt
   rw [hst,Ss.dfs] at hd
   obtain ⟨v0,v1⟩:=hlr l[k] (List.getElem_mem hkt)
   obtain ⟨m,hlk⟩ : ∃ m:Nat,l[k]=(m:Int):=⟨l[k].toNat,by omega⟩
   rw [hlk] at hd v0 v1
   have hm:m<N:=by omega
   have bn:=fun u l => @jk S u l pn ln
   have bo:=fun u l => @jk S u l on lo
   have ba:=fun u l => @jk S u l pa la
   have bm:=fun u l => @jk S u l pm lm
   have hno:pn≠on:=Ne.symm d1
   have hna:pa≠on:=Ne.symm d2
   have hnm:pm≠on:=Ne.symm d3
   have hmo:m<nd.length:=by omega
   have hmt:m<t.length:=by omega
   have hon:Ss.on nd (m:Int)=nd[m]:=by rw [Ss.on,List.getD_eq_getElem?_getD,Int.toNat_natCast,List.getElem?_eq_getElem hmo]; rfl
   have htd:t.getD ((m:Int)).toNat []=t[m]:=by rw [List.getD_eq_getElem?_getD,Int.toNat_natCast,List.getElem?_eq_getElem hmt]; rfl
   rw [hon,htd,Int.toNat_natCast] at hd
   have hup : ∀ x c,(St S [(on,x)] []).upd on c=St S [(on,some c)] []:=fun x c=>by rw [jP lo]; simp [uSet]
   cases hb:nd[m] with
   | true =>
    rw [hb] at hd
    simp only [if_true] at hd
    repeat (first|refine QG ?_|refine QY ?_ (r:=by conv=>lhs;simp[-List.map_set,QV,hkt,hlk,bn,bo,gn,go,hno,hmo,hb,hndl,hm,hw]))
    show jt _ _ _ _ _ _ _
    exact again ⟨Nat.sub_lt_sub_left hkt (Nat.lt_succ_self k),k+1,nd,hkt,rfl,hndl,hndo,hd,by simp [Fr.only,Fr.look],rfl⟩
   | false =>
    rw [hb] at hd
    simp only [Bool.false_eq_true,if_false] at hd
    have hof:=Ss.off_set (a:=nd) (i:=m) (by rw [List.getElem?_eq_getElem hmo,hb])
    have cih:=fun S'=>ih (nd.set m true) t[m] S' (by omega) (by rw [List.length_set]; exact hndl) (hr _ (List.getElem_mem hmt)) (fun v hv=>hi _ (List.getElem_mem hmt) v hv)
    have hmk:=Ss.dfs_marks (asks:=t) (N:=N) (fun l hl u hu=>by obtain ⟨h1,h2⟩:=hi l hl u hu; omega) n (nd.set m true) t[m] (by rw [List.length_set]; exact hndl) (fun u hu=>by obtain ⟨h1,h2⟩:=hi _ (List.getElem_mem hmt) u hu; omega) (by omega)
    have hof2:=Ss.off_le (a:=nd.set m true) (b:=Ss.dfs t n (nd.set m true) t[m]) hmk.len.symm hmk.mono
    generalize hD:Ss.dfs t n (nd.set m true) t[m]=D at *
    repeat (first|refine QG ?_|refine QY ?_ (r:=by conv=>lhs;simp[-List.map_set,QV,hkt,hlk,bn,bo,gn,go,hno,hmo,hb,hndl,hm,hw,hup]))
    repeat refine QS ?_
    refine jK (zE) (zE) [21,22,24,25,20026] rfl (by kernel_rfl) (by conv=>lhs; reduce) (by conv=>lhs; reduce) (by kernel_rfl) (by kernel_rfl) (zE_ok _) (by conv=>lhs; simp [-List.map_set,QV,bn,ba,bm,gn,ga,gm,hno,hna,hnm,hlk,hmt]) ?_
    have hcall:=cih (St S [(on,some (1,(nd.set m true).map V.bool))] []) ((bn _ _).trans (by simp only [uGet,if_neg hno]; exact gn)) ((bo _ _).trans (by simp [uGet])) ((ba _ _).trans (by simp only [uGet,if_neg hna]; exact ga)) ((bm _ _).trans (by simp only [uGet,if_neg hnm]; exact gm)) d1 d2 d3
    rw [hup] at hcall
    refine vcallv_t (by rfl) (by rfl) (by rfl) hcall (by rfl) (by rfl) (zE_ok _) ?_
    refine QM (by conv=>lhs;simp[-List.map_set,QV]) ?_
    refine QN ?_
    repeat (first|refine QG ?_|refine QY ?_ (r:=by conv=>lhs;simp[-List.map_set,QV,hw]))
    show jt _ _ _ _ _ _ _
    exact again ⟨Nat.sub_lt_sub_left hkt (Nat.lt_succ_self k),k+1,D,hkt,rfl,by rw [hmk.len,List.length_set]; exact hndl,by omega,hd,by simp [Fr.only,Fr.look],rfl⟩
  ·have hke:k=l.length:=by omega
   subst hke
   rw [List.drop_length,Ss.dfs] at hd
   subst hd
   repeat (first|refine QG ?_|refine QY ?_ (r:=by conv=>lhs;simp[-List.map_set,QV,hkt]))
   refine Jt (X := .tuple []) (S':=S.upd on (1,(Ss.dfs t (n+1) need l).map V.bool)) hwf (by simp) rfl ?_ ?_ ⟨rfl,rfl⟩
   ·simp [Kl,ZR]
   ·simp only [gcU,gcE,Option.map_some,Zs]
    exact JJ hwf lo
end Go.Vw

namespace Ss
theorem total_one {e:Env} {op n out:Int} (h:total op=true) : ∃ t,(form e op n out).outs=[t]:=by
 have h1:op≠258:=fun e=>by subst e; revert h; decide
 have h2:op≠16:=fun e=>by subst e; revert h; decide
 have h3:op≠35:=fun e=>by subst e; revert h; decide
 have h4:op≠36:=fun e=>by subst e; revert h; decide
 have h5:op≠256:=fun e=>by subst e; revert h; decide
 have h6:op≠27:=fun e=>by subst e; revert h; decide
 have e0:form e op n out=formNum e op:=by simp [form,h1,h2,h3,h4,h5,h6]
 rw [e0]
 unfold total at h
 unfold formNum numSig
 cases hf:find op with
 | none=>rw [hf] at h; simp at h
 | some g=>exact ⟨_,rfl⟩
theorem pure_one {e:Env} {op n out:Int} (h:pure op=true) : ∃ t,(form e op n out).outs=[t]:=by
 simp only [pure,Bool.or_eq_true,decide_eq_true_eq] at h
 rcases h with (rfl | rfl) | h
 ·by_cases ho:out=127<;>simp [form,ho]
 ·simp [form]
 ·exact total_one h
theorem jbJ {ts:List Int} {ds:List Def} {near:List Int} {block pos:Int} {l types:List Int} (h:asks ts ds near block pos l types=true) {v:Int} (hv:v∈l):InR ds.length v:=by
 obtain ⟨t,ht⟩:=eqF_fst h v hv
 simp only [askOk,Bool.and_eq_true,decide_eq_true_eq] at ht
 exact ⟨ht.1.1.1.1,ht.1.1.1.2⟩
theorem check_dok {e:Env} {f:Fn} (h:check e f=true):DOk f:=by
 obtain ⟨hh,ds,hds,hsh,hB⟩:=jaV h
 obtain ⟨hlen,hin⟩:=defs_in hds
 obtain ⟨hnd,hmade,hat⟩:=defs_made hds
 have hpar:=Kh hds
 have hr:Go.Vw.G.right (succs f.blocks)=true:=by
  simp only [shapeOk,Bool.and_eq_true] at hsh
  exact hsh.1.1.1.1
 have hto:=right_to hr
 have hblk : ∀ b∈f.blocks, ∃ j:Nat,f.blocks[j]? = some b∧checkCode e f ds (Go.Vw.G.nearI (succs f.blocks)) (j:Int) 0 b.code=true∧termOk f ds (Go.Vw.G.nearI (succs f.blocks)) (j:Int) b=true:=fun b hb=>by
  obtain ⟨j,hj⟩:=List.mem_iff_getElem?.1 hb
  have:=KX hB hj
  rw [Nat.zero_add] at this
  exact ⟨j,hj,this⟩
 have hins : ∀ b∈f.blocks, ∀ x∈b.code, ∃ j k:Nat,f.blocks[j]? = some b∧b.code[k]? = some x∧insOk e f ds (Go.Vw.G.nearI (succs f.blocks)) (j:Int) (k:Int) x=true:=fun b hb x hx=>by
  obtain ⟨j,hj,hc,_⟩:=hblk b hb
  obtain ⟨k,hk⟩:=List.mem_iff_getElem?.1 hx
  have:=YB hc hk
  rw [Nat.zero_add] at this
  exact ⟨j,k,hj,hk,this⟩
 have hterm : ∀ b∈f.blocks, ∃ (j:Int) (le mo:Nat) (rs:List Int),termTail f ds (Go.Vw.G.nearI (succs f.blocks)) j b.code.length b.term le mo rs=true:=fun b hb=>by
  obtain ⟨j,hj,_,ht⟩:=hblk b hb
  unfold termOk at ht
  split at ht
  ·exact ⟨_,_,_,_,ht⟩
  ·cases ht
 have hone : ∀ b∈f.blocks, ∀ x∈b.code,pure x.op=true → ∃ o,x.outs=[o]:=fun b hb x hx hp=>by
  obtain ⟨j,k,_,_,hi⟩:=hins b hb x hx
  simp only [insOk,Bool.and_eq_true,decide_eq_true_eq] at hi
  obtain ⟨t,ht⟩:=pure_one (e:=e) (n:=x.n) (out:=insOut f.types x) hp
  have h1:=hi.1.2
  rw [ht] at h1
  have h2:=congrArg List.length h1
  simp only [typesOf,List.length_map,List.length_singleton] at h2
  exact List.length_eq_one_iff.1 h2
 refine ⟨fun hb => ?_,fun b hb x hx v hv=>(hin b hb).2 x hx v hv,hone,fun b hb x hx v hv => ?_,fun b hb v hv=>(hin b hb).1 v hv,fun b hb v hv => ?_,fun b hb hk => ?_,fun b hb x hx v hv => ?_,fun b hb x hx => ?_,fun b hb c hc x hx y hy hp hq he => ?_,fun b hb c hc p hp y hy hm => ?_⟩
 ·simp only [shapeOk,Bool.and_eq_true] at hsh
  have:=hsh.2
  rw [hb] at this
  cases this
 ·obtain ⟨j,k,_,_,hi⟩:=hins b hb x hx
  have:=jbJ (insOk_asks hi) hv
  rwa [hlen] at this
 ·obtain ⟨j,le,mo,rs,ht⟩:=hterm b hb
  simp only [termTail,Bool.and_eq_true] at ht
  have:=jbJ ht.1.2 hv
  rwa [hlen] at this
 ·obtain ⟨j,le,mo,rs,ht⟩:=hterm b hb
  simp only [termTail,Bool.and_eq_true] at ht
  have h1:=ht.1.1.1.1
  rw [if_pos hk] at h1
  have:=jbJ h1 (v:=b.term.arg) (by simp)
  rwa [hlen] at this
 ·obtain ⟨j,le,mo,rs,ht⟩:=hterm b hb
  simp only [termTail,Bool.and_eq_true,List.all_eq_true] at ht
  have h1:=ht.2 x hx
  simp only [edgeOk,Bool.and_eq_true] at h1
  have:=jbJ h1.2 hv
  rwa [hlen] at this
 ·obtain ⟨j,le,mo,rs,ht⟩:=hterm b hb
  simp only [termTail,Bool.and_eq_true,List.all_eq_true] at ht
  have h1:=ht.2 x hx
  simp only [edgeOk,Bool.and_eq_true] at h1
  have h2:=eqF_len h1.2
  simp only [typesOf,List.length_map] at h2
  exact ⟨(hto b hb x hx).1,(hto b hb x hx).2,h2⟩
 ·obtain ⟨o,ho⟩:=hone b hb x hx hp
  obtain ⟨j,k,hj,hk,_⟩:=hins b hb x hx
  obtain ⟨j',k',hj',hk',_⟩:=hins c hc y hy
  have a1:=hat j b hj k x hk o (by simp [ho])
  have a2:=hat j' c hj' k' y hk' o (by simp [←he,ho])
  rw [a1] at a2
  simp only [Def.mk.injEq,true_and] at a2
  have e1:j=j':=by omega
  have e2:k=k':=by omega
  subst e1
  subst e2
  rw [hj] at hj'
  cases hj'
  rw [hk] at hk'
  cases hk'
  rfl
 ·obtain ⟨j,hj⟩:=List.mem_iff_getElem?.1 hb
  obtain ⟨j',k',hj',hk',_⟩:=hins c hc y hy
  have a1:=hpar j b hj p hp
  have a2:=hat j' c hj' k' y hk' p hm
  rw [a1] at a2
  simp only [Def.mk.injEq,true_and] at a2
  omega
end Ss

namespace Ss
def dNeed (f:Fn):List Bool:=dfs (askTab f) (f.types.length+1) (List.replicate f.types.length false) (roots f)
def dKeep (need:List Bool) (x:Ins):Bool := !pure x.op||on need (x.outs.getD 0 0)
def dEdge (need:List Bool) (bs:List Block) (e:Edge):Edge:=⟨e.to,(((bs.getD e.to.toNat default).params.zip e.args).filter fun q=>on need q.1).map Prod.snd⟩
def dBlock (need:List Bool) (bs:List Block) (b:Block):Block:=⟨b.params.filter (on need),b.code.filter (dKeep need),⟨b.term.kind,b.term.arg,b.term.to.map (dEdge need bs),b.term.args⟩⟩
def dceF (f:Fn):Fn:=⟨f.sig,f.types,f.blocks.map (dBlock (dNeed f) f.blocks)⟩
def dceOut (e:Env) (f:Fn):Fn × Int:=if check e f then (dceF f,0) else (⟨⟨[],[]⟩,[],[]⟩,6)
theorem dNeed_marks {f:Fn} (h:DOk f):Marks (askTab f) (List.replicate f.types.length false) (roots f) (dNeed f):=by
 have:=need_same h (m:=roots f) fun v=>Iff.rfl
 unfold dNeed
 rw [←this]
 exact Zo h
end Ss
