import Derived.Test.YtkfllaokjaldnaaGreatC23
import Derived.Test.YtkfllaokjaldnaaGreatC15
import Derived.Test.YtkfllaokjaldnaaGreatC22
import Derived.Test.YtkfllaokjaldnaaGreatC19
import Derived.Test.YtkfllaokjaldnaaGreatC21
/-
  Part of the proof (texts GHead, BPlain, SRepl).
-/
set_option linter.unusedVariables false
set_option linter.unusedSimpArgs false
/-
 What is so of each loop: its head dominates its nodes that are reached, and they come from its nodes alone.
-/
namespace Go.Vw.G
open Go.Vw
theorem jbg (inn:List Bool) (n:Nat) : ∀ k,n∈picked inn k↔n<k∧inn.getD n false=true
 | 0=>by simp [picked]
 | k+1=>by
  have ih:=jbg inn n k;simp only [picked];split
  ·rename_i h;rw [List.mem_append,ih];simp only [List.mem_singleton];constructor
   ·rintro (⟨h1,h2⟩ | h1)
    ·exact ⟨by omega,h2⟩
    ·subst h1; exact ⟨by omega,h⟩
   ·rintro ⟨h1,h2⟩
    by_cases e:n=k
    ·exact .inr e
    ·exact .inl ⟨by omega,h2⟩
  ·rename_i h;rw [ih];constructor
   ·rintro ⟨h1,h2⟩; exact ⟨by omega,h2⟩
   ·rintro ⟨h1,h2⟩;refine ⟨?_,h2⟩
    by_cases e:n=k
    ·subst e; exact absurd h2 h
    ·omega
theorem jbh {fr:List (List Nat)} {h:Nat} {ts:List Nat} {N n:Nat} (hn:n<N):(loopIn fr h ts N).getD n false=true↔n=h∨Bk fr h ts n:=by
 classical
 have e:(loopIn fr h ts N).getD n false=true↔(n=h∨Bk fr h ts n):=by simp [loopIn,hn]
 exact e
theorem Bk.lt {g:List (List Nat)} (hg:Ok g) {h:Nat} {ts:List Nat} (hts : ∀ t∈ts,t<g.length) {n:Nat} (hb:Bk (froms g) h ts n):n<g.length:=by
 induction hb with
 | start hn=>exact hts _ hn
 | step hb hne hp ih=>exact ((mem_froms hg _ _ ih).1 hp).1
theorem Bk.dom {g:List (List Nat)} (hg:Ok g) {h:Nat} {ts:List Nat} (hts : ∀ t∈ts,t<g.length) (htd : ∀ t∈ts,Dom g (order g) h t) {n:Nat} (hb:Bk (froms g) h ts n) (hn:n∈order g):Dom g (order g) h n:=by
 induction hb with
 | start ht=>exact htd _ ht
 | @step n p hb hne hp ih =>
  have hl:=Bk.lt hg hts hb;have hp':=(mem_froms hg n p hl).1 hp;have ho:=order_ok hg;have hno:n∈order g:=(ho.mem n).2 (From.step ((ho.mem p).1 hn) hp'.2 (qe _ _));exact (ih hno).pred (Ne.symm hne) hp'.2
structure HeadOk (g:List (List Nat)) (x:Nat × List Nat):Prop where
 lt:x.1<g.length
 head:x.1∈x.2
 nodes : ∀ n∈x.2,n<g.length
 dom : ∀ n∈x.2,(without g none).getD n false=true→dominates (rNear g) (x.1:Int) (n:Int)=true
 pred : ∀ n∈x.2,n≠x.1 → ∀ p∈(froms g).getD n [],p∈x.2
theorem heads {g:List (List Nat)} (hg:Ok g) : ∀ k,k≤g.length → ∀ x∈loopsTo (rNear g) (froms g) g.length k,HeadOk g x
 | 0,_,x,hx=>by simp [loopsTo] at hx
 | h+1,hk,x,hx=>by
  have ih:=heads hg h (by omega);simp only [loopsTo] at hx;split at hx
  ·exact ih x hx
  ·rename_i hc;rcases List.mem_append.1 hx with hx | hx
   ·exact ih x hx
   ·have hN:=rNear_ok hg;have ho:=order_ok hg;have hh:h∈order g:=by
     by_cases hh:h∈order g
     ·exact hh
     ·refine absurd (.inl ⟨?_, ?_⟩) hc
      ·rcases Nat.eq_zero_or_pos h with e | e
       ·subst e; exact absurd (YY ho) hh
       ·exact e
      ·have:=hN.out h (by omega) hh;have e:(rNear g).getD h 0=nd (rNear g) h:=rfl;omega
    have hrow : ∀ p∈(froms g).getD h [],p<g.length:=fun p hp=>((mem_froms hg h p (by omega)).1 hp).1
    have hts : ∀ t∈backs (rNear g) h ((froms g).getD h []),t<g.length:=fun t ht=>hrow t (List.mem_filter.1 ht).1
    have htd : ∀ t∈backs (rNear g) h ((froms g).getD h []),Dom g (order g) h t:=by
     intro t ht;have h1:=(List.mem_filter.1 ht).2;rcases (zP hg hN (by omega) (hts t ht)).1 h1 with h2 | h2
     ·exact h2.2.2
     ·subst h2; exact Dom.self _
    rw [List.mem_singleton] at hx;subst hx;generalize backs (rNear g) h ((froms g).getD h [])=ts at *
    have hmem : ∀ n,n∈picked (loopIn (froms g) h ts g.length) g.length↔n<g.length∧(n=h∨Bk (froms g) h ts n):=by
     intro n;rw [jbg];constructor
     ·rintro ⟨h1,h2⟩; exact ⟨h1,(jbh h1).1 h2⟩
     ·rintro ⟨h1,h2⟩; exact ⟨h1,(jbh h1).2 h2⟩
    refine ⟨by show h<g.length; omega,(hmem h).2 ⟨by omega, .inl rfl⟩,fun n hn=>((hmem n).1 hn).1, ?_, ?_⟩
    ·intro n hn hm;obtain ⟨h1,h2⟩:=(hmem n).1 hn;have hno:=(without_none hg n).1 hm;refine (zP hg hN (by show h<g.length; omega) h1).2 ?_;rcases h2 with e | hb
     ·exact .inr e.symm
     ·exact .inl ⟨hh,hno,Bk.dom hg hts htd hb hno⟩
    ·intro n hn hne p hp;obtain ⟨h1,h2⟩:=(hmem n).1 hn;rcases h2 with e | hb
     ·exact absurd e hne
     ·exact (hmem p).2 ⟨((mem_froms hg n p h1).1 hp).1, .inr (.step hb hne hp)⟩
end Go.Vw.G

namespace Ss
open Go.Vw.G
def chain (near:List Int):Nat→Int→List Int
 | 0,_=>[]
 | n+1,b=>if okIx near b then b::chain near n (near.getD b.toNat 0) else []
def covers (y x:Ins):Bool:=decide (y.op=257)&&decide (x.op=257)&&decide (y.args.getD 0 0=x.args.getD 0 0)&&decide (x.n≤y.n)
abbrev Kept:=List (Ins × Int)
def rcov (near:List Int) (n:Int) (all:Kept) (x:Ins):Bool:=all.any fun p=>covers p.1 x&&dominates near p.2 n
def rcode (near:List Int) (n:Int):Kept→List Ins→List Ins × Kept
 | all,[]=>([],all)
 | all,x::r=>if rcov near n all x then rcode near n all r else (x::(rcode near n (if x.op=257 then all++[(x,n)] else all) r).1,(rcode near n (if x.op=257 then all++[(x,n)] else all) r).2)
def rstep (near:List Int) (st:List Block × Kept) (n:Nat):List Block × Kept :=
 (st.1.set n ⟨(st.1.getD n default).params,(rcode near n st.2 (st.1.getD n default).code).1,(st.1.getD n default).term⟩,(rcode near n st.2 (st.1.getD n default).code).2)
def bce (near:List Int) (order:List Nat) (f:Fn):Fn:=⟨f.sig,f.types,(order.foldl (rstep near) (f.blocks,[])).1⟩
/-! ### The same by a map of places -/
abbrev Far:=List ((Int × Int) × Int)
def farGet (k:Int × Int):Far→Int
 | []=>0
 | (k',w)::r=>if k=k' then w else farGet k r
def farPut (k:Int × Int) (w:Int):Far→Far
 | []=>[(k,w)]
 | (k',w')::r=>if k=k' then (k,w)::r else (k',w')::farPut k w r
def pcov (near:List Int) (n:Int) (M:Far) (x:Ins):Bool:=decide (x.op=257)&&(chain near 257 n).any fun up=>decide (x.n<farGet (x.args.getD 0 0,up) M)
def pnext (near:List Int) (n:Int) (M:Far) (x:Ins):Far:=if x.op=257∧pcov near n M x=false then farPut (x.args.getD 0 0,n) (x.n+1) M else M
def pcode (near:List Int) (n:Int):Far→List Ins→List Ins × Far
 | M,[]=>([],M)
 | M,x::r=>if pcov near n M x then pcode near n (pnext near n M x) r else (x::(pcode near n (pnext near n M x) r).1,(pcode near n (pnext near n M x) r).2)
def pstep (near:List Int) (st:List Block × Far) (n:Nat):List Block × Far :=
 (st.1.set n ⟨(st.1.getD n default).params,(pcode near n st.2 (st.1.getD n default).code).1,(st.1.getD n default).term⟩,(pcode near n st.2 (st.1.getD n default).code).2)
def pbce (near:List Int) (order:List Nat) (f:Fn):Fn:=⟨f.sig,f.types,(order.foldl (pstep near) (f.blocks,[])).1⟩
def Tells (all:Kept) (M:Far):Prop := ∀ (v b N:Int),0≤N→(N<farGet (v,b) M ↔ ∃ p∈all,p.2=b∧p.1.op=257∧p.1.args.getD 0 0=v∧N≤p.1.n)
end Ss

namespace Go.Vw
open Go.Proofs Go.RowKit
set_option maxRecDepth 10000
set_option maxHeartbeats 2000000
theorem Zm (S:Store) (l:List Int) (hl:l.length≤1048576):VCalls Tryz.prog 75 [vl vint l] S (fun r T=>r = .slice (lid S.nx 0) 0 l.length∧T=St S [] [some (1,l.map vint)]):=by
 refine jb (c:=jg Tryz.f75) Tryz.func75 rfl rfl (by simp [Tryz.ntmps75]) ?_;rw [Tryz.ntmps75];intro hwf
 repeat refine QS ?_
 refine QY ?_
 repeat refine QS ?_
 refine vw_isnil (l:=l.map vint) rfl rfl (by rfl) rfl rfl rfl rfl (by rfl) rfl rfl Tryz.underlying23 rfl ?_;intro b hb;simp only [Fr.set]
 by_cases h:b=true
 ·have hl0:l=[]:=by simpa using hb h
  subst hl0;subst h
  repeat first|refine QG ?_|refine QY ?_
  exact ⟨_,_,(Ghost.nils (St S [] []) 1).toB _,by rw [qp]; rfl,by rw [jaB]; rfl⟩
 ·have h':b=false:=by simpa using h
  subst h';have hb1:l.length*8≤140737488355328:=by omega
  have hb2:l.length≤140737488355328:=by omega
  repeat first|refine QG ?_|refine QY ?_ (r:=by conv=>lhs;simp[-List.map_set,QV,hb1,hb2,ZT,nc_vint,qH,rep0])
  exact done_gc [1] hwf (by decide) (by simp) (by simp; rfl) (by simp; rfl) ⟨by simp,by simp⟩
theorem Clone_v (l:List Int) (hl:l.length≤1048576):VPure Tryz.prog 75 [vl vint l] (vl vint l):=by
 intro S;refine Js fun hwf=>zC ((Zm S l hl).mono ?_)
 rintro r T ⟨rfl,rfl⟩;exact ji hwf ((frz1 (k:=0) (by simp) (by rfl) (jL vint (fun _=>rfl) _) (by simp)).toB _) rfl
theorem one_v (v:Int) (to:List Int) (ht:to.length<2^63):VPure Tryz.prog 73 ([vint v]++[.ref (vl vint to)]) (vint (Ss.putv to v)):=by
 intro S;refine jb (c:=jg Tryz.f73) Tryz.func73 rfl rfl (by simp [Tryz.ntmps73]) ?_;rw [Tryz.ntmps73];intro hwf
 by_cases h1:0≤v
 ·obtain ⟨n,rfl⟩ : ∃ n:Nat,v=n:=⟨v.toNat,by omega⟩
  by_cases h2:n<to.length
  ·repeat first|refine QG ?_|refine QY ?_ (r:=by conv=>lhs;simp[-List.map_set,QV,h2])
   exact ja hwf (by simp [Ss.putv,h2]) rfl
  ·repeat first|refine QG ?_|refine QY ?_ (r:=by conv=>lhs;simp[-List.map_set,QV,h2])
   exact ja hwf (by simp [Ss.putv,h2]) rfl
 ·repeat first|refine QG ?_|refine QY ?_ (r:=by conv=>lhs;simp[-List.map_set,QV,h1])
  exact ja hwf (by simp [Ss.putv,h1]) rfl
theorem allO_v (S:Store) (l to:List Int) (ps:Nat) (hps:S.get ps=some (1,[.func 73 [.ref (vl vint to)]])) (hl:l.length≤1048576) (ht:to.length<2^63):VCalls Tryz.prog 74 ([vl vint l]++[.ptr ps 0]) S (fun r T=>r = .slice (lid S.nx 0) 0 l.length∧T=St S [] [some (1,(l.map (Ss.putv to)).map vint)]):=by
 have cp:=fun v=>one_v v to ht
 generalize Ss.putv to=g at *
 refine jb (c:=jg Tryz.f74) Tryz.func74 rfl rfl (by simp [Tryz.ntmps74]) ?_;rw [Tryz.ntmps74];intro hwf;have hpn:=qd hwf hps;have p1:=fun u l => @jx S u l _ hpn
 have pP:=fun ks=>zW (n:=S.nx) ks hpn
 have pT:=fun ks=>zp (n:=S.nx) ks hpn
 repeat refine QS ?_
 refine QY ?_
 repeat refine QS ?_
 refine QY ?_;refine zr 4 1 rfl (by conv=>lhs; simp [Fr.set]) ?_
 repeat first|refine QG ?_|refine QY ?_
 repeat refine QS ?_
 refine je [1,4,7,8,9] rfl (fun c σ S' => ∃ (k:Nat) (out:List Int),k≤l.length∧c=l.length-k∧out=(l.take k).map g∧out.length=k∧σ=[(1, .ptr ps 0),(4, .slice (lid S.nx 0) 0 k),(7,vl vint l),(8,vnat l.length),(9,vnat k)]∧S'=St S [] [some (1,out.map vint)]) l.length ?_ ?_
 ·exact ⟨0,[],by omega,rfl,by simp,rfl,by simp [Fr.only],by simp⟩
 ·rintro c σ T ⟨k,out,hk,rfl,ho,hlen,rfl,rfl⟩
  by_cases hkt:k<l.length
  ·have hw:=jn hkt (by omega);have cpk:=cp l[k];have htk:(l.take (k+1)).map g=(l.take k).map g++[g l[k]]:=by rw [List.take_add_one,List.getElem?_eq_getElem hkt,List.map_append]; rfl
   generalize g l[k]=gv at *
   have hb:(k+1)*8≤140737488355328:=by omega
   have hb':k+1≤140737488355328:=by omega
   repeat first|refine QG ?_|refine QY ?_ (r:=by conv=>lhs;simp[-List.map_set,QV,hkt])
   repeat refine QS ?_
   refine QP ?_ (r:=by conv=>lhs;simp[-List.map_set,QV,hkt,p1,hps]);refine Zv (cpk) (by rfl) (by rfl) (by rfl) ?_;refine QM (by conv=>lhs;simp[-List.map_set,QV,hb,hb',hlen]) ?_;refine QN ?_
   repeat first|refine QG ?_|refine QY ?_ (r:=by conv=>lhs;simp[-List.map_set,QV,hb,hb',hlen,hw])
   refine jY [2] (by conv=>lhs; simp [Fr.only]) hwf (by decide) (by simp [-List.map_set,pP,pT]) (by conv=>lhs; simp [-List.map_set,pP,pT]) (by conv=>lhs; simp [-List.map_set,pP,pT]) (by conv=>lhs; simp [-List.map_set,pP,pT]) ⟨?_,k+1,out++[gv],hkt,rfl,by rw [htk,ho],by simp [hlen],by simp [hw],by simp⟩;omega
  ·have hke:k=l.length:=by omega
   subst hke;rw [List.take_length] at ho
   repeat first|refine QG ?_|refine QY ?_ (r:=by conv=>lhs;simp[-List.map_set,QV,hkt])
   rw [←ho];exact zO ⟨by simp,rfl⟩
end Go.Vw
