import Derived.Test.YtkfllaokjaldnaaGreatC14
/- Part of the proof. -/
set_option linter.unusedVariables false
set_option linter.unusedSimpArgs false
set_option maxRecDepth 10000
set_option maxHeartbeats 4000000
namespace Ss
inductive Drop:List Ins->List Ins->Prop
 | nil:Drop [] []
 | keep (x:Ins) {l m:List Ins} (h:Drop l m):Drop (x::l) (x::m)
 | drop (x:Ins) {l m:List Ins} (o:x.op=257) (h:Drop l m):Drop (x::l) m
theorem Drop.trans {a b c:List Ins} (h:Drop a b):Drop b c->Drop a c:=by
 induction h generalizing c with
 | nil=>exact fun k=>k
 | keep x h ih =>
  intro k
  cases k with
  | keep _ k=>exact .keep x (ih k)
  | drop _ o k=>exact .drop x o (ih k)
 | drop x o h ih=>exact fun k => .drop x o (ih k)
theorem Drop.pos {l m:List Ins} (h:Drop l m) : ∃ φ:Nat->Nat,(∀ k k',k<=k'->φ k<=φ k')/\(∀ k x,l[k]? = some x->x.op≠257->m[φ k]? = some x /\ ∀ k',k<k'->φ k<φ k')/\(∀ j y,m[j]? = some y -> ∃ k,l[k]? = some y/\φ k=j)/\φ l.length=m.length:=by
 induction h with
 | nil=>exact ⟨fun _=>0,fun _ _ _=>a9 _,by simp,by simp,rfl⟩
 | @keep x l m h ih =>
  obtain ⟨φ,h1,h2,h3,h4⟩:=ih;refine ⟨fun k=>match k with | 0=>0 | k+1=>φ k+1,fun k k' hk => ?_,fun k y hk ho => ?_,fun j y hj => ?_,by simp [h4]⟩
  .cases k with
   | zero=>simp
   | succ k=>cases k' with
    | zero=>omega
    | succ k'=>have:=h1 k k' (by omega); simp only; omega
  .cases k with
   | zero=>exact ⟨by simpa using hk,fun k' hk'=>by cases k' with | zero=>omega | succ k'=>simp⟩
   | succ k =>
    obtain ⟨g1,g2⟩:=h2 k y (by simpa using hk) ho;exact ⟨by simpa using g1,fun k' hk'=>by cases k' with | zero=>omega | succ k'=>have:=g2 k' (by omega); simp only; omega⟩
  .cases j with
   | zero=>exact ⟨0,by simpa using hj,rfl⟩
   | succ j =>
    obtain ⟨k,e1,e2⟩:=h3 j y (by simpa using hj);exact ⟨k+1,by simpa using e1,by simp [e2]⟩
 | @drop x l m o h ih =>
  obtain ⟨φ,h1,h2,h3,h4⟩:=ih;refine ⟨fun k=>match k with | 0=>0 | k+1=>φ k,fun k k' hk => ?_,fun k y hk ho => ?_,fun j y hj => ?_,by simp [h4]⟩
  .cases k with
   | zero=>simp
   | succ k=>cases k' with
    | zero=>omega
    | succ k'=>exact h1 k k' (by omega)
  .cases k with
   | zero =>
    simp only [aK,ay] at hk;subst hk; exact absurd o ho
   | succ k =>
    obtain ⟨g1,g2⟩:=h2 k y (by simpa using hk) ho;exact ⟨g1,fun k' hk'=>by cases k' with | zero=>omega | succ k'=>exact g2 k' (by omega)⟩
  .obtain ⟨k,e1,e2⟩:=h3 j y hj;exact ⟨k+1,by simpa using e1,e2⟩
theorem Drop.outs {l m:List Ins} (h:Drop l m) (ho : ∀ x∈l,x.op=257->x.outs=[]):zK m=zK l:=by
 induction h with
 | nil=>rfl
 | @keep x l m h ih=>simp only [zK,List.flatMap_cons] at ih ⊢; rw [ih fun y hy=>ho y (by simp [hy])]
 | @drop x l m o h ih =>
  simp only [zK,List.flatMap_cons] at ih ⊢;rw [ih fun y hy=>ho y (by simp [hy]),ho x (by simp) o,bm]
theorem agr {block pos:Int} : ∀ {l:List Int} {ds:List Def},(∀ v∈l,0<=v/\v<ds.length)->l.Nodup->(∀ v∈l,(dAt ds v).made=false) -> ∃ d,put block pos ds l=some d
 | [],ds,_,_,_=>⟨ds,rfl⟩
 | v::l,ds,h1,h2,h3=>by
  obtain ⟨a1,a2⟩:=h1 v (by simp);obtain ⟨n1,n2⟩:=List.nodup_cons.1 h2;have hm:=h3 v (by simp);have hm':(ds.getD v.toNat default).made=false:=hm;simp only [put];rw [if_neg (by rw [hm']; simp; omega)];refine agr (fun w hw=>by rw [List.length_set]; exact h1 w (by simp [hw])) n2 fun w hw => ?_
  have hne:w≠v:=fun e=>n1 (e▸hw)
  rw [jdj a1 a2 (h1 w (by simp [hw])).1,if_neg hne];exact h3 w (by simp [hw])
theorem jbV {i:Int} : ∀ {l:List Ins} {k:Nat} {ds:List Def},(∀ v∈zK l,0<=v/\v<ds.length)->(zK l).Nodup->(∀ v∈zK l,(dAt ds v).made=false) -> ∃ d,putCode i k ds l=some d
 | [],k,ds,_,_,_=>⟨ds,rfl⟩
 | x::l,k,ds,h1,h2,h3=>by
  have e:zK (x::l)=x.outs++zK l:=rfl;rw [e] at h1 h2 h3;obtain ⟨n1,n2,n3⟩:=List.nodup_append.1 h2;obtain ⟨d,hd⟩:=agr (block:=i) (pos:=k) (fun v hv=>h1 v (by simp [hv])) n1 (fun v hv=>h3 v (by simp [hv]));have hp:=(KP hd).1;obtain ⟨d',hd'⟩:=jbV (i:=i) (k:=k+1) (l:=l) (ds:=d) (fun v hv=>by rw [YC hd]; exact h1 v (by simp [hv])) n2 (fun v hv=>by
   rw [hp.keep v (h1 v (by simp [hv])).1 (fun hm=>n3 v hm v hv rfl)]; exact h3 v (by simp [hv]))
  exact ⟨d',by rw [putCode,hd]; exact hd'⟩
theorem Zp : ∀ {l:List Block} {i:Nat} {ds:List Def},(∀ v∈allL l,0<=v/\v<ds.length)->(allL l).Nodup->(∀ v∈allL l,(dAt ds v).made=false) -> ∃ d,cI i ds l=some d
 | [],i,ds,_,_,_=>⟨ds,rfl⟩
 | b::l,i,ds,h1,h2,h3=>by
  have e:allL (b::l)=(b.params++zK b.code)++allL l:=rfl;rw [e] at h1 h2 h3;obtain ⟨n0,n2,n3⟩:=List.nodup_append.1 h2;obtain ⟨n1,n4,n5⟩:=List.nodup_append.1 n0;obtain ⟨d,hd⟩:=agr (block:=i) (pos := -1) (fun v hv=>h1 v (by simp [hv])) n1 (fun v hv=>h3 v (by simp [hv]));have hp:=(KP hd).1;obtain ⟨d1,hd1⟩:=jbV (i:=i) (k:=0) (l:=b.code) (ds:=d) (fun v hv=>by rw [YC hd]; exact h1 v (by simp [hv])) n4 (fun v hv=>by
   rw [hp.keep v (h1 v (by simp [hv])).1 (fun hm=>n5 v hm v hv rfl)]; exact h3 v (by simp [hv]))
  have hp1:=(Jx hd1).1;obtain ⟨d2,hd2⟩:=Zp (i:=i+1) (l:=l) (ds:=d1) (fun v hv=>by rw [afg hd1,YC hd]; exact h1 v (by simp [hv])) n2 (fun v hv=>by
   have h0:=(h1 v (by simp [hv])).1;rw [hp1.keep v h0 (fun hm=>n3 v (by simp [hm]) v hv rfl),hp.keep v h0 (fun hm=>n3 v (by simp [hm]) v hv rfl)]; exact h3 v (by simp [hv]))
  exact ⟨d2,by rw [cI,hd]; simp only [Option.bind_some]; rw [hd1]; exact hd2⟩
theorem Zy {e:Env} {f:Fn} {ds:List Def} {near:List Int} {i:Int} : ∀ {l:List Ins} {k:Nat},(∀ (j:Nat) (x:Ins),l[j]? = some x->insOk e f ds near i ((k+j:Nat):Int) x=true)->cx e f ds near i k l=true
 | [],k,_=>rfl
 | x::l,k,h=>by
  have h0:=h 0 x rfl;rw [Nat.add_zero] at h0;simp only [cx,af];refine ⟨h0,Zy fun j y hy => ?_⟩;have:=h (j+1) y (by simpa using hy);rw [show k+(j+1)=k+1+j by omega] at this;exact this
def DropL (l m:List Block):Prop:=m.length=l.length /\ ∀ (i:Nat) (b c:Block),l[i]? = some b->m[i]? = some c->c.params=b.params/\c.term=b.term/\Drop b.code c.code
theorem DropL.trans {l m n:List Block} (h:DropL l m) (k:DropL m n):DropL l n:=by
 refine ⟨k.1.trans h.1,fun i b c h1 h2 => ?_⟩;have hi:i<m.length:=by rw [h.1]; exact (ae.1 h1).1
 obtain ⟨a1,a2,a3⟩:=h.2 i b m[i] h1 (ac hi);obtain ⟨b1,b2,b3⟩:=k.2 i m[i] c (ac hi) h2;exact ⟨b1.trans a1,b2.trans a2,a3.trans b3⟩
theorem DropL.map {α:Type} {l m:List Block} (h:DropL l m) (F:Block->α) (hF : ∀ b c:Block,b∈l->c.params=b.params->c.term=b.term->Drop b.code c.code->F c=F b):m.map F=l.map F:=by
 apply List.ext_getElem?
 intro i;rw [a6,a6]
 by_cases hi:i<l.length
 .have hi2:i<m.length:=by rw [h.1]; exact hi
  rw [ac hi,ac hi2];obtain ⟨h1,h2,h3⟩:=h.2 i l[i] m[i] (ac hi) (ac hi2);simp only [bj,ay];exact hF _ _ (ah hi) h1 h2 h3
 .rw [aJ (by rw [h.1]; omega),aJ (by omega)]
end Ss
namespace Ss
open Go.Vw.G
theorem aod:pure 258=false:=by decide
end Ss
namespace Ss
def cutAt (b:Block) (i:Nat):Block:=⟨b.params,b.code.eraseIdx i,b.term⟩
def cC (b:Block) (x:Ins):Block:=⟨b.params,b.code++[x],b.term⟩
def moveAt (bs:List Block) (p n i:Nat):List Block:=(bs.set n (cutAt (bs.getD n default) i)).set p (cC (bs.getD p default) ((bs.getD n default).code.getD i default))
structure Mv (bs:List Block) (p n i:Nat) (bp bn:Block) (x:Ins):Prop where
 hp:bs[p]? = some bp
 hn:bs[n]? = some bn
 hi:bn.code[i]? = some x
 ne:p≠n
section
variable {bs:List Block} {p n i:Nat} {bp bn:Block} {x:Ins}
theorem Mv.eq (h:Mv bs p n i bp bn x):moveAt bs p n i=(bs.set n (cutAt bn i)).set p (cC bp x):=by
 simp only [moveAt,ag,h.hp,h.hn,h.hi,aR]
theorem Mv.len (h:Mv bs p n i bp bn x):(moveAt bs p n i).length=bs.length:=by simp [moveAt]
theorem Mv.at (h:Mv bs p n i bp bn x) (j:Nat):(moveAt bs p n i)[j]? = if j=p then some (cC bp x) else if j=n then some (cutAt bn i) else bs[j]? := by
 have h1:=(ae.1 h.hp).1;have h2:=(ae.1 h.hn).1;rw [h.eq]
 by_cases e1:j=p
 .subst e1;rw [if_pos rfl,aX (by simpa using h1)]
 .rw [if_neg e1,aQ (Ne.symm e1)]
  by_cases e2:j=n
  .subst e2;rw [if_pos rfl,aX h2]
  .rw [if_neg e2,aQ (Ne.symm e2)]
theorem YE {α:Type} {a:α} : ∀ {l:List α} {k:Nat},l[k]? = some a->l.Perm (a::l.eraseIdx k)
 | [],k,h=>by simp at h
 | b::l,0,h=>by
  simp only [aK,ay] at h;subst h; exact List.Perm.refl _
 | b::l,k+1,h=>by
  have:=YE (l:=l) (k:=k) (by simpa using h);rw [List.eraseIdx_cons_succ];exact (this.cons b).trans (List.Perm.swap a b _)
theorem jcQ {α:Type} {l:List α} {k:Nat} {a b:α} (h:l[k]? = some a):l.Perm (a::l.eraseIdx k)/\(l.set k b).Perm (b::l.eraseIdx k):=by
 have hk:=(ae.1 h).1;refine ⟨YE h, ?_⟩;have:=YE (l:=l.set k b) (k:=k) (a:=b) (aX hk)
 rwa [List.eraseIdx_set_eq] at this
theorem Mv.perm (h:Mv bs p n i bp bn x) {α:Type} (F:Block->List α) (X:List α) (h1:(F bn).Perm (X++F (cutAt bn i))) (h2:(F (cC bp x)).Perm (X++F bp)):((moveAt bs p n i).flatMap F).Perm (bs.flatMap F):=by
 have hp2:(bs.set n (cutAt bn i))[p]? = some bp:=by rw [aQ (Ne.symm h.ne)]; exact h.hp
 obtain ⟨a1,a2⟩:=jcQ (b:=cutAt bn i) h.hn;obtain ⟨c1,c2⟩:=jcQ (b:=cC bp x) hp2;rw [h.eq];generalize (bs.set n (cutAt bn i)).eraseIdx p=E at *
 generalize bs.eraseIdx n=G at *
 have e1:=c2.flatMap_right F;have e2:=c1.flatMap_right F;have e3:=a2.flatMap_right F;have e4:=a1.flatMap_right F;simp only [List.flatMap_cons] at e1 e2 e3 e4;refine e1.trans ?_;refine (h2.append_right _).trans ?_;rw [List.append_assoc];refine ((e2.symm.trans e3).append_left X).trans ?_;rw [<-List.append_assoc];exact (h1.symm.append_right _).trans e4.symm
theorem adg {l:List Ins} {i:Nat} {x:Ins} (h:l[i]? = some x):l.Perm (x::l.eraseIdx i):=(jcQ (b:=x) h).1
theorem Mv.all (h:Mv bs p n i bp bn x):(allL (moveAt bs p n i)).Perm (allL bs):=by
 have hc:=adg h.hi;refine h.perm (fun b=>b.params++zK b.code) x.outs ?_ ?_
 .have h1:(zK bn.code).Perm (x.outs++zK (bn.code.eraseIdx i)):=by
   have:=hc.flatMap_right Ins.outs;simpa [zK] using this
  refine (h1.append_left _).trans ?_;simp only [cutAt];rw [<-List.append_assoc, <-List.append_assoc];exact List.perm_append_comm.append_right _
 .simp only [cC,zK,List.flatMap_append,List.flatMap_cons,List.flatMap_nil,List.append_nil];rw [<-List.append_assoc];exact List.perm_append_comm
theorem Mv.codes (h:Mv bs p n i bp bn x):((moveAt bs p n i).flatMap Block.code).Perm (bs.flatMap Block.code):=by
 refine h.perm Block.code [x] (adg h.hi) ?_;simp only [cC];exact List.perm_append_comm
theorem Mv.count (h:Mv bs p n i bp bn x):count (moveAt bs p n i)=count bs:=by
 have e : ∀ l:List Block,Ss.count l=(l.flatMap Block.code).length:=fun l=>by
  rw [List.length_flatMap]; rfl
 rw [e,e,h.codes.length_eq]
theorem Mv.map (h:Mv bs p n i bp bn x) {α:Type} (F:Block->α) (h1:F (cutAt bn i)=F bn) (h2:F (cC bp x)=F bp):(moveAt bs p n i).map F=bs.map F:=by
 apply List.ext_getElem?
 intro j;rw [a6,a6,h.at j]
 by_cases e1:j=p
 .subst e1; rw [if_pos rfl,h.hp,bj,bj,h2]
 .rw [if_neg e1]
  by_cases e2:j=n
  .subst e2; rw [if_pos rfl,h.hn,bj,bj,h1]
  .rw [if_neg e2]
theorem Mv.succs (h:Mv bs p n i bp bn x):succs (moveAt bs p n i)=succs bs:=h.map rowOf rfl rfl
theorem adi {q:Ins->Bool} : ∀ {l:List Ins} {i:Nat} {x:Ins},l[i]? = some x->q x=false->(l.eraseIdx i).any q=l.any q
 | [],i,x,h,_=>by simp at h
 | a::l,0,x,h,hq=>by
  simp only [aK,ay] at h;subst h; simp [hq]
 | a::l,i+1,x,h,hq=>by
  simp only [List.eraseIdx_cons_succ,List.any_cons,adi (l:=l) (by simpa using h) hq]
theorem Mv.ticks (h:Mv bs p n i bp bn x) (hx:x.op≠258):(moveAt bs p n i).map tickB=bs.map tickB:=by
 refine h.map tickB ?_ ?_
 .exact adi (q:=fun y=>decide (y.op=258)) h.hi (by simpa using hx)
 .simp [tickB,cC,hx]
end
theorem jaD {op:Int} (h:pure op=true):op≠258:=fun e=>by rw [e,aod] at h; cases h
theorem JZ {l:List Ins} {i q:Nat}:(l.eraseIdx i)[q]? = if q<i then l[q]? else l[q+1]? := List.getElem?_eraseIdx
def psi (n i u K:Nat):Nat:=if u=n/\i<K then K-1 else K
theorem aqd {ts:List Int} {ds:List Def} {near:List Int} {block pos pos' v t:Int} (h:askOk ts ds near block pos v t=true) (hp:pos<=pos'):askOk ts ds near block pos' v t=true:=by
 simp only [askOk,af] at h ⊢;refine ⟨h.1, ?_⟩;have h2:=h.2;split at h2
 .rename_i e;rw [if_pos e];simp only [aj] at h2 ⊢;omega
 .rename_i e; rw [if_neg e]; exact h2
theorem alq {e:Env} {f:Fn} (h:check e f=true) {p n i:Nat} {bp bn:Block} {x:Ins} (hm:Mv f.blocks p n i bp bn x) (hx:pure x.op=true)
  (D2:Go.Vw.G.cy (Go.Vw.G.cD (succs f.blocks)) n p=false) (D1:Go.Vw.G.cy (Go.Vw.G.cD (succs f.blocks)) p n=true) (D3 : ∀ u:Nat,u<f.blocks.length->Go.Vw.G.cy (Go.Vw.G.cD (succs f.blocks)) n u=true->Go.Vw.G.cy (Go.Vw.G.cD (succs f.blocks)) p u=true)
  (D4 : ∀ ds,defsOf f=some ds -> ∀ a∈x.args,(ds.getD a.toNat default).block≠n/\((ds.getD a.toNat default).block=p\/Go.Vw.G.cy (Go.Vw.G.cD (succs f.blocks)) (ds.getD a.toNat default).block p=true)) :
  check e ⟨f.sig,f.types,moveAt f.blocks p n i⟩=true:=by
 have hd:=aa3 h;have hsm:=aa0 h;obtain ⟨hh,ds,hds,hsh,hbs⟩:=aae h;have D4:=D4 ds hds;obtain ⟨hdl,hdin⟩:=defs_in hds;obtain ⟨hnd,hmade,hout⟩:=qR hds;have hall:=hm.all;have hsu:=hm.succs;have htk:=hm.ticks (jaD hx);have hcnt:=hm.count;have hat:=hm.at;have hlen:=hm.len;have hnp:((n:Nat):Int)≠(p:Nat):=fun e=>hm.ne (by omega)
 obtain ⟨g,hg⟩ : ∃ g:Fn,g=⟨f.sig,f.types,moveAt f.blocks p n i⟩:=⟨_,rfl⟩
 have hgb:g.blocks=moveAt f.blocks p n i:=by rw [hg]
 have hgs:g.sig=f.sig:=by rw [hg]
 have hgt:g.types=f.types:=by rw [hg]
 rw [<-hg];rw [<-hgb] at hall hsu htk hcnt hat hlen;clear hg hgb;have hrange : ∀ v∈allL f.blocks,0<=v/\v<f.types.length:=fun v hv=>by
  obtain ⟨b,hb,hv⟩:=bh.1 hv;obtain ⟨k1,k2⟩:=hdin b hb;rcases aG.1 hv with hv | hv
  .exact k1 v hv
  .obtain ⟨x,hx,hv⟩:=bh.1 hv;exact k2 x hx v hv
 obtain ⟨ds',hds'⟩:=Zp (l:=g.blocks) (i:=0) (ds:=List.replicate g.types.length ⟨false,0,0⟩) (by rw [List.length_replicate,hgt]; exact fun v hv=>hrange v (hall.subset hv)) (hall.nodup_iff.2 hnd) (fun v _=>ajn _ _);have hds2:defsOf g=some ds':=hds';obtain ⟨hdl',_⟩:=defs_in hds2;obtain ⟨_,hmade',hout'⟩:=qR hds2;have hpar : ∀ m:Nat,(g.blocks.getD m default).params=(f.blocks.getD m default).params:=fun m=>by
  rw [ag,ag,hat m]
  by_cases e1:m=p
  .subst e1; rw [if_pos rfl,hm.hp]; rfl
  .rw [if_neg e1]
   by_cases e2:m=n
   .subst e2; rw [if_pos rfl,hm.hn]; rfl
   .rw [if_neg e2]
 have hfb : ∀ (j:Nat) (c:Block),g.blocks[j]? = some c -> ∃ b,f.blocks[j]? = some b/\c.params=b.params/\c.term=b.term/\c.code=(if j=p then bp.code++[x] else if j=n then bn.code.eraseIdx i else b.code)/\(j=p->b=bp)/\(j=n->b=bn):=fun j c hc=>by
  rw [hat j] at hc
  by_cases e1:j=p
  .subst e1;rw [if_pos rfl] at hc
   cases hc
   exact ⟨bp,hm.hp,rfl,rfl,by rw [if_pos rfl]; rfl,fun _=>rfl,fun e=>absurd e hm.ne⟩
  .rw [if_neg e1] at hc
   by_cases e2:j=n
   .subst e2;rw [if_pos rfl] at hc
    cases hc
    exact ⟨bn,hm.hn,rfl,rfl,by rw [if_neg e1,if_pos rfl]; rfl,fun e=>absurd e e1,fun _=>rfl⟩
   .rw [if_neg e2] at hc;exact ⟨c,hc,rfl,rfl,by rw [if_neg e1,if_neg e2],fun e=>absurd e e1,fun e=>absurd e e2⟩
 have hbf : ∀ (j:Nat) (b:Block),f.blocks[j]? = some b -> ∃ c,g.blocks[j]? = some c/\c.params=b.params/\c.code=(if j=p then bp.code++[x] else if j=n then bn.code.eraseIdx i else b.code)/\(j=p->b=bp)/\(j=n->b=bn):=fun j b hb=>by
  have hjl:j<g.blocks.length:=by rw [hlen]; exact (ae.1 hb).1
  obtain ⟨b',hb',q1,q2,q3,q4⟩:=hfb j _ (ac hjl);rw [hb] at hb'
  cases hb'
  exact ⟨_,ac hjl,q1,q3,q4⟩
 have hhead:checkHead e g=true:=by
  simp only [checkHead,af,aj,aD] at hh ⊢;obtain ⟨⟨⟨⟨⟨g1,g2⟩,g3⟩,g4⟩,g5⟩,g6⟩:=hh;refine ⟨⟨⟨⟨⟨g1, ?_⟩,by rw [hlen]; exact g3⟩,by rw [hgt]; exact g4⟩,by rw [hgs]; exact g5⟩,fun c hc => ?_⟩
  .obtain ⟨k1,k2,k3⟩:=(aao f).1 hsm;refine (aao g).2 ⟨?_,fun c hc => ?_,by rw [hcnt]; exact k3⟩
   .simp only [Fn.heads,hlen,hgs,hgt] at k1 ⊢; exact k1
   .obtain ⟨j,hj⟩:=aB.1 hc;obtain ⟨b,hb,q1,q2,q3,_⟩:=hfb j c hj;have hsb:=k2 b (aA hb);have hsp:=k2 bp (aA hm.hp);have hsn:=k2 bn (aA hm.hn);simp only [Block.small,af,aD] at hsb hsp hsn ⊢;rw [q1,q2];refine ⟨⟨hsb.1.1,fun y hy => ?_⟩,hsb.2⟩;rw [q3] at hy;split at hy
    .rcases aG.1 hy with hy | hy
     .exact hsp.1.2 y hy
     .rw [aU] at hy; subst hy;exact hsn.1.2 _ (aA hm.hi)
    .split at hy
     .exact hsn.1.2 y (List.mem_of_mem_eraseIdx hy)
     .exact hsb.1.2 y hy
  .obtain ⟨j,hj⟩:=aB.1 hc;obtain ⟨b,hb,q1,_⟩:=hfb j c hj;rw [q1];exact g6 b (aA hb)
 have hshape:shapeOk g=true:=by
  simp only [shapeOk,af] at hsh ⊢;have hr:rings g.blocks (Go.Vw.G.nats (succs f.blocks))=rings f.blocks (Go.Vw.G.nats (succs f.blocks)):=by simp only [rings,htk]
  rw [hsu,hlen,hgs,hpar 0,hgt,hr];refine ⟨hsh.1, ?_⟩;have h5:=hsh.2;have h0:0<f.blocks.length:=List.length_pos_iff.2 hd.ne;obtain ⟨b0,hb0⟩ : ∃ b0,f.blocks[0]? = some b0:=⟨_,ac h0⟩
  obtain ⟨c0,hc0,_,q3,q4,q5⟩:=hbf 0 b0 hb0;have e1:f.blocks.getD 0 default=b0:=by rw [ag,hb0]; rfl
  have e2:g.blocks.getD 0 default=c0:=by rw [ag,hc0]; rfl
  rw [e1] at h5;rw [e2,q3]
  by_cases ep:0=p
  .rw [if_pos ep, <-q4 ep]
   cases hb:b0.code with
   | nil=>rw [hb] at h5; cases h5
   | cons y r=>rw [hb] at h5; simpa using h5
  .rw [if_neg ep]
   by_cases en:0=n
   .rw [if_pos en, <-q5 en];have hi':=hm.hi;rw [<-q5 en] at hi'
    cases hb:b0.code with
    | nil=>rw [hb] at h5; cases h5
    | cons y r =>
     rw [hb] at h5 hi';simp only [aj] at h5
     cases i with
     | zero =>
      simp only [aK,ay] at hi';subst hi';exact absurd h5 (jaD hx)
     | succ i=>simpa using h5
   .rw [if_neg en]; exact h5
 have fact : ∀ v:Int,0<=v->(ds.getD v.toNat default).made=true->(∃ B P P':Int,ds.getD v.toNat default=⟨true,B,P⟩/\ds'.getD v.toNat default=⟨true,B,P'⟩/\(B=n->(P<i->P'=P)/\(i<P->P'=P-1)/\P≠i)/\(B≠n->P'=P)/\(B=p->P<bp.code.length))\/(ds.getD v.toNat default=⟨true,n,i⟩/\ds'.getD v.toNat default=⟨true,p,bp.code.length⟩):=by
  intro v q1 q4;have hv:=hmade v q1 q4;obtain ⟨b2,hb2,hv2⟩:=bh.1 hv;obtain ⟨j,hj⟩:=aB.1 hb2;obtain ⟨c,hc,r1,r2,r3,r4⟩:=hbf j b2 hj;rcases aG.1 hv2 with hp | ho
  .have a1:=jN hds j b2 hj v hp;have a2:=jN hds' j c hc v (by rw [r1]; exact hp);rw [a8] at a1 a2;exact .inl ⟨_,_,_,a1,a2,fun _=>⟨fun _=>rfl,fun h=>by omega,by omega⟩,fun _=>rfl,fun _=>by omega⟩
  .obtain ⟨y,hy,hvy⟩:=bh.1 ho;obtain ⟨k,hk⟩:=aB.1 hy;have a1:=hout j b2 hj k y hk v hvy;have hkl:=(ae.1 hk).1
   by_cases e1:j=p
   .subst e1;rw [if_pos rfl] at r2;rw [r3 rfl] at hk hkl;have a2:=hout' j c hc k y (by rw [r2,aT hkl]; exact hk) v hvy;exact .inl ⟨_,_,_,a1,a2,fun e=>absurd e (Ne.symm hnp),fun _=>rfl,fun _=>by omega⟩
   .rw [if_neg e1] at r2
    by_cases e2:j=n
    .subst e2;rw [if_pos rfl] at r2;rw [r4 rfl] at hk
     by_cases e3:k=i
     .subst e3;rw [hm.hi] at hk
      cases hk
      obtain ⟨cp,hcp,_,s2,_,_⟩:=hbf p bp hm.hp;rw [if_pos rfl] at s2;have a2:=hout' p cp hcp bp.code.length x (by rw [s2,bf (a9 _)]; simp) v hvy;exact .inr ⟨a1,a2⟩
     .by_cases e4:k<i
      .have a2:=hout' j c hc k y (by rw [r2,JZ,if_pos e4]; exact hk) v hvy;exact .inl ⟨_,_,_,a1,a2,fun _=>⟨fun _=>rfl,fun h=>by omega,by omega⟩,fun e=>absurd rfl e,fun e=>absurd e hnp⟩
      .have a2:=hout' j c hc (k-1) y (by rw [r2,JZ,if_neg (by omega),Nat.sub_add_cancel (by omega)]; exact hk) v hvy;exact .inl ⟨_,_,_,a1,a2,fun _=>⟨fun h=>by omega,fun h=>by omega,by omega⟩,fun e=>absurd rfl e,fun e=>absurd e hnp⟩
    .rw [if_neg e2] at r2;have a2:=hout' j c hc k y (by rw [r2]; exact hk) v hvy;exact .inl ⟨_,_,_,a1,a2,fun e=>absurd (by omega) e2,fun _=>rfl,fun e=>absurd (by omega) e1⟩
 have key : ∀ (u K:Nat) (v t:Int),u<f.blocks.length -> ¬ (u=n/\K=i)->askOk f.types ds (Go.Vw.G.cD (succs f.blocks)) u K v t=true->askOk g.types ds' (Go.Vw.G.cD (succs f.blocks)) u (psi n i u K:Nat) v t=true:=by
  intro u K v t hul hne ha;simp only [askOk,af,aj] at ha ⊢;obtain ⟨⟨⟨⟨q1,q2⟩,q3⟩,q4⟩,q5⟩:=ha;have rng:(0<=v/\v<ds'.length)/\g.types.getD v.toNat 0=t:=⟨⟨q1,by rw [hdl',hgt, <-hdl]; exact q2⟩,by rw [hgt]; exact q3⟩
  rcases fact v q1 q4 with ⟨B,P,P',f1,f2,f3,f4,f5⟩ | ⟨f1,f2⟩
  .rw [f1] at q5;rw [f2];refine ⟨⟨rng,rfl⟩, ?_⟩;simp only at q5 ⊢
   by_cases eB:B=u
   .rw [if_pos eB,aj] at q5 ⊢;unfold psi
    by_cases en:u=n
    .obtain ⟨g1,g2,g3⟩:=f3 (by omega);split
     .rcases Int.lt_or_gt_of_ne g3 with h | h
      .rw [g1 h]; omega
      .rw [g2 h]; omega
     .rw [g1 (by omega)]; exact q5
    .rw [if_neg (fun h=>en h.1),f4 (by omega)]; exact q5
   .rw [if_neg eB] at q5 ⊢; exact q5
  .rw [f1] at q5;rw [f2];refine ⟨⟨rng,rfl⟩, ?_⟩;simp only at q5 ⊢
   by_cases ep:(p:Int)=u
   .have:p=u:=by omega
    subst this;rw [if_neg hnp,D2] at q5
    cases q5
   .rw [if_neg ep]
    by_cases en:(n:Int)=u
    .have:n=u:=by omega
     subst this;exact D1
    .rw [if_neg en] at q5;exact D3 u hul q5
 have keyA : ∀ (u K:Nat) (l t:List Int),u<f.blocks.length -> ¬ (u=n/\K=i)->asks f.types ds (Go.Vw.G.cD (succs f.blocks)) u K l t=true->asks g.types ds' (Go.Vw.G.cD (succs f.blocks)) u (psi n i u K:Nat) l t=true :=
  fun u K l t hul hne ha=>ZY (fun x hx y hxy=>key u K x y hul hne hxy) ha
 have keyX : ∀ v t:Int,v∈x.args->askOk f.types ds (Go.Vw.G.cD (succs f.blocks)) n i v t=true->askOk g.types ds' (Go.Vw.G.cD (succs f.blocks)) p (bp.code.length:Nat) v t=true:=by
  intro v t hv ha;simp only [askOk,af,aj] at ha ⊢;obtain ⟨⟨⟨⟨q1,q2⟩,q3⟩,q4⟩,q5⟩:=ha;obtain ⟨d1,d2⟩:=D4 v hv;rcases fact v q1 q4 with ⟨B,P,P',f1,f2,f3,f4,f5⟩ | ⟨f1,f2⟩
  .rw [f1] at d1 d2;rw [f2];refine ⟨⟨⟨⟨q1,by rw [hdl',hgt, <-hdl]; exact q2⟩,by rw [hgt]; exact q3⟩,rfl⟩, ?_⟩;simp only at d1 d2 ⊢
   by_cases eB:B=p
   .rw [if_pos eB,aj,f4 d1]; exact f5 eB
   .rw [if_neg eB];rcases d2 with h | h
    .exact absurd h eB
    .exact h
  .rw [f1] at d1;exact absurd rfl d1
 have hblocks:cH e g ds' (Go.Vw.G.cD (succs g.blocks)) 0 g.blocks=true:=by
  rw [hsu];refine Wi fun j c hc => ?_
  rw [a8];obtain ⟨b,hb,w1,w2,w3,w4,w5⟩:=hfb j c hc;have hjl:=(ae.1 hb).1;have hbm:=aA hb;obtain ⟨c1,c2⟩:=aad hbs hb;rw [a8] at c1 c2;have old : ∀ (k q:Nat) (y:Ins),b.code[k]? = some y -> ¬ (j=n/\k=i)->psi n i j k=q->insOk e g ds' (Go.Vw.G.cD (succs f.blocks)) j q y=true:=by
   intro k q y hk hne hq;have:=aaj c1 hk;rw [a8] at this;simp only [insOk,af] at this ⊢;rw [hgt];refine ⟨this.1, ?_⟩;have h9:=keyA j k _ _ hjl hne this.2;rw [hgt,hq] at h9;exact h9
  constructor
  .refine Zy fun q y hy => ?_
   rw [a8];rw [w3] at hy
   by_cases e1:j=p
   .rw [if_pos e1, <-w4 e1] at hy
    by_cases hq:q<b.code.length
    .rw [aT hq] at hy;refine old q q y hy (fun h=>hm.ne (e1▸h.1)) ?_;unfold psi; rw [if_neg (fun h=>hm.ne (e1▸h.1))]
    .rw [bf (by omega)] at hy;have hql:q=b.code.length:=by
      have:=(ae.1 hy).1;simp at this; omega
     subst hql;simp only [Nat.sub_self,aK,ay] at hy;subst hy;obtain ⟨d1,d2⟩:=aad hbs hm.hn;have:=aaj d1 hm.hi;rw [a8,a8] at this;simp only [insOk,af] at this ⊢;rw [hgt];refine ⟨this.1, ?_⟩;rw [w4 e1,e1];have h9:asks g.types ds' (Go.Vw.G.cD (succs f.blocks)) p (bp.code.length:Nat) x.args _=true:=ZY (fun v hv t ht=>keyX v t hv ht) this.2;rw [hgt] at h9;exact h9
   .rw [if_neg e1] at hy
    by_cases e2:j=n
    .rw [if_pos e2, <-w5 e2,JZ] at hy
     by_cases hq:q<i
     .rw [if_pos hq] at hy;refine old q q y hy (fun h=>by omega) ?_;unfold psi; rw [if_neg (fun h=>by omega)]
     .rw [if_neg hq] at hy;refine old (q+1) q y hy (fun h=>by omega) ?_;unfold psi; rw [if_pos ⟨e2,by omega⟩]; rfl
    .rw [if_neg e2] at hy;refine old q q y hy (fun h=>e2 h.1) ?_;unfold psi; rw [if_neg (fun h=>e2 h.1)]
  .have hposle:(psi n i j b.code.length:Nat)<=c.code.length:=by
    rw [w3];unfold psi
    by_cases e1:j=p
    .rw [if_pos e1,if_neg (fun h=>hm.ne (e1▸h.1)),w4 e1]; simp
    .rw [if_neg e1]
     by_cases e2:j=n
     .have hil:=(ae.1 hm.hi).1;rw [if_pos e2,if_pos ⟨e2,by rw [w5 e2]; exact hil⟩,w5 e2,List.length_eraseIdx_of_lt hil]; exact a9 _
     .rw [if_neg e2,if_neg (fun h=>e2 h.1)]; exact a9 _
   have hne : ¬ (j=n/\b.code.length=i):=fun hc=>by
    have:=(ae.1 hm.hi).1;rw [<-w5 hc.1] at this; omega
   have keyT : ∀ (l t:List Int),asks f.types ds (Go.Vw.G.cD (succs f.blocks)) j b.code.length l t=true->asks g.types ds' (Go.Vw.G.cD (succs f.blocks)) j c.code.length l t=true:=fun l t ha =>
    ZY (fun v hv y hy=>aqd (key j _ v y hjl hne hy) (by omega)) ha
   unfold termOk at c2 ⊢;rw [w2,hgs];split at c2
   .rename_i le mo rs heq;simp only [termTail,af] at c2 ⊢;obtain ⟨⟨⟨⟨t1,t2⟩,t3⟩,t4⟩,t5⟩:=c2;refine ⟨⟨⟨⟨?_,t2⟩,t3⟩,keyT _ _ t4⟩,aD.2 fun y hy => ?_⟩
    .split at t1
     .rename_i hbr;rw [if_pos hbr];exact keyT _ _ t1
     .rename_i hbr; rw [if_neg hbr]; exact t1
    .have:=aD.1 t5 y hy;simp only [edgeOk,af] at this ⊢;rw [hpar,hgt];refine ⟨this.1, ?_⟩;have h9:=keyT _ _ this.2;rw [hgt] at h9;exact h9
   .cases c2
 simp only [check,hhead,hds2,hshape,hblocks,Bool.and_self]
end Ss
namespace Ss
open Go.Vw.G
def canMove (hm:Int->Int) (nodes:List Nat) (x:Ins):Bool:=pure x.op&&x.args.all fun a => !decide (hm a∈nodes.map Int.ofNat)
def firstB (bs:List Block) (hm:Int->Int) (nodes:List Nat):List Nat->Option (Nat × Nat)
 | []=>none
 | n::r=>match (bs.getD n default).code.findIdx? (canMove hm nodes) with
  | some i=>some (n,i)
  | none=>firstB bs hm nodes r
def first (bs:List Block) (hm:Int->Int):List (Nat × List Nat)->Option (Nat × Nat × Nat)
 | []=>none
 | l::r=>match porch bs l.1 (l.2.map Int.ofNat) with
  | none=>first bs hm r
  | some p=>match firstB bs hm l.2 l.2 with
   | some m=>some (p.toNat,m.1,m.2)
   | none=>first bs hm r
theorem jaY {bs:List Block} {hm:Int->Int} {nodes:List Nat} : ∀ {l:List Nat} {n i:Nat},firstB bs hm nodes l=some (n,i)->n∈l /\ ∃ x,(bs.getD n default).code[i]? = some x/\canMove hm nodes x=true
 | [],n,i,h=>by simp [firstB] at h
 | m::l,n,i,h=>by
  rw [firstB] at h;split at h
  .rename_i j hj
   cases h
   obtain ⟨h1,h2,_⟩:=List.findIdx?_eq_some_iff_getElem.1 hj;exact ⟨by simp,_,ac h1,h2⟩
  .obtain ⟨h1,h2⟩:=jaY h;exact ⟨by simp [h1],h2⟩
theorem YY {bs:List Block} {hm:Int->Int} : ∀ {lp:List (Nat × List Nat)} {p n i:Nat},first bs hm lp=some (p,n,i) -> ∃ l∈lp, ∃ q,porch bs l.1 (l.2.map Int.ofNat)=some q/\p=q.toNat/\n∈l.2 /\ ∃ x,(bs.getD n default).code[i]? = some x/\canMove hm l.2 x=true
 | [],p,n,i,h=>by simp [first] at h
 | l::r,p,n,i,h=>by
  rw [first] at h;split at h
  .obtain ⟨l',h1,h2⟩:=YY h;exact ⟨l',by simp [h1],h2⟩
  .rename_i q hq;split at h
   .rename_i m hm'
    cases h
    obtain ⟨h1,h2⟩:=jaY (n:=m.1) (i:=m.2) hm';exact ⟨l,by simp,q,hq,rfl,h1,h2⟩
   .obtain ⟨l',h1,h2⟩:=YY h;exact ⟨l',by simp [h1],h2⟩
theorem Ya {q r:Ins->Bool} : ∀ {l:List Ins},(∀ x∈l,q x=r x)->l.findIdx? q=l.findIdx? r
 | [],_=>rfl
 | a::l,h=>by rw [List.findIdx?_cons,List.findIdx?_cons,h a (by simp),Ya fun x hx=>h x (by simp [hx])]
theorem jdm {hm hm':Int->Int} {nodes:List Nat} {x:Ins} (h : ∀ a∈x.args,hm a=hm' a):canMove hm nodes x=canMove hm' nodes x:=by
 unfold canMove
 congr 1
 rw [Bool.eq_iff_iff,aD,aD];exact ⟨fun k a ha=>by rw [<-h a ha]; exact k a ha,fun k a ha=>by rw [h a ha]; exact k a ha⟩
theorem Zt {bs:List Block} {hm hm':Int->Int} {nodes:List Nat} (h : ∀ n:Nat, ∀ x∈(bs.getD n default).code, ∀ a∈x.args,hm a=hm' a) : ∀ l:List Nat,firstB bs hm nodes l=firstB bs hm' nodes l
 | []=>rfl
 | n::l=>by rw [firstB,firstB,Ya fun x hx=>jdm (h n x hx),Zt h l]
theorem jaX {bs:List Block} {hm hm':Int->Int} (h : ∀ n:Nat, ∀ x∈(bs.getD n default).code, ∀ a∈x.args,hm a=hm' a) : ∀ lp:List (Nat × List Nat),first bs hm lp=first bs hm' lp
 | []=>rfl
 | l::r=>by rw [first,first,Zt h l.2,jaX h r]
def homeOf (f:Fn) (v:Int):Int:=(((defsOf f).getD []).getD v.toNat default).block
noncomputable def lps (bs:List Block):List (Nat × List Nat):=loopsTo (rNear (nats (succs bs))) (froms (nats (succs bs))) (nats (succs bs)).length (nats (succs bs)).length
def weigh (w:Nat->Nat):Nat->List Block->Nat
 | _,[]=>0
 | j,b::bs=>b.code.length*w j+weigh w (j+1) bs
theorem jaf {w:Nat->Nat} : ∀ {l:List Block} {j k:Nat} {b c:Block},l[k]? = some b->weigh w j (l.set k c)+b.code.length*w (j+k)=weigh w j l+c.code.length*w (j+k)
 | [],j,k,b,c,h=>by simp at h
 | a::l,j,0,b,c,h=>by
  simp only [aK,ay] at h;subst h;simp only [au,weigh,Nat.add_zero]; omega
 | a::l,j,k+1,b,c,h=>by
  have:=jaf (w:=w) (l:=l) (j:=j+1) (k:=k) (b:=b) (c:=c) (by simpa using h);rw [aq,weigh,weigh,show j+(k+1)=j+1+k by omega];omega
theorem Mv.weigh {bs:List Block} {p n i:Nat} {bp bn:Block} {x:Ins} (h:Mv bs p n i bp bn x) {w:Nat->Nat} (hw:w p<w n):Ss.weigh w 0 (moveAt bs p n i)<Ss.weigh w 0 bs:=by
 have hp2:(bs.set n (cutAt bn i))[p]? = some bp:=by rw [aQ (Ne.symm h.ne)]; exact h.hp
 have e1:=jaf (w:=w) (j:=0) (c:=cutAt bn i) h.hn;have e2:=jaf (w:=w) (j:=0) (c:=cC bp x) hp2;have hil:=(ae.1 h.hi).1;rw [h.eq];have l1:(cutAt bn i).code.length=bn.code.length-1:=by simp only [cutAt,List.length_eraseIdx_of_lt hil]
 have l2:(cC bp x).code.length=bp.code.length+1:=by simp [cC]
 rw [l1] at e1;rw [l2] at e2;simp only [a8] at e1 e2;obtain ⟨m,hm⟩ : ∃ m,bn.code.length=m+1:=⟨bn.code.length-1,by omega⟩
 rw [hm,Nat.add_sub_cancel,Nat.succ_mul] at e1;rw [Nat.succ_mul] at e2;omega
theorem abx {e:Env} {f:Fn} (h:check e f=true) {p n i:Nat} (hf:first f.blocks (homeOf f) (lps f.blocks)=some (p,n,i)) :
  ∃ bp bn x,Mv f.blocks p n i bp bn x/\pure x.op=true/\check e ⟨f.sig,f.types,moveAt f.blocks p n i⟩=true/\rk (nats (succs f.blocks)) (order (nats (succs f.blocks))) p<rk (nats (succs f.blocks)) (order (nats (succs f.blocks))) n:=by
 obtain ⟨l,hl,q,hq,rfl,hn,x,hx,hcan⟩:=YY hf;have hgr:=graphic h;have hok:=hgr.ok;have ho:=aah hok;obtain ⟨_,ds,hds,hsh,hbs⟩:=aae h;have hglen:(nats (succs f.blocks)).length=f.blocks.length:=aa7 _;have hreach : ∀ u,u<f.blocks.length->u∈order (nats (succs f.blocks)):=by
  intro u hu;refine Classical.byContradiction fun hno => ?_
  have h1:=hgr.len;have h2:=ho.nd;have h3:(u::order (nats (succs f.blocks))).Nodup:=List.nodup_cons.2 ⟨hno,h2⟩;have h4:(u::order (nats (succs f.blocks))).length<=(List.range f.blocks.length).length:=List.Nodup.length_le_of_subset h3 fun y hy=>by
   rcases aL.1 hy with rfl | hy
   .exact List.mem_range.2 hu
   .exact List.mem_range.2 (hgr.lt y hy)
  rw [List.length_range,aC,h1] at h4;omega
 have hrow : ∀ (u:Nat) (b:Block),f.blocks[u]? = some b->(nats (succs f.blocks)).getD u []=(rowOf b).map Int.toNat:=fun u b hb=>by
  simp only [nats,succs,ag,a6,hb,bj,aR]
 have hedge : ∀ (u:Nat) (b:Block),f.blocks[u]? = some b -> ∀ t∈b.term.to,0<t.to:=by
  intro u b hb t ht;have hr:=right_to hgr.right b (aA hb) t ht;obtain ⟨_,c2⟩:=aad hbs hb;unfold termOk at c2;split at c2
  .rename_i le mo rs heq;simp only [termTail,af] at c2;have:=aD.1 c2.2 t ht;simp only [edgeOk,af,Bool.not_eq_true',decide_eq_false_iff_not] at this;have:=this.1;omega
  .cases c2
 have hz : ∀ u,0∉(nats (succs f.blocks)).getD u []:=by
  intro u hm
  by_cases hu:u<f.blocks.length
  .obtain ⟨b,hb⟩ : ∃ b,f.blocks[u]? = some b:=⟨_,ac hu⟩
   rw [hrow u b hb] at hm;obtain ⟨z,hz,hz0⟩:=bi.1 hm;obtain ⟨t,ht,rfl⟩:=bi.1 hz;have:=hedge u b hb t ht;omega
  .rw [ag,aJ (by omega)] at hm;simp at hm
 have h0:0∉l.2:=amw hok hz hl;obtain ⟨a1,a2,a3,a4,a5⟩:=heads hok _ (a9 _) l hl;have hpred : ∀ m∈l.2,m≠l.1 -> ∀ u,m∈(nats (succs f.blocks)).getD u []->u∈l.2:=fun m hm hne u hu=>by
  refine a5 m hm hne u ((aar hok m u (a3 m hm)).2 ⟨?_,hu⟩)
  by_cases hul:u<(nats (succs f.blocks)).length
  .exact hul
  .rw [ag,aJ (by omega)] at hu; simp at hu
 obtain ⟨k,bp,rfl,hbp,hkind,hkn,hkh,huniq⟩:=acj hq;have hin : ∀ u:Nat,(u:Int)∈l.2.map Int.ofNat↔u∈l.2:=fun u=>by
  rw [bi];constructor
  .rintro ⟨w,hw,e⟩;have:w=u:=by have e2:(w:Int)=(u:Int):=e; omega
   exact this▸hw
  .exact fun hu=>⟨u,hu,rfl⟩
 rw [hin] at hkn;have hrowM : ∀ (u:Nat) (b:Block),f.blocks[u]? = some b->(l.1∈(nats (succs f.blocks)).getD u []↔((l.1:Nat):Int)∈rowOf b):=fun u b hb=>by
  rw [hrow u b hb,bi];constructor
  .rintro ⟨z,hz,e⟩;obtain ⟨t,ht,rfl⟩:=bi.1 hz;have:=hedge u b hb t ht;have e2:t.to=((l.1:Nat):Int):=by omega
   rw [<-e2]; exact hz
  .exact fun hz=>⟨_,hz,by simp⟩
 have hport : ∀ u,u∉l.2->l.1∈(nats (succs f.blocks)).getD u []->u=k:=fun u hu hm=>by
  by_cases hul:u<f.blocks.length
  .obtain ⟨b,hb⟩ : ∃ b,f.blocks[u]? = some b:=⟨_,ac hul⟩
   exact huniq u b hb (by rw [hin]; exact hu) ((hrowM u b hb).1 hm)
  .rw [ag,aJ (by omega)] at hm; simp at hm
 have hkl:=(ae.1 hbp).1;have hnl:n<f.blocks.length:=by rw [<-hglen]; exact a3 n hn
 have hdom:Dom (nats (succs f.blocks)) (order (nats (succs f.blocks))) k n:=apg hpred hport h0 n hn;have hne:k≠n:=fun e=>hkn (e▸hn)
 have hlt:=hdom.rk ho (hreach k hkl) (hreach n hnl) hne;have hN:=aa8 hok;have dI : ∀ {u v:Nat},u<f.blocks.length->v<f.blocks.length->(cy (Go.Vw.G.cD (succs f.blocks)) u v=true↔Dom (nats (succs f.blocks)) (order (nats (succs f.blocks))) u v):=fun {u v} hu hv=>by
  rw [hgr.near,zg hok hN (by omega) (by omega)];constructor
  .rintro (h | h)
   .exact h.2.2
   .subst h; exact Dom.self _
  .exact fun h => .inl ⟨hreach u hu,hreach v hv,h⟩
 obtain ⟨bn,hbn⟩ : ∃ b,f.blocks[n]? = some b:=⟨_,ac hnl⟩
 have hbnd:f.blocks.getD n default=bn:=by rw [ag,hbn]; rfl
 rw [hbnd] at hx;have hmv:Mv f.blocks k n i bp bn x:=⟨hbp,hbn,hx,hne⟩
 simp only [canMove,af,aD,Bool.not_eq_true',decide_eq_false_iff_not] at hcan;rw [bq];refine ⟨bp,bn,x,hmv,hcan.1,alq h hmv hcan.1 ?_ ((dI hkl hnl).2 hdom) (fun u hu hd=>(dI hkl hu).2 (hdom.trans ((dI hnl hu).1 hd))) ?_,hlt⟩
 .cases hc:cy (Go.Vw.G.cD (succs f.blocks)) n k with
  | false=>rfl
  | true=>exact absurd (hdom.anti ho ((dI hnl hkl).1 hc) (hreach k hkl) (hreach n hnl)) hne
 .intro ds2 hds2 a ha;rw [hds] at hds2
  cases hds2
  have hho:homeOf f a=(ds.getD a.toNat default).block:=by simp only [homeOf,hds,aR]
  have hnot:=hcan.2 a ha;rw [hho] at hnot;obtain ⟨c1,_⟩:=aad hbs hbn;have hins:=aaj c1 hx;rw [a8,a8] at hins;simp only [insOk,af] at hins;obtain ⟨t,ht⟩:=abd hins.2 a ha;simp only [askOk,af,aj] at ht;obtain ⟨⟨⟨⟨q1,q2⟩,q3⟩,q4⟩,q5⟩:=ht;obtain ⟨_,hmade,hout⟩:=qR hds;obtain ⟨b2,hb2,hv2⟩:=bh.1 (hmade a q1 q4);obtain ⟨j,hj⟩:=aB.1 hb2;have hjl:=(ae.1 hj).1;have hB:(ds.getD a.toNat default).block=(j:Int):=by
   rcases aG.1 hv2 with hp | ho2
   .have:=jN hds j b2 hj a hp;rw [a8] at this;exact congrArg Def.block this
   .obtain ⟨y,hy,hvy⟩:=bh.1 ho2;obtain ⟨k2,hk2⟩:=aB.1 hy;have:=hout j b2 hj k2 y hk2 a hvy;exact congrArg Def.block this
  rw [hB] at hnot q5 ⊢;rw [hin] at hnot;have hjn:j≠n:=fun e=>hnot (e▸hn)
  refine ⟨fun e=>hjn (by omega), ?_⟩;rw [if_neg (fun e=>hjn (by omega))] at q5
  by_cases hjk:j=k
  .exact .inl (by omega)
  .refine .inr ((dI hjl hkl).2 ?_);exact avi hpred a2 ((hrowM k bp hbp).2 hkh) h0 hnot hn ((ho.mem n).1 (hreach n hnl)) ((dI hjl hnl).1 q5)
end Ss
namespace Ss
def porchF (f:Fn) (head:Int) (nodes:List Int):Option Int:=if f.small then porch f.blocks head nodes else none
theorem ags (head:Int) (i:Nat) (a:Int) (l:List Int) (st:Int × Nat):scanRow head i (a::l) st=scanRow head i l (if a=head then ((i:Int),st.2+1) else st):=by simp [scanRow]
end Ss
namespace Go.Vw
open Go.Proofs Go.RowKit
attribute [-simp] List.map_set
def porchV:Option Int->V
 | none => .tuple [cj 0, .bool false]
 | some p => .tuple [cj p, .bool true]
theorem aoy (l:List Nat):vl cu l=vl cj (l.map Int.ofNat):=by simp [vl,List.map_map]
theorem ajb (f:Ss.Fn) (hf:f.Fits) (head:Int) (nodes:List Int) (hn:nodes.length<2^63):b8 28 [jM f,cj head,vl cj nodes] (porchV (Ss.porchF f head nodes)):=by
 intro S;have cs:=aom f hf;have cc:=fun x=>akk nodes x hn
 have hsb := @qn f;have hfb:=hf.2.2.2;obtain ⟨rows,hrows⟩ : ∃ rows,rows=if f.small then Ss.succs f.blocks else []:=⟨_,rfl⟩
 have hrl:rows.length<=4096 /\ ∀ r∈rows,r.length<=4096:=by
  rw [hrows];split
  .rename_i h;obtain ⟨_,h1,h2,_⟩:=hsb h;refine ⟨by simpa [Ss.succs] using h1,fun r hr => ?_⟩;obtain ⟨b,hb,rfl⟩:=bi.1 hr;simpa [Ss.rowOf] using (h2 b hb).2.1
  .simp
 obtain ⟨R,hR⟩ : ∃ R,Ss.scanG head nodes 0 rows (0,0)=R:=⟨_,rfl⟩
 have hsp:=(Ss.abj head nodes rows 0 (0,0)).2.2;rw [hR] at hsp;have hres:Ss.porchF f head nodes=if R.2≠1\/(f.blocks.getD R.1.toNat default).term.kind≠1 then none else some R.1:=by
  unfold Ss.porchF Ss.porch
  cases hs:f.small with
  | true=>rw [hs] at hrows; rw [if_pos rfl] at hrows; rw [<-hrows,hR]; rfl
  | false=>rw [hs] at hrows; simp only [aF,if_false] at hrows; rw [hrows] at hR; rw [<-hR]; simp [Ss.scanG]
 have hin:R.2=1 -> ∃ j:Nat,R.1=(j:Int)/\j<f.blocks.length:=fun h=>by
  obtain ⟨j,l,h1,_,_,h4,_⟩:=hsp (by simpa using h);refine ⟨j,by simpa using h4, ?_⟩;have:=(ae.1 h1).1;rw [hrows] at this;split at this
  .simpa [Ss.succs] using this
  .simp at this
 rw [<-hrows] at cs;rw [hres];clear hres hrows hsp hsb hf;obtain ⟨⟨fi,fo⟩,ts,bs⟩:=f;have cs':b8 26 [.agg [vl cj fi,vl cj fo,vl cj ts,vl je bs]] (vl (vl cj) rows):=cs;simp only at *
 refine b7 Tryz.func28 Tryz.ntmps28 fun hwf=>?_
 refine QY ?_;refine QH 3 0 ?_;refine QO [1,2,3] ?_;refine QK [] ?_
 refine bz ?_
 refine QP ?_;refine QL (cs') ?_;refine bV ?_
 refine bX [1,2,3,8,9,15,16,17] (fun c σ S' => ∃ (k:Nat) (at':Int) (many:Nat),k<=rows.length/\c=rows.length-k/\many<=4096*k/\Ss.scanG head nodes k (rows.drop k) (at',many)=R/\σ=[(1,cj head),(2,vl cj nodes),(3,(V.agg [vl cj fi,vl cj fo,vl cj ts,vl je bs]).ref),(8,cj at'),(9,cu many),(15,vl (vl cj) rows),(16,cu rows.length),(17,cu k)]/\S'=St S [] []) rows.length ?_ ?_
 .exact ⟨0,0,0,by omega,rfl,by omega,hR,by simp [Fr.oy],rfl⟩
 .rintro c σ T ⟨k,at',many,hk,rfl,hm,hsc,rfl,rfl⟩
  by_cases hkt:k<rows.length
  .have hw:=jg hkt (by omega);rw [am hkt,Ss.scanG] at hsc;have hr4:=hrl.2 _ (ah hkt)
   by_cases hin2:(k:Int)∈nodes
   .rw [if_pos hin2] at hsc
    refine bD hkt ?_
    refine QP ?_;refine QL (cc (k:Int)) ?_;refine bJ hin2 ?_;refine QN ?_
    refine bF hin2 hw ?_
    show jx _ _ _ _ _ _ _;exact again ⟨ao hkt (aW k),k+1,at',many,hkt,rfl,by omega,hsc,by simp [Fr.oy,Fr.lk],rfl⟩
   .rw [if_neg hin2] at hsc;obtain ⟨row,hrow⟩ : ∃ r,rows[k]=r:=⟨_,rfl⟩
    rw [hrow] at hsc hr4
    refine bF hkt hrow ?_
    refine QP ?_;refine QL (cc (k:Int)) ?_;refine bJ hin2 ?_;refine QN ?_
    refine bD hin2 ?_
    refine bX [1,2,3,8,9,10,15,16,17,25,26,27] (fun c σ S' => ∃ (j:Nat) (at':Int) (many:Nat),j<=row.length/\c=row.length-j/\many<=4096*k+j/\Ss.scanG head nodes (k+1) (rows.drop (k+1)) (Ss.scanRow head k (row.drop j) (at',many))=R/\σ=[(1,cj head),(2,vl cj nodes),(3,(V.agg [vl cj fi,vl cj fo,vl cj ts,vl je bs]).ref),(8,cj at'),(9,cu many),(10,cu k),(15,vl (vl cj) rows),(16,cu rows.length),(17,cu k),(25,vl cj row),(26,cu row.length),(27,cu j)]/\S'=St S [] []) row.length ?_ ?_
    .exact ⟨0,at',many,by omega,rfl,by omega,hsc,by simp [Fr.oy,Fr.lk],rfl⟩
    .rintro c σ T ⟨j,at',many,hj,rfl,hm,hsc,rfl,rfl⟩
     by_cases hjt:j<row.length
     .have hwj:=jg hjt (by omega);rw [am hjt,Ss.ags] at hsc;have hwm:=jg (k:=many) (n:=many+1) (by omega) (by omega)
      by_cases he:row[j]=head
      .rw [if_pos he] at hsc
       refine bH hjt he hwm hwj ?_
       show jx _ _ _ _ _ _ _;exact again ⟨ao hjt (aW j),j+1,(k:Int),many+1,hjt,rfl,by omega,hsc,by simp [Fr.oy,Fr.lk],rfl⟩
      .rw [if_neg he] at hsc
       refine bG hjt he hwj ?_
       show jx _ _ _ _ _ _ _;exact again ⟨ao hjt (aW j),j+1,at',many,hjt,rfl,by omega,hsc,by simp [Fr.oy,Fr.lk],rfl⟩
     .have e:row.drop j=[]:=by rw [aH]; omega
      rw [e] at hsc;have hsc':Ss.scanG head nodes (k+1) (rows.drop (k+1)) (at',many)=R:=hsc
      refine bF hjt hw ?_
      show jx _ _ _ _ _ _ _;exact again ⟨ao hkt (aW k),k+1,at',many,hkt,rfl,by omega,hsc',by simp [Fr.oy,Fr.lk],rfl⟩
  .have e:rows.drop k=[]:=by rw [aH]; omega
   rw [e] at hsc;have hsc':(at',many)=R:=hsc;subst hsc';simp only at hin ⊢
   by_cases h1:many=1
   .obtain ⟨q,rfl,hq⟩:=hin h1;obtain ⟨⟨ps,code,⟨tk,ta,to,az⟩⟩,hx⟩ : ∃ b,bs[q]=b:=⟨_,rfl⟩
    have hgd:bs.getD ((q:Int)).toNat default=⟨ps,code,⟨tk,ta,to,az⟩⟩:=by rw [ag,bq,ac hq,hx]; rfl
    rw [hgd];subst h1
    by_cases ht:tk=1
    .subst ht;rw [if_neg (by simp)]
     refine bG hkt hq hx ?_
     exact bS
    .rw [if_pos (.inr ht)]
     refine bH hkt hq hx ht ?_
     exact bS
   .rw [if_pos (.inl h1)];have h2 : ¬ (many:Int)=1:=by omega
    refine bG hkt h1 h2 ?_
    exact bS
end Go.Vw
namespace Ss
/-! ### Where each value is made: the table -/
def hmPut (i:Int) (out:List Int) (l:List Int):List Int:=l.foldl (fun o v=>o.set v.toNat i) out
def hmCode (i:Int) (out:List Int) (code:List Ins):List Int:=code.foldl (fun o x=>hmPut i o x.outs) out
def hmBlk (i:Int) (out:List Int) (b:Block):List Int:=hmCode i (hmPut i out b.params) b.code
def hmAll:Nat->List Block->List Int->List Int
 | _,[],o=>o
 | i,b::r,o=>hmAll (i+1) r (hmBlk (i:Int) o b)
def homesI (f:Fn):List Int:=hmAll 0 f.blocks (List.replicate f.types.length 0)
theorem KB (i:Int) : ∀ (l out:List Int),(hmPut i out l).length=out.length
 | [],out=>rfl
 | v::l,out=>by
  have:=KB i l (out.set v.toNat i);rw [List.length_set] at this;exact this
theorem jca (i:Int) : ∀ (l:List Ins) (out:List Int),(hmCode i out l).length=out.length
 | [],out=>rfl
 | x::l,out=>(jca i l (hmPut i out x.outs)).trans (KB i x.outs out)
theorem aed (i:Int) (out:List Int) (b:Block):(hmBlk i out b).length=out.length:=(jca i _ _).trans (KB i _ _)
theorem ac7 : ∀ (bs:List Block) (i:Nat) (out:List Int),(hmAll i bs out).length=out.length
 | [],_,_=>rfl
 | b::r,i,out=>(ac7 r (i+1) _).trans (aed _ _ _)
theorem ach (f:Fn):(homesI f).length=f.types.length:=by rw [homesI,ac7,List.length_replicate]
theorem jcZ (i:Int) {N:Nat} {v:Int} (hv:InR N v) : ∀ (l out:List Int),out.length=N->(∀ w∈l,InR N w)->(hmPut i out l).getD v.toNat 0=if v∈l then i else out.getD v.toNat 0
 | [],out,_,_=>by simp [hmPut]
 | w::l,out,ho,hl=>by
  have ih:=jcZ i hv l (out.set w.toNat i) (by simpa using ho) (fun u hu=>hl u (by simp [hu]));have e:hmPut i out (w::l)=hmPut i (out.set w.toNat i) l:=rfl;rw [e,ih];have hw:=hl w (by simp)
  by_cases h1:v∈l
  .rw [if_pos h1,if_pos (by simp [h1])]
  .rw [if_neg h1]
   by_cases h2:v=w
   .subst h2;rw [if_pos (by simp),ag,aX (by have:=hv.1; have:=hv.2; omega)]; rfl
   .rw [if_neg (by simp [h1,h2]),ag,aQ (by have:=hv.1; have:=hw.1; omega),ag]
theorem adc (i:Int) {N:Nat} {v:Int} (hv:InR N v) : ∀ (l:List Ins) (out:List Int),out.length=N->(∀ x∈l, ∀ w∈x.outs,InR N w)->(hmCode i out l).getD v.toNat 0=if v∈zK l then i else out.getD v.toNat 0
 | [],out,_,_=>by simp [hmCode,zK]
 | x::l,out,ho,hl=>by
  have ih:=adc i hv l (hmPut i out x.outs) (by rw [KB]; exact ho) (fun u hu=>hl u (by simp [hu]));have e:hmCode i out (x::l)=hmCode i (hmPut i out x.outs) l:=rfl;rw [e,ih,jcZ i hv _ _ ho (hl x (by simp))];have e2:zK (x::l)=x.outs++zK l:=by simp [zK]
  rw [e2]
  by_cases h1:v∈zK l
  .rw [if_pos h1,if_pos (by simp [h1])]
  .rw [if_neg h1]
   by_cases h2:v∈x.outs
   .rw [if_pos h2,if_pos (by simp [h2])]
   .rw [if_neg h2,if_neg (by simp [h1,h2])]
theorem ars (i:Int) {N:Nat} {v:Int} (hv:InR N v) (b:Block) (out:List Int) (ho:out.length=N) (hp : ∀ w∈b.params,InR N w) (hl : ∀ x∈b.code, ∀ w∈x.outs,InR N w):(hmBlk i out b).getD v.toNat 0=if v∈allB b then i else out.getD v.toNat 0:=by
 rw [hmBlk,adc i hv _ _ (by rw [KB]; exact ho) hl,jcZ i hv _ _ ho hp,allB]
 by_cases h1:v∈zK b.code
 .rw [if_pos h1,if_pos (by simp [h1])]
 .rw [if_neg h1]
  by_cases h2:v∈b.params
  .rw [if_pos h2,if_pos (by simp [h2])]
  .rw [if_neg h2,if_neg (by simp [h1,h2])]
theorem afm {N:Nat} {v:Int} (hv:InR N v) : ∀ (bs:List Block) (i:Nat) (out:List Int),out.length=N->(∀ b∈bs, ∀ w∈b.params,InR N w)->(∀ b∈bs, ∀ x∈b.code, ∀ w∈x.outs,InR N w)->(allL bs).Nodup ->
  (v∉allL bs->(hmAll i bs out).getD v.toNat 0=out.getD v.toNat 0) /\ ∀ (j:Nat) (b:Block),bs[j]? = some b->v∈allB b->(hmAll i bs out).getD v.toNat 0=((i+j:Nat):Int)
 | [],i,out,_,_,_,_=>⟨fun _=>rfl,by simp⟩
 | b::r,i,out,ho,hp,hl,hnd=>by
  have eL:allL (b::r)=allB b++allL r:=by simp [allL]
  rw [eL] at hnd;obtain ⟨_,n2,n3⟩:=List.nodup_append.1 hnd;obtain ⟨k1,k2⟩:=afm hv r (i+1) (hmBlk (i:Int) out b) (by rw [aed]; exact ho) (fun c hc=>hp c (by simp [hc])) (fun c hc=>hl c (by simp [hc])) n2;have hb:=ars (i:Int) hv b out ho (hp b (by simp)) (hl b (by simp));rw [eL,hmAll];refine ⟨fun hn => ?_,fun j c hj hc => ?_⟩
  .simp only [aG,not_or] at hn;rw [k1 hn.2,hb,if_neg hn.1]
  .cases j with
   | zero =>
    simp only [aK,ay] at hj;subst hj;rw [k1 (fun h=>n3 v hc v h rfl),hb,if_pos hc]; rfl
   | succ j =>
    rw [k2 j c (by simpa using hj) hc]
    congr 1; omega
theorem anv {f:Fn} (hd:DOk f) : ∀ v∈allL f.blocks,InR f.types.length v:=fun v hv=>by
 obtain ⟨b,hb,hv⟩:=bh.1 hv;rcases aG.1 hv with h | h
 .exact hd.pars b hb v h
 .obtain ⟨x,hx,h⟩:=bh.1 h;exact hd.outs b hb x hx v h
theorem akn {e:Env} {f:Fn} (h:check e f=true) : ∀ v∈allL f.blocks,(homesI f).getD v.toNat 0=homeOf f v:=by
 intro v hv;have hd:=aa3 h;obtain ⟨_,ds,hds,_,_⟩:=aae h;obtain ⟨hnd,_,hout⟩:=qR hds;obtain ⟨b,hb,hvb⟩:=bh.1 hv;obtain ⟨j,hj⟩:=aB.1 hb;have:=(afm (anv hd v hv) f.blocks 0 (List.replicate f.types.length 0) (by simp) hd.pars hd.outs hnd).2 j b hj hvb;rw [homesI,this,a8];simp only [homeOf,hds,aR];rcases aG.1 hvb with hp | ho
 .have:=jN hds j b hj v hp;rw [a8] at this;exact (congrArg Def.block this).symm
 .obtain ⟨y,hy,hvy⟩:=bh.1 ho;obtain ⟨k,hk⟩:=aB.1 hy;exact (congrArg Def.block (hout j b hj k y hk v hvy)).symm
theorem ash {e:Env} {f:Fn} (h:check e f=true) : ∀ b∈f.blocks, ∀ x∈b.code, ∀ a∈x.args,a∈allL f.blocks:=by
 intro b hb x hx a ha;obtain ⟨_,ds,hds,_,hbs⟩:=aae h;obtain ⟨_,hmade,_⟩:=qR hds;obtain ⟨j,hj⟩:=aB.1 hb;obtain ⟨k,hk⟩:=aB.1 hx;obtain ⟨c1,_⟩:=aad hbs hj;have hins:=aaj c1 hk;simp only [insOk,af] at hins;obtain ⟨t,ht⟩:=abd hins.2 a ha;simp only [askOk,af,aj] at ht;obtain ⟨⟨⟨⟨q1,q2⟩,q3⟩,q4⟩,q5⟩:=ht;exact hmade a q1 q4
end Ss
namespace Ss
open Go.Vw.G
def moved (f:Fn) (p n i:Nat):Fn:=⟨f.sig,f.types,moveAt f.blocks p n i⟩
noncomputable def licTo:Nat->Fn->Fn
 | 0,f=>f
 | k+1,f=>match first f.blocks (homeOf f) (lps f.blocks) with
  | none=>f
  | some m=>licTo k (moved f m.1 m.2.1 m.2.2)
noncomputable def wt (f:Fn):Nat:=weigh (rk (nats (succs f.blocks)) (order (nats (succs f.blocks)))) 0 f.blocks
noncomputable def licF (f:Fn):Fn:=licTo (wt f+1) f
noncomputable def licOut (e:Env) (f:Fn):Fn × Int:=if check e f then (licF f,0) else (emptyFn,6)
theorem acf {e:Env} {f:Fn} (h:check e f=true):licOut e f=(licF f,0):=by simp [licOut,h]
theorem asa {e:Env} {f:Fn} (h:check e f=false):licOut e f=(emptyFn,6):=by simp [licOut,h]
theorem aap (k:Nat) {f:Fn} (h:first f.blocks (homeOf f) (lps f.blocks)=none):licTo k f=f:=by
 cases k with
 | zero=>rfl
 | succ k=>rw [licTo,h]
theorem WT (k:Nat) {f:Fn} {p n i:Nat} (h:first f.blocks (homeOf f) (lps f.blocks)=some (p,n,i)):licTo (k+1) f=licTo k (moved f p n i):=by rw [licTo,h]
theorem jcu {e:Env} {f:Fn} (h:check e f=true) {p n i:Nat} (hf:first f.blocks (homeOf f) (lps f.blocks)=some (p,n,i)) :
  check e (moved f p n i)=true/\succs (moved f p n i).blocks=succs f.blocks/\wt (moved f p n i)<wt f:=by
 obtain ⟨bp,bn,x,hm,hx,hc,hr⟩:=abx h hf;have hs:succs (moved f p n i).blocks=succs f.blocks:=hm.succs;refine ⟨hc,hs, ?_⟩;unfold wt;rw [hs];exact hm.weigh hr
theorem jcX {P:Fn->Prop} {e:Env} (hs : ∀ f p n i,check e f=true->P f->first f.blocks (homeOf f) (lps f.blocks)=some (p,n,i)->P (moved f p n i)) : ∀ k f,check e f=true->P f->check e (licTo k f)=true/\P (licTo k f)
 | 0,f,h,hp=>⟨h,hp⟩
 | k+1,f,h,hp=>by
  cases hf:first f.blocks (homeOf f) (lps f.blocks) with
  | none=>rw [aap _ hf]; exact ⟨h,hp⟩
  | some m =>
   obtain ⟨p,n,i⟩:=m;rw [WT _ hf];exact jcX hs k _ (jcu h hf).1 (hs f p n i h hp hf)
theorem ac2 {e:Env} : ∀ k f,check e f=true->wt f<k->first (licTo k f).blocks (homeOf (licTo k f)) (lps (licTo k f).blocks)=none
 | 0,f,h,hk=>by omega
 | k+1,f,h,hk=>by
  cases hf:first f.blocks (homeOf f) (lps f.blocks) with
  | none=>rw [aap _ hf]; exact hf
  | some m =>
   obtain ⟨p,n,i⟩:=m;rw [WT _ hf];obtain ⟨h1,h2,h3⟩:=jcu h hf;exact ac2 k _ h1 (by omega)
theorem akh {e:Env} {f:Fn} (h:check e f=true):check e (licF f)=true:=(jcX (P:=fun _=>True) (fun _ _ _ _ _ _ _=>trivial) _ f h trivial).1
theorem apl {e:Env} {f:Fn} (h:check e f=true):first (licF f).blocks (homeOf (licF f)) (lps (licF f).blocks)=none:=ac2 _ f h (aW _)
theorem auj {e:Env} {f:Fn} (h:check e f=true):(licF f).sig=f.sig/\(licF f).types=f.types:=(jcX (P:=fun g=>g.sig=f.sig/\g.types=f.types) (fun g p n i _ hp _=>hp) _ f h ⟨rfl,rfl⟩).2
theorem amo {f:Fn} {p n i:Nat} {bp bn:Block} {x:Ins} (hm:Mv f.blocks p n i bp bn x) (hf:f.Fits) (hl:bp.code.length<140737488355328):(moved f p n i).Fits:=by
 obtain ⟨h1,h2,h3,h4⟩:=hf;refine ⟨h1,h2,by rw [moved]; simp only [hm.len]; exact h3,fun c hc => ?_⟩;obtain ⟨j,hj⟩:=aB.1 hc;have hj':(moveAt f.blocks p n i)[j]? = some c:=hj;rw [hm.at j] at hj';split at hj'
 .cases hj'
  obtain ⟨k1,⟨k2,k3⟩,k4⟩:=h4 bp (aA hm.hp);obtain ⟨_,⟨_,m3⟩,_⟩:=h4 bn (aA hm.hn);refine ⟨k1,⟨by simp [cC]; omega,fun y hy => ?_⟩,k4⟩;rcases aG.1 hy with hy | hy
  .exact k3 y hy
  .rw [aU] at hy; subst hy; exact m3 _ (aA hm.hi)
 .split at hj'
  .cases hj'
   obtain ⟨k1,⟨k2,k3⟩,k4⟩:=h4 bn (aA hm.hn);refine ⟨k1,⟨bd (List.length_eraseIdx_le _ _) k2,fun y hy=>k3 y (List.mem_of_mem_eraseIdx hy)⟩,k4⟩
  .exact h4 c (aA hj')
theorem alb {e:Env} {f:Fn} (h:check e f=true) : ∀ b∈f.blocks,b.code.length<=4096:=fun b hb=>by
 have h1:=((aao f).1 (aa0 h)).2.2;have h2:=Go.Vw.abb hb;omega
theorem ab6 {e:Env} {f:Fn} (h:check e f=true) (hf:f.Fits) {p n i:Nat} (hs:first f.blocks (homeOf f) (lps f.blocks)=some (p,n,i)):(moved f p n i).Fits:=by
 obtain ⟨bp,bn,x,hm,_⟩:=abx h hs;have:=alb h bp (aA hm.hp);exact amo hm hf (by omega)
theorem aef {e:Env} {f:Fn} (h:check e f=true) (hf:f.Fits):(licF f).Fits:=(jcX (P:=Fn.Fits) (fun g p n i hg hp hs=>ab6 hg hp hs) _ f h hf).2
theorem an1 {e:Env} {f:Fn} (h:check e f=true) {p n i:Nat} {bp bn:Block} {x:Ins} (hm:Mv f.blocks p n i bp bn x) (hc:check e (moved f p n i)=true) : ∀ v∈allL f.blocks,homeOf (moved f p n i) v=if v∈x.outs then (p:Int) else homeOf f v:=by
 obtain ⟨_,ds,hds,_,_⟩:=aae h;obtain ⟨_,ds',hds',_,_⟩:=aae hc;obtain ⟨hnd,hmade,hout⟩:=qR hds;obtain ⟨_,hmade',hout'⟩:=qR hds';have e1 : ∀ v:Int,homeOf f v=(dAt ds v).block:=fun v=>by simp only [homeOf,hds,aR]
 have e2 : ∀ v:Int,homeOf (moved f p n i) v=(dAt ds' v).block:=fun v=>by simp only [homeOf,hds',aR]
 have hat:=hm.at;have hxn : ∀ v∈x.outs,dAt ds v=⟨true,n,i⟩:=fun v hv=>hout n bn hm.hn i x hm.hi v hv
 intro v hv;rw [e1,e2];obtain ⟨b2,hb2,hv2⟩:=bh.1 hv;obtain ⟨j,hj⟩:=aB.1 hb2;have blk : ∃ c,(moved f p n i).blocks[j]? = some c/\c.params=b2.params:=by
  have:=hat j
  by_cases e1:j=p
  .subst e1; rw [if_pos rfl] at this; rw [hm.hp] at hj; cases hj; exact ⟨_,this,rfl⟩
  .rw [if_neg e1] at this
   by_cases e2:j=n
   .subst e2; rw [if_pos rfl] at this; rw [hm.hn] at hj; cases hj; exact ⟨_,this,rfl⟩
   .rw [if_neg e2,hj] at this; exact ⟨_,this,rfl⟩
 rcases aG.1 hv2 with hp | ho
 .have a1:=jN hds j b2 hj v hp;obtain ⟨c,hc,hcp⟩:=blk;have a2:=jN hds' j c hc v (by rw [hcp]; exact hp);have hno:v∉x.outs:=fun hxv=>by
   have:=hxn v hxv;rw [this] at a1;have:=congrArg Def.pos a1;simp only at this;omega
  rw [if_neg hno,a1,a2]
 .obtain ⟨y,hy,hvy⟩:=bh.1 ho;obtain ⟨k,hk⟩:=aB.1 hy;have a1:=hout j b2 hj k y hk v hvy;have new : ∀ (j' k':Nat) (c:Block),(moved f p n i).blocks[j']? = some c->c.code[k']? = some y->(dAt ds' v).block=(j':Int):=fun j' k' c hc hk'=>congrArg Def.block (hout' j' c hc k' y hk' v hvy)
  have hkl:=(ae.1 hk).1;have atp:=hat p;rw [if_pos rfl] at atp;have atn:=hat n;rw [if_neg (Ne.symm hm.ne),if_pos rfl] at atn
  by_cases hxv:v∈x.outs
  .rw [if_pos hxv];have h3:=hxn v hxv;have h4:(⟨true,(j:Int),(k:Int)⟩:Def)=⟨true,n,i⟩:=a1.symm.trans h3;have h5:j=n:=by have:=congrArg Def.block h4; simp only at this; omega
   have h6:k=i:=by have:=congrArg Def.pos h4; simp only at this; omega
   subst h5; subst h6;rw [hm.hn] at hj
   cases hj
   rw [hm.hi] at hk
   cases hk
   exact new p bp.code.length _ atp (by simp [cC])
  .rw [if_neg hxv,a1];simp only
   by_cases e1:j=p
   .subst e1;rw [hm.hp] at hj
    cases hj
    exact new j k _ atp (by simp only [cC]; rw [aT hkl]; exact hk)
   .by_cases e2:j=n
    .subst e2;rw [hm.hn] at hj
     cases hj
     by_cases e3:k<i
     .exact new j k _ atn (by simp only [cutAt]; rw [JZ,if_pos e3]; exact hk)
     .have e4:k≠i:=fun e4=>by
       subst e4;rw [hm.hi] at hk
       cases hk
       exact hxv hvy
      exact new j (k-1) _ atn (by simp only [cutAt]; rw [JZ,if_neg (by omega),Nat.sub_add_cancel (by omega)]; exact hk)
    .have:=hat j;rw [if_neg e1,if_neg e2,hj] at this;exact new j k b2 this hk
end Ss
namespace Go.Vw
open Go.Proofs Go.RowKit
attribute [-simp] List.map_set
theorem ak0 {s:Nat} {S:Store} {k:IntKind} {o off len n:Nat} {c} (h:S.get o=some c) (hn:n<len):jF s S (.slice o off len) (.int k (n:Int))=some (.ptr o (off+n*s)):=by
 simp [jF,h,hn]
def Store.push (S:Store) (o:Nat) (cs:List V) (x:V):Store:=((S.add (1,[x])).del o).add (1,cs++[x])
def Store.push0 (S:Store) (x:V):Store:=(S.add (1,[x])).add (1,[x])
section
variable {S:Store} {o:Nat} {cs:List V} {x:V}
theorem ase:(S.push o cs x).get (S.nx+1)=some (1,cs++[x]):=by simp [Store.push,Store.add,Store.del]
theorem amu:(S.push0 x).get (S.nx+1)=some (1,[x]):=by simp [Store.push0,Store.add]
theorem ago {o':Nat} (h:o'<S.nx) (hn:o'≠o):(S.push o cs x).get o'=S.get o':=by
 have e1 : ¬ o'=S.nx+1:=by omega
 have e2 : ¬ o'=S.nx:=by omega
 simp [Store.push,Store.add,Store.del,e1,e2,hn]
theorem aeb {o':Nat} (h:o'<S.nx):(S.push0 x).get o'=S.get o':=by
 have e1 : ¬ o'=S.nx+1:=by omega
 have e2 : ¬ o'=S.nx:=by omega
 simp [Store.push0,Store.add,e1,e2]
theorem Agree.push {S0:Store} (h:Agree S0 S) (ho:S0.nx<=o):Agree S0 (S.push o cs x):=((h.add _).del ho).add _
theorem Agree.push0 {S0:Store} (h:Agree S0 S):Agree S0 (S.push0 x):=(h.add _).add _
theorem jcU {b len:Nat} (h:S.get o=some (1,cs)) (ho:o<S.nx) (hl:cs.length=len) (hb:(len+1)*b<=140737488355328) (hb1:len+1<=140737488355328) :
  jU 1 b (S.add (1,[x])) (.slice o 0 len) (.slice S.nx 0 1)=some (.slice (S.nx+1) 0 (len+1),S.push o cs x):=by
 have:o≠S.nx:=by omega
 subst hl;simp [jU,jS,Store.add,Store.push,this,h,hb,hb1,Store.del]
 rfl
theorem jbw {b:Nat} (hb:b<=140737488355328) :
  jU 1 b (S.add (1,[x])) .nils (.slice S.nx 0 1)=some (.slice (S.nx+1) 0 1,S.push0 x):=by
 simp [jU,jS,Store.add,Store.push0,hb]
end
namespace G
def DoneAt (S:Store) (b ow om:Nat) (dv:V) (done:List Nat):Prop :=
 (dv = .nils/\done=[]) \/ ∃ od,dv = .slice od 0 done.length/\S.get od=some (1,done.map cu)/\od≠ow/\od≠om/\b<=od/\od<S.nx
def WAt (S:Store) (g:List (List Nat)) (b ow om:Nat) (s:WS):Prop :=
 s.1.length=g.length/\ow≠om/\b<=ow/\b<=om/\ow<S.nx/\om<S.nx/\S.get om=some (1,s.1.map V.bool) /\
 ∃ dv,S.get ow=some (3,[vl (vl cu) g, .slice om 0 g.length,dv])/\DoneAt S b ow om dv s.2
end G
theorem ac3 (S:Store) (o:Nat) (c:Nat × List V):(S.upd o c).get o=some c:=by simp [Store.upd]
theorem KV (S:Store) {o o':Nat} (c:Nat × List V) (h:o'≠o):(S.upd o c).get o'=S.get o':=by simp [Store.upd,h]
theorem agv (g:List (List Nat)) (hg:G.Ok g) (S0:Store) (ow om:Nat) : ∀ (f n:Nat) (s s':G.WS) (S:Store),n<g.length->G.walk g f n s=some s'->s'.2.length<=2^30->Agree S0 S->G.WAt S g S0.nx ow om s ->
  b9 86 [.ptr ow 0,cu n] S (fun r S'=>r = .tuple []/\Agree S0 S'/\G.WAt S' g S0.nx ow om s')
 | 0,n,s,s',S,hn,hw,hb,hag,hW=>by cases hw
 | f+1,n,s,s',S,hn,hw,hb,hag,hW=>by
  rw [G.aau] at hw;obtain ⟨h1,h2,h3,h4,l1,l2,h5,dv,h6,h7⟩:=hW;refine qD (c:=jc Tryz.f86) Tryz.func86 rfl rfl (by simp [Tryz.ntmps86]) ?_;rw [Tryz.ntmps86];have hn1:n<s.1.length:=by omega
  refine QT ?_;refine jX rfl (by conv=>lhs; reduce) (by conv=>lhs; simp [-jY, -jQ,h6,jJ,jF,h5,hn,hn1]) ?_;refine QN ?_;have hag1:Agree S0 (S.upd om (1,(List.map V.bool s.1).set n (V.bool true))):=hag.upd h4 _;have hW1:G.WAt (S.upd om (1,(List.map V.bool s.1).set n (V.bool true))) g S0.nx ow om (s.1.set n true,s.2):=by
   refine ⟨by simpa using h1,h2,h3,h4,l1,l2,by rw [ac3, <-List.map_set],dv,by rw [KV _ _ h2]; exact h6, ?_⟩;rcases h7 with h7 | ⟨od,k1,k2,k3,k4,k5,k6⟩
   .exact .inl h7
   .exact .inr ⟨od,k1,by rw [KV _ _ k4]; exact k2,k3,k4,k5,k6⟩
  generalize S.upd om (1,(List.map V.bool s.1).set n (V.bool true))=S1 at hag1 hW1 ⊢;have hgn:g.getD n []=g[n]:=by simp [hn]
  rw [hgn] at hw;obtain ⟨sk,hk,rfl⟩:=av.1 hw;refine QT ?_;refine jX rfl (by conv=>lhs; reduce) (by conv=>lhs; simp [-jY, -jQ]) ?_;refine QN ?_;refine QT ?_;refine jL 0 rfl rfl ?_;refine bX [0,1,4] (fun c σ S' => ∃ (k:Nat) (t:G.WS),k<=g[n].length/\c=g[n].length-k/\G.kids g f (g[n].drop k) t=some sk/\Agree S0 S'/\G.WAt S' g S0.nx ow om t/\σ=[(0, .ptr ow 0),(1,cu n),(4,cu k)]) g[n].length ?_ ?_
  .exact ⟨0,_,by omega,rfl,hk,hag1,hW1,by simp [Fr.oy,Fr.lk,cu,cj]⟩
  .rintro c σ S' ⟨k,t,hkl,rfl,hd,hag2,hW2,rfl⟩;obtain ⟨g1,g2,g3,g4,l3,l4,g5,du,g6,g7⟩:=hW2
   by_cases hk6:k<g[n].length
   .have h7:(k:Int)<(g[n].length:Int):=by omega
    have hst:G.kids g f (g[n].drop k) t=if t.1.getD g[n][k] false then G.kids g f (g[n].drop (k+1)) t else (G.walk g f g[n][k] t).bind (G.kids g f (g[n].drop (k+1))):=by
     rw [am hk6,G.aay]
    rw [hst] at hd;have hkn:g[n][k]<g.length:=hg.elt _ (ah hn) _ (ah hk6);have hkt:g[n][k]<t.1.length:=by omega
    have hr:=hg.row _ (ah hn);have hw1:IntKind.i64.wrap ((k:Int)+1)=(k:Int)+1:=wrap_i64 (by omega) (by omega);have hgd:t.1.getD g[n][k] false=t.1[g[n][k]]:=by simp [hkt]
    rw [hgd] at hd;refine QT ?_;refine jX rfl (by conv=>lhs; reduce) (by conv=>lhs; simp [-jY, -jQ,g6,jJ,jW,jE,hn,h7]) ?_;refine QN ?_;refine QT ?_;refine jC rfl rfl rfl ?_;refine QT ?_;refine jz rfl ?_;refine QT ?_;refine jL 1 rfl rfl ?_;have ix:=ak0 (s:=1) (k := .i64) (off:=0) g5 hkn;refine QT ?_;refine Kq rfl (by kernel_rfl) (by conv=>lhs; reduce) (by conv=>lhs; reduce) (by kernel_rfl) (by conv=>lhs; simp [-jY, -jQ,g6,g5,jJ,jW,ix,hn,hk6,hkt]) ?_;refine QN ?_
    cases hm:t.1[g[n][k]]
    .rw [hm] at hd;obtain ⟨u,e1,e2⟩:=aN.1 hd;refine jC rfl rfl (by simp [ev,Fr.lk,hm]) ?_;refine QT ?_;refine jX rfl (by conv=>lhs; reduce) (by conv=>lhs; simp [-jY, -jQ,g6,jJ,jW,hn,hk6]) ?_;refine jK rfl (agv g hg S0 ow om f g[n][k] t u S' hkn e1 ?_ hag2 ⟨g1,g2,g3,g4,l3,l4,g5,du,g6,g7⟩) ?_
     .have:=(G.abh (G.acg g f) _ _ _ e2).1;simp at hb; omega
     .rintro X S2 ⟨rfl,hag3,hW3⟩;refine WD (by conv=>lhs; simp [-jY, -jQ]) ?_;refine QN ?_;refine QT ?_;refine jX rfl (by conv=>lhs; reduce) (by conv=>lhs; simp [-jY, -jQ,hw1]) ?_;refine QN ?_;exact again ⟨ao (by omega) (aW k),k+1,u,by omega,rfl,e2,hag3,hW3,by simp [Fr.oy,Fr.lk,cu,cj]⟩
    .rw [hm] at hd;refine jD rfl rfl (by simp [ev,Fr.lk,hm]) ?_;refine QT ?_;refine jz rfl ?_;refine QT ?_;refine jX rfl (by conv=>lhs; reduce) (by conv=>lhs; simp [-jY, -jQ,hw1]) ?_;refine QN ?_;exact again ⟨ao (by omega) (aW k),k+1,t,by omega,rfl,hd,hag2,⟨g1,g2,g3,g4,l3,l4,g5,du,g6,g7⟩,by simp [Fr.oy,Fr.lk,cu,cj]⟩
   .have h7 : ¬ (k:Int)<(g[n].length:Int):=by omega
    refine QT ?_;refine jX rfl (by conv=>lhs; reduce) (by conv=>lhs; simp [-jY, -jQ,g6,jJ,jW,jE,hn,h7]) ?_;refine QN ?_;refine QT ?_;refine jD rfl rfl rfl ?_;refine QT ?_;refine jP 0 rfl rfl ?_;have hz:g[n].drop k=[]:=by rw [aH]; omega
    rw [hz,G.agu] at hd
    cases hd
    rcases g7 with ⟨rfl,hnil⟩ | ⟨od,rfl,k2,k3,k4,k5,k6⟩
    .have ap:=jbw (S:=S') (x := .int .i64 (n:Int)) (b:=8) (by omega);have gp:(S'.push0 (.int .i64 (n:Int))).get ow=some (3,[vl (vl cu) g,V.slice om 0 g.length,V.nils]):=(aeb l3).trans g6;refine QT ?_;refine jX rfl (by conv=>lhs; reduce) (by conv=>lhs; simp [-jY, -jQ,g6,jJ,ql,rep0,qg,ap,gp]) ?_;refine QN ?_;refine ⟨rfl,hag2.push0.upd g3 _,g1,g2,g3,g4,Nat.lt_add_right 2 l3,Nat.lt_add_right 2 l4, ?_,_,ac3 _ _ _, .inr ⟨S'.nx+1, ?_, ?_, ?_, ?_, ?_, ?_⟩⟩
     .rw [KV _ _ (Ne.symm g2),aeb l4]; exact g5
     .simp [hnil]
     .rw [KV _ _ (by omega),amu]; simp [hnil,cu]
     .omega
     .omega
     .omega
     .show S'.nx+1<S'.nx+2; omega
    .have hb2:sk.2.length+1<=2^30:=by simpa using hb
     have ap:=jcU (S:=S') (x := .int .i64 (n:Int)) (b:=8) k2 k6 (by simp:_=sk.2.length) (by omega) (by omega);have gp:(S'.push od (List.map cu sk.2) (.int .i64 (n:Int))).get ow=some (3,[vl (vl cu) g,V.slice om 0 g.length,V.slice od 0 sk.2.length]):=(ago l3 (Ne.symm k3)).trans g6;refine QT ?_;refine jX rfl (by conv=>lhs; reduce) (by conv=>lhs; simp [-jY, -jQ,g6,jJ,ql,rep0,qg,ap,gp]) ?_;refine QN ?_;refine ⟨rfl,(hag2.push k5).upd g3 _,g1,g2,g3,g4,Nat.lt_add_right 2 l3,Nat.lt_add_right 2 l4, ?_,_,ac3 _ _ _, .inr ⟨S'.nx+1, ?_, ?_, ?_, ?_, ?_, ?_⟩⟩
     .rw [KV _ _ (Ne.symm g2),ago l4 (Ne.symm k4)]; exact g5
     .simp
     .rw [KV _ _ (by omega),ase]; simp [cu]
     .omega
     .omega
     .omega
     .show S'.nx+1<S'.nx+2; omega
end Go.Vw
namespace Go.Vw
open Go.Proofs Go.RowKit
attribute [-simp] List.map_set
theorem jbm (g:List (List Nat)) (hg:G.Ok g) (a:Option Nat) (ha : ∀ n,a=some n->n<g.length):b8 46 [vl (vl cu) g,cj (a.elim (-1) Int.ofNat)] (vl V.bool (G.without g a)):=by
 intro S;refine b7 Tryz.func46 Tryz.ntmps46 fun hwf=>?_
 have hm256:=hg.max;have hp:0<g.length:=hg.pos;have hb1:g.length*1<=140737488355328:=by omega
 have hb0:g.length<=140737488355328:=by omega
 have wat : ∀ m:List Bool,m.length=g.length->G.WAt (St S [] [some (1,m.map V.bool),some (3,[vl (vl cu) g, .slice (lid S.nx 0) 0 g.length, .nils])]) g S.nx (lid S.nx 1) (lid S.nx 0) (m,[]):=by
  intro m hm;refine ⟨hm,by simp [lid],by simp [lid],by simp [lid],by rw [jR]; simp [lid],by rw [jR]; simp [lid],by simp [jB], .nils,by simp [jB], .inl ⟨rfl,rfl⟩⟩
 cases a with
 | none =>
  obtain ⟨t,w1,w2,w3,w4⟩:=G.aa5 hg (m:=List.replicate g.length false) (by simp) (G.aaw _ _);have hX:G.without g none=t.1:=w2;have e1:(-1:Int) = -1:=rfl;simp only [Option.elim];have hrep:List.replicate g.length (V.bool false)=(List.replicate g.length false).map V.bool:=by simp
  refine bF hb1 hb0 ?_
  refine QP ?_;refine jK rfl (agv g hg S (lid S.nx 1) (lid S.nx 0) g.length 0 _ t _ hp w1 (by omega) zE (by rw [hrep]; exact wat _ (by simp))) ?_;rintro X T ⟨rfl,hag,hW⟩;have hom:=hW.2.2.2.2.2.2.1;obtain ⟨dv,how,_⟩:=hW.2.2.2.2.2.2.2;have hol:=hW.2.2.2.2.2.1;refine QW ?_
  refine bD how ?_
  have hfr:=Ghost.freeze1 (len:=g.length) hom (by simp [V.cG]) (by simp [w4]);rw [hX];exact qI hwf (hfr.toB _) (hag.del (by simp [lid])) rfl
 | some a =>
  have hal:=ha a rfl;simp only [Option.elim];have hrep:List.replicate g.length (V.bool false)=(List.replicate g.length false).map V.bool:=by simp
  by_cases h0:a=0
  .subst h0;have hX:G.without g (some 0)=List.replicate g.length false:=by simp [G.without]
   refine bG hb1 hb0 hal ?_
   have hfr:=frz1 (B:=S) (u:=[]) (l:=[some (1,(List.replicate g.length false).map V.bool),some (3,[vl (vl cu) g,V.slice (lid S.nx 0) 0 g.length,V.nils])]) (k:=0) (len:=g.length) (cells:=(List.replicate g.length false).map V.bool) (by simp) rfl (by simp [V.cG]) (by simp);rw [hX];rw [hrep];exact jf hwf (hfr.toB _) rfl
  .have hz:((List.replicate g.length false).set a true).getD 0 false=false:=by rw [G.aab h0]; exact G.aaw _ _
   obtain ⟨t,w1,w2,w3,w4⟩:=G.aa5 hg (m:=(List.replicate g.length false).set a true) (by simp) hz;have hX:G.without g (some a)=t.1.set a false:=by simp [G.without,h0,w2]
   have ha0 : ¬ (a:Int)=0:=by omega
   have hat:a<t.1.length:=by omega
   refine bO hb1 hb0 hal ha0 h0 ?_
   refine QP ?_;refine jK rfl (agv g hg S (lid S.nx 1) (lid S.nx 0) g.length 0 _ t _ hp w1 (by omega) zE (by rw [hrep, <-List.map_set]; exact wat _ (by simp))) ?_;rintro X T ⟨rfl,hag,hW⟩;have hom:=hW.2.2.2.2.2.2.1;obtain ⟨dv,how,_⟩:=hW.2.2.2.2.2.2.2;have hol:=hW.2.2.2.2.2.1;refine QW ?_;have hne : ¬ lid S.nx 1=lid S.nx 0:=by simp [lid]
   repeat first|refine QG ?_|refine QY ?_ (r:=by conv=>lhs;simp[QV,how,hom,hal,hat,qw,JR,hne])
   have hfr:=Ghost.freeze1 (S:=T.upd (lid S.nx 0) (1,(t.1.set a false).map V.bool)) (o:=lid S.nx 0) (cells:=(t.1.set a false).map V.bool) (len:=g.length) JR (jo V.bool (fun _=>rfl) _) (by simp [w4]);rw [hX];exact qI hwf (hfr.toB _) ((hag.upd (by simp [lid]) _).del (by simp [lid])) rfl
def jZ (g:List (List Nat)) (a:Nat):List V:=((List.range a).map (G.tableRow g)).map (vl V.bool)++List.replicate (g.length-a) .nils
theorem aer {g:List (List Nat)} {a:Nat} (h:a<g.length) (x:V):(jZ g a).set a x=((List.range a).map (G.tableRow g)).map (vl V.bool)++x::List.replicate (g.length-(a+1)) .nils:=by
 have e:g.length-a=(g.length-(a+1))+1:=by omega
 rw [jZ,e,List.replicate_succ,List.set_append_right _ _ (by simp)];simp
theorem WE {g:List (List Nat)} {a:Nat} (h:a<g.length):(jZ g a).set a (vl V.bool (G.tableRow g a))=jZ g (a+1):=by
 rw [aer h,jZ,List.range_succ];simp
theorem ZP (f:Nat->Nat) (g:List (List Nat)) (a:Nat):V.renL f (jZ g a)=jZ g a:=by
 simp only [jZ,jaz,ai9];rw [qi,List.map_replicate,af4]
theorem ZU (p:Nat->Bool) (g:List (List Nat)) (a:Nat):V.idsL p (jZ g a)=true:=by
 simp only [jZ,jaV,ajo,aE];rw [qF]; simp [afb]
theorem aew {g:List (List Nat)} {a:Nat} (h:a<=g.length):(jZ g a).length=g.length:=by simp [jZ]; omega
def fill (f:Nat->Bool) (n b:Nat):List Bool:=(List.range b).map f++List.replicate (n-b) false
theorem as2 {f:Nat->Bool} {n b:Nat} (h:b<n):(fill f n b).set b (f b)=fill f n (b+1):=by
 have e:n-b=(n-(b+1))+1:=by omega
 rw [fill,e,List.replicate_succ,List.set_append_right _ _ (by simp),fill,List.range_succ];simp
theorem atd {f:Nat->Bool} {n b:Nat} (h:b<=n):(fill f n b).length=n:=by simp [fill]; omega
theorem awl (g:List (List Nat)) (hg:G.Ok g):b8 59 [vl (vl cu) g] (vl (vl V.bool) (G.table g)):=by
 intro S;refine b7 Tryz.func59 Tryz.ntmps59 fun hwf=>?_
 have hm256:=hg.max;have hb24:g.length*24<=140737488355328:=by omega
 have hb1:g.length*1<=140737488355328:=by omega
 have hb0:g.length<=140737488355328:=by omega
 generalize hall:G.without g none=all;have hal:all.length=g.length:=by rw [<-hall]; exact G.aaz hg none
 refine bz ?_
 refine QP ?_;refine QL (hall▸jbm g hg none (by simp)) ?_;refine QW ?_
 refine bF hb24 hb0 ?_
 refine bX [0,3,4,5] (fun c σ S' => ∃ (a:Nat),a<=g.length/\c=g.length-a/\σ=[(0,vl (vl cu) g),(3,vl V.bool all),(4, .slice (lid S.nx 0) 0 g.length),(5,cu a)]/\S'=St S [] [some (1,jZ g a)]) g.length ?_ ?_
 .exact ⟨0,by omega,rfl,by simp [Fr.oy,Fr.lk,cu],by simp [jZ]⟩
 .rintro c σ T ⟨a,ha,rfl,rfl,rfl⟩
  by_cases hlt:a<g.length
  .have hw1:IntKind.i64.wrap ((a:Int)+1)=(a:Int)+1:=wrap_i64 (by omega) (by omega);have htl:=aew ha;have haa:a<all.length:=by omega
   have hat:a<(jZ g a).length:=by omega
   obtain ⟨b,hb⟩ : ∃ b,all[a]=b:=⟨_,rfl⟩
   have hbd:all.getD a false=b:=by simp [haa,hb]
   cases b with
   | false =>
    have hrow:G.tableRow g a=List.replicate g.length false:=by simp only [G.tableRow,hall,hbd]; simp
    refine bO hb1 hb0 hlt hat haa ?_
    refine jC rfl rfl (by simp [ev,Fr.lk,hb]) ?_;refine QT ?_;refine jP 1 rfl rfl ?_
    apply jv
    .exact Reach.frzCell (k:=0) (j:=1) (i:=a) (n:=g.length) (cells':=(List.replicate g.length false).map V.bool) (by omega) (by simp) (by simp) rfl (by simp [hat]) (by simp) (jo V.bool (fun _=>rfl) _) (by simp)
    have e:=WE hlt;rw [hrow] at e;simp only [aq,au,List.set_set];rw [show V.list ((List.replicate g.length false).map V.bool)=vl V.bool (List.replicate g.length false) from rfl,e]
    refine bD hw1 ?_
    refine QA [0] (h2:=by simp [ZP,ZU]) (hl:=by conv=>lhs; simp [ZP,ZU]) (h:=⟨?_,a+1,hlt,rfl,by simp [cu],rfl⟩);omega
   | true =>
    generalize hl:G.without g (some a)=l;have hll:l.length=g.length:=by rw [<-hl]; exact G.aaz hg _
    obtain ⟨f,hf⟩ : ∃ f:Nat->Bool,f=fun b=>all.getD b false && !(l.getD b false):=⟨_,rfl⟩
    have hrow:G.tableRow g a=(List.range g.length).map f:=by rw [hf]; simp only [G.tableRow,hall,hbd,hl]; simp
    refine bB hb1 hb0 hlt hat haa hb ?_
    refine QP ?_;refine QL (hl▸jbm g hg (some a) (by simpa using hlt)) ?_;refine bV ?_
    refine bX [0,3,4,5,6,7] (fun c σ S' => ∃ (b:Nat),b<=g.length/\c=g.length-b/\σ=[(0,vl (vl cu) g),(3,vl V.bool all),(4, .slice (lid S.nx 0) 0 g.length),(5,cu a),(6,vl V.bool l),(7,cu b)]/\S'=St S [] [some (1,(jZ g a).set a (.slice (lid S.nx 1) 0 g.length)),some (1,(fill f g.length b).map V.bool)]) g.length ?_ ?_
    .exact ⟨0,by omega,rfl,by simp [Fr.oy,Fr.lk,cu],by simp [fill]⟩
    .rintro c σ T ⟨b,hbl,rfl,rfl,rfl⟩
     by_cases hbt:b<g.length
     .have hw2:IntKind.i64.wrap ((b:Int)+1)=(b:Int)+1:=wrap_i64 (by omega) (by omega);have hba:b<all.length:=by omega
      have hbll:b<l.length:=by omega
      obtain ⟨x,hx⟩ : ∃ x,all[b]=x:=⟨_,rfl⟩
      have hfl:=atd (f:=f) hbl;have hbf:b<(fill f g.length b).length:=by omega
      have hset:=as2 (f:=f) hbt;have hfb:f b=(x && !l[b]):=by rw [hf]; simp [hba,hbll,hx]
      rw [hfb] at hset
      cases x with
      | true =>
       refine bD hbt ?_
       refine bZ (St S [] [some (1,(jZ g a).set a (.slice (lid S.nx 1) 0 g.length)),none]) (St S [] [some (1,(jZ g a).set a (.slice (lid S.nx 1) 0 g.length)),some (1,(fill f g.length b).map V.bool)]) [] ?_ (r:=by conv=>lhs; simp [QV,hlt,hat,hbt,hba,hbll,hx,hbf]);refine QI ?_ (r:=by conv=>lhs;simp[QV,hbt,hbf]);refine bW ?_
       show jx _ _ _ _ _ _ _;exact again ⟨ao hbt (aW b),b+1,hbt,rfl,by simp [Fr.oy,Fr.lk,cu]; exact hw2,by rw [<-hset]; simp⟩
      | false =>
       refine bD hbt ?_
       refine bZ (St S [] [some (1,(jZ g a).set a (.slice (lid S.nx 1) 0 g.length)),none]) (St S [] [some (1,(jZ g a).set a (.slice (lid S.nx 1) 0 g.length)),some (1,(fill f g.length b).map V.bool)]) [] ?_ (r:=by conv=>lhs; simp [QV,hlt,hat,hbt,hba,hbll,hx,hbf]);refine QI ?_ (r:=by conv=>lhs;simp[QV,hbt,hbf]);refine bW ?_
       show jx _ _ _ _ _ _ _;exact again ⟨ao hbt (aW b),b+1,hbt,rfl,by simp [Fr.oy,Fr.lk,cu]; exact hw2,by rw [<-hset]; simp⟩
     .have hbg:b=g.length:=by omega
      subst hbg;refine bR hbt ?_;refine QT ?_;refine jD rfl rfl rfl ?_;refine QT ?_;refine jP 2 rfl rfl ?_
      apply jv
      .exact Reach.frzCell (k:=0) (j:=1) (i:=a) (n:=g.length) (cells':=(G.tableRow g a).map V.bool) (by omega) (by simp) (by simp) rfl (by simp [hat]) (by rw [hrow]; simp [fill]) (jo V.bool (fun _=>rfl) _) (by simp [G.abl])
      have e:=WE hlt;simp only [aq,au,List.set_set];rw [show V.list ((G.tableRow g a).map V.bool)=vl V.bool (G.tableRow g a) from rfl,e]
      refine bD hw1 ?_
      refine QA [0] (h2:=by simp [ZP,ZU]) (hl:=by conv=>lhs; simp [ZP,ZU]) (h:=⟨?_,a+1,hlt,rfl,by simp [cu],rfl⟩);omega
  .refine bD hlt ?_
   have hag:a=g.length:=by omega
   subst hag;have e:jZ g g.length=(G.table g).map (vl V.bool):=by simp [jZ,G.table]
   rw [e];exact jf hwf ((frz1 (by simp) (by rfl) (jo (vl V.bool) (fun _=>rfl) _) (by simp [G.table])).toB _) rfl
end Go.Vw
