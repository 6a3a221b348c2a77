import Derived.Test.YtenhhokhkkfgbaaGreatC27
/- Part of the proof. -/
set_option linter.unusedVariables false
set_option linter.unusedSimpArgs false
set_option maxRecDepth 10000
set_option maxHeartbeats 8000000
namespace Go.Vw
open Go.Proofs Go.RowKit
attribute [-simp] List.map_set
def idxG {α ρ:Type} (p:α->ρ->Bool) (nx:α->ρ->α):α->List ρ->Nat->Int × α
 | a,[],_=>(-1,a)
 | a,r::rs,k=>if p a r then ((k:Int),nx a r) else idxG p nx (nx a r) rs (k+1)
def delG {α ρ:Type} (p:α->ρ->Bool) (nx:α->ρ->α):α->List ρ->List ρ × α
 | a,[]=>([],a)
 | a,r::rs=>if p a r then delG p nx (nx a r) rs else (r::(delG p nx (nx a r) rs).1,(delG p nx (nx a r) rs).2)
theorem jcH {α ρ:Type} (p:α->ρ->Bool) (nx:α->ρ->α) : ∀ (rs:List ρ) (a:α) (k:Nat),((idxG p nx a rs k).1 = -1/\delG p nx a rs=(rs,(idxG p nx a rs k).2)) \/ ∃ i:Nat,i<rs.length/\(idxG p nx a rs k).1=(k+i:Nat)/\delG p nx a rs=(rs.take i++(delG p nx (idxG p nx a rs k).2 (rs.drop (i+1))).1,(delG p nx (idxG p nx a rs k).2 (rs.drop (i+1))).2)
 | [],a,k => .inl ⟨rfl,rfl⟩
 | r::rs,a,k=>by
  by_cases h:p a r=true
  ·refine .inr ⟨0,by simp, ?_, ?_⟩
   ·simp [idxG,h]
   ·simp [delG,idxG,h]
  ·have e1:idxG p nx a (r::rs) k=idxG p nx (nx a r) rs (k+1):=by simp [idxG,h]
   have e2:delG p nx a (r::rs)=(r::(delG p nx (nx a r) rs).1,(delG p nx (nx a r) rs).2):=by simp [delG,h]
   rcases jcH p nx rs (nx a r) (k+1) with ⟨h1,h2⟩ | ⟨i,hi,h1,h2⟩
   ·exact .inl ⟨by rw [e1,h1],by rw [e2,h2,e1]⟩
   ·refine .inr ⟨i+1,by simp; omega,by rw [e1,h1]; congr 1; omega, ?_⟩;rw [e2,e1,h2];simp
theorem zq {m:Nat} : ∀ {rows:List (List V)},(∀ r∈rows,r.length=m)->rows.flatten.length=rows.length*m
 | [],_=>by simp
 | r::rs,h=>by rw [List.flatten_cons,List.length_append,h r (by simp),zq fun x hx=>h x (by simp [hx]),aC,Nat.succ_mul]; omega
theorem jaK {m:Nat} : ∀ {rows:List (List V)} (k:Nat),(∀ r∈rows,r.length=m)->rows.flatten.take (k*m)=(rows.take k).flatten
 | [],k,_=>by simp
 | r::rs,0,h=>by simp
 | r::rs,k+1,h=>by
  have hr:=h r (by simp);rw [List.flatten_cons,List.take_succ_cons,List.flatten_cons, <-jaK k fun x hx=>h x (by simp [hx]),Nat.succ_mul,List.take_append,hr];rw [show k*m+m-m=k*m by omega,List.take_of_length_le (by rw [hr]; omega)]
theorem flat_drop {m:Nat} {rows:List (List V)} (k:Nat) (h : ∀ r∈rows,r.length=m):rows.flatten.drop (k*m)=(rows.drop k).flatten:=by
 have e:=List.take_append_drop (k*m) rows.flatten;have e2:rows.flatten=(rows.take k).flatten++(rows.drop k).flatten:=by rw [<-List.flatten_append,List.take_append_drop]
 rw [jaK k h] at e;exact List.append_cancel_left (e.trans e2)
theorem flat_row {m:Nat} {rows:List (List V)} {k:Nat} (h : ∀ r∈rows,r.length=m) (hk:k<rows.length):(rows.flatten.drop (k*m)).take m=rows[k]:=by
 rw [flat_drop k h,am hk,List.flatten_cons,List.take_append_of_le_length (by rw [h _ (ah hk)]; omega),List.take_of_length_le (by rw [h _ (ah hk)]; omega)]
theorem splice_len (cs:List V) (q:Nat) (xs:List V) (h:q+xs.length<=cs.length):(jS cs q xs).length=cs.length:=by
 simp only [jS,List.length_append,List.length_take,List.length_drop]; omega
theorem jaa (cs:List V) (q:Nat) (xs:List V) (h:q+xs.length<=cs.length):(jS cs q xs).take (q+xs.length)=cs.take q++xs:=by
 rw [jS,List.take_append_of_le_length (by simp; omega),List.take_of_length_le (by simp; omega)]
theorem YS (cs:List V) (q:Nat) (xs:List V) (h:q<=cs.length):(jS cs q xs).take q=cs.take q:=by
 rw [jS,List.append_assoc,List.take_append_of_le_length (by simp; omega),List.take_take,Nat.min_self]
theorem jab (cs:List V) (q r:Nat) (xs:List V) (h:q+xs.length<=cs.length) (hr:q+xs.length<=r):(jS cs q xs).drop r=cs.drop r:=by
 have h1:(cs.take q).length=q:=by rw [List.length_take]; omega
 rw [jS,List.drop_append,List.drop_eq_nil_of_le (by simp; omega),List.nil_append,List.drop_drop,List.length_append,h1]
 congr 1; omega
section
variable {α:Type} (I:α->Store->Prop) (p:α->List V->Bool) (nx:α->List V->α) {oc N:Nat} {rows:List (List V)} {fid:FuncId} {caps:List V}
theorem IndexDel_v (hc:jH Tryz.prog fid=true) (hr4 : ∀ r∈rows,r.length=4) (hlim:rows.length<2^62) (hN:oc<N)
  (hloc : ∀ a S S',(∀ o,o<N->o≠oc->S'.get o=S.get o)->I a S->I a S')
  (hdel : ∀ a S r,r∈rows->I a S->N<=S.nx->bU fid (.agg r::caps) S fun v T=>v = .bool (p a r)/\I (nx a r) T/\S.nx<=T.nx /\ ∀ o,o<S.nx->(N<=o\/o=oc)->T.get o=S.get o)
  {a:α} {S:Store} (hI:I a S) (hS:N<=S.nx) (hg:S.get oc=some (4,rows.flatten)) :
  bU 72 [.slice oc 0 rows.length, .func fid caps] S fun v T=>v=vint (idxG p nx a rows 0).1/\I (idxG p nx a rows 0).2 T/\N<=T.nx/\T.get oc=some (4,rows.flatten):=by
 have b0:=fun u l => @jh S u l oc (by omega)
 have hfl:=zq hr4;refine QB (c:=jc Tryz.f72) Tryz.func72 Tryz.ntmps72 fun hwf=>?_
 refine bt b0 hg ?_
 refine QT ?_;refine jd [0,1,7,8] rfl (fun c σ S' => ∃ (b:α) (k:Nat),I b S'/\N<=S'.nx/\S'.get oc=some (4,rows.flatten)/\k<=rows.length/\c=rows.length-k/\idxG p nx b (rows.drop k) k=idxG p nx a rows 0/\σ=[(0, .slice oc 0 rows.length),(1, .func fid caps),(7,vnat rows.length),(8,vnat k)]) rows.length ?_ ?_
 ·exact ⟨a,0,by rw [jM hwf]; exact hI,by rw [jM hwf]; exact hS,by rw [jM hwf]; exact hg,by omega,rfl,rfl,by simp [Fr.only]⟩
 ·rintro c σ T ⟨b,k,hIb,hT,hgT,hk,rfl,hd,rfl⟩;refine Yi fun hwT=>Jq hwT ?_
  have bT:=fun u l => @jh T u l oc (by omega)
  by_cases hkt:k<rows.length
  ·have hst:idxG p nx b (rows.drop k) k=if p b rows[k] then ((k:Int),nx b rows[k]) else idxG p nx (nx b rows[k]) (rows.drop (k+1)) (k+1):=by rw [am hkt,idxG]
   have hw:=jg hkt (by omega);have hrow:=flat_row hr4 hkt;have hle:k*4+4<=rows.length*4:=by omega
   refine bv hkt bT hgT ?_
   refine QP ?_ (r:=by conv=>lhs;simp[QV,hkt,bT,hgT,hfl,hle,hrow]);refine ql rfl hc rfl (hdel b _ _ (ah hkt) (by rw [jM hwT]; exact hIb) (by rw [jM hwT]; exact hT)) ?_;rintro X T2 ⟨rfl,hI2,hT2,hg2⟩;rw [jM hwT] at hT2 hg2;have hg3:=(hg2 oc (by omega) (.inr rfl)).trans hgT
   cases hp:p b rows[k] with
   | true =>
    rw [hp] at hst;simp only [if_true] at hst;rw [hst] at hd;refine bQ ?_
    refine zi ⟨?_, ?_,by omega,hg3⟩
    ·rw [<-hd]; rfl
    ·rw [<-hd]; exact hI2
   | false =>
    rw [hp] at hst;simp only [aF,if_false] at hst;refine QW ?_
    refine bx hw ?_
    show js _ _ _ _ _ _ _;exact again ⟨ao hkt (aY k),nx b rows[k],k+1,hI2,by omega,hg3,hkt,rfl,by rw [<-hd,hst],by simp [Fr.only,Fr.look]⟩
  ·have e:rows.drop k=[]:=by rw [aH]; omega
   rw [e] at hd;simp only [idxG] at hd
   refine bx hkt ?_
   refine zi ⟨?_, ?_,by rw [jM hwT]; exact hT,by rw [jM hwT]; exact hgT⟩
   ·rw [<-hd]; rfl
   ·rw [<-hd,jM hwT]; exact hIb
theorem Delete_v (hc:jH Tryz.prog fid=true) (hr4 : ∀ r∈rows,r.length=4) (hlim:rows.length<2^62) (hN:oc<N)
  (hloc : ∀ a S S',(∀ o,o<N->o≠oc->S'.get o=S.get o)->I a S->I a S')
  (hdel : ∀ a S r,r∈rows->I a S->N<=S.nx->bU fid (.agg r::caps) S fun v T=>v = .bool (p a r)/\I (nx a r) T/\S.nx<=T.nx /\ ∀ o,o<S.nx->(N<=o\/o=oc)->T.get o=S.get o)
  {a:α} {S:Store} (hI:I a S) (hS:N<=S.nx) (hg:S.get oc=some (4,rows.flatten)) :
  bU 27 [.slice oc 0 rows.length, .func fid caps] S fun v T=>v = .slice oc 0 (delG p nx a rows).1.length/\I (delG p nx a rows).2 T/\N<=T.nx/\T.get oc=some (4,(delG p nx a rows).1.flatten):=by
 have ci:=IndexDel_v I p nx hc hr4 hlim hN hloc hdel hI hS hg;have hfl:=zq hr4;refine QB (c:=jc Tryz.f27) Tryz.func27 Tryz.ntmps27 fun hwf=>?_
 rw [<-jM hwf] at ci
 refine bw ?_
 refine QP ?_;refine jK rfl ci ?_;rintro X T ⟨rfl,hI2,hT2,hg2⟩;rcases jcH p nx rows a 0 with ⟨h1,h2⟩ | ⟨i,hi,h1,h2⟩
 ·refine bB h1 ?_;refine bR ?_
  refine zi ⟨?_, ?_,hT2, ?_⟩
  ·rw [h2]; rfl
  ·rw [h2]; exact hI2
  ·rw [h2]; exact hg2
 rw [bd] at h1;have hw:=jg hi (by omega);generalize hst:idxG p nx a rows 0=st at *
 obtain ⟨z,b0⟩:=st;simp only at h1 h2 hI2;subst h1;have hi1 : ¬ ((i:Int) = -1):=by omega
 refine QW ?_
 refine bt hi1 hw ?_
 refine QT ?_;refine jd [0,1,5,6] rfl (fun c σ S' => ∃ (b:α) (K:List (List V)) (j:Nat) (cells:List V),I b S'/\N<=S'.nx/\S'.get oc=some (4,cells)/\cells.length=rows.length*4/\cells.take (K.length*4)=K.flatten/\cells.drop (j*4)=(rows.drop j).flatten/\K.length<j/\j<=rows.length/\c=rows.length-j/\(K++(delG p nx b (rows.drop j)).1,(delG p nx b (rows.drop j)).2)=delG p nx a rows/\σ=[(0, .slice oc 0 rows.length),(1, .func fid caps),(5,vnat K.length),(6,vnat j)]) (rows.length-(i+1)) ?_ ?_
 ·refine ⟨b0,rows.take i,i+1,rows.flatten,hI2,hT2,hg2,hfl, ?_,flat_drop _ hr4,by simp; omega,by omega,rfl,h2.symm, ?_⟩
  ·rw [List.length_take,Nat.min_eq_left (by omega)]; exact jaK i hr4
  ·simp [Fr.only,Fr.look,Nat.min_eq_left (Nat.le_of_lt hi)]
 ·rintro c σ T3 ⟨b,K,j,cells,hI3,hT3,hg3,hcl,hck,hcd,hKj,hj,rfl,hd,rfl⟩;refine Yi fun hwT=>Jq hwT ?_
  have bT:=fun u l => @jh T3 u l oc (by omega)
  by_cases hjt:j<rows.length
  ·have hw2:=jg hjt (by omega);have hKw:=jg (k:=K.length) (n:=rows.length) (by omega) (by omega);have hr:=am hjt;obtain ⟨x0,x1,x2,x3,hx⟩ : ∃ x0 x1 x2 x3,rows[j]=[x0,x1,x2,x3]:=by
    have:=hr4 _ (ah hjt)
    match rows[j],this with
    | [x0,x1,x2,x3],_=>exact ⟨x0,x1,x2,x3,rfl⟩
   have hrow:(cells.drop (j*4)).take 4=[x0,x1,x2,x3]:=by rw [hcd,hr,List.flatten_cons,hx]; rfl
   have hle:j*4+4<=rows.length*4:=by omega
   refine bz hjt bT hg3 hcl hle hrow ?_
   have hI3':I b (St T3 [] [some (4,[x0,x1,x2,x3])]):=hloc b T3 _ (fun o ho _=>by rw [jh (by omega)]; rfl) hI3;have hmem:[x0,x1,x2,x3]∈rows:=hx▸ah hjt;have hst:delG p nx b (rows.drop j)=if p b [x0,x1,x2,x3] then delG p nx (nx b [x0,x1,x2,x3]) (rows.drop (j+1)) else ([x0,x1,x2,x3]::(delG p nx (nx b [x0,x1,x2,x3]) (rows.drop (j+1))).1,(delG p nx (nx b [x0,x1,x2,x3]) (rows.drop (j+1))).2):=by rw [hr,delG,hx]
   have hcd2:cells.drop ((j+1)*4)=(rows.drop (j+1)).flatten:=by
    rw [show (j+1)*4=j*4+4 by omega, <-List.drop_drop,hcd,hr,List.flatten_cons,hx]; rfl
   refine QP ?_;refine ql rfl hc rfl (hdel b _ _ hmem hI3' (by rw [jL,lid]; omega)) ?_;rintro X T4 ⟨rfl,hI4,hT4,hg4⟩;rw [jL] at hT4 hg4;have hg5:=(hg4 oc (by simp only [lid]; omega) (.inr rfl)).trans ((bT [] _).trans hg3);have hg6:=(hg4 (lid T3.nx 0) (by simp [lid]) (.inl (by simp only [lid]; omega))).trans (jv);simp only [aK,Option.join_some] at hg6;have hle4:T3.nx+1<=T4.nx:=by simpa [lid] using hT4
   have b1:=fun u l => @jh T4 u l oc (by omega)
   have b2:=fun u l => @jh T4 u l (lid T3.nx 0) (by simp only [lid]; omega)
   generalize lid T3.nx 0=q4 at *
   cases hp:p b [x0,x1,x2,x3] with
   | true =>
    rw [hp] at hst;simp only [if_true] at hst;refine QW ?_
    refine bx hw2 ?_
    show js _ _ _ _ _ _ _;exact again ⟨ao hjt (aY j),nx b [x0,x1,x2,x3],K,j+1,cells,hI4,by omega,hg5,hcl,hck,hcd2,by omega,hjt,rfl,by rw [<-hd,hst],by simp [Fr.only,Fr.look]⟩
   | false =>
    rw [hp] at hst;simp only [aF,if_false] at hst;refine QW ?_;refine Yi fun hw4=>Jq hw4 ?_
    have hle5:K.length*4+4<=rows.length*4:=by omega
    have hlt5:K.length<rows.length:=by omega
    repeat first|refine QG ?_|refine QY ?_ (r:=by conv=>lhs;simp[QV,b1,b2,hg5,hg6,hcl,hle5,hlt5,hw2,hKw])
    have hsl:K.length*4+[x0,x1,x2,x3].length<=cells.length:=by simp only [aC,aM]; omega
    have hne:(St T4 [] []).upd oc (4,List.take (K.length*4) cells++x0::x1::x2::x3::List.drop (K.length*4+4) cells)=T4.upd oc (4,jS cells (K.length*4) [x0,x1,x2,x3]):=by rw [jM hw4]; simp [jS]
    show js _ _ _ _ _ _ _;refine again ⟨ao hjt (aY j),nx b [x0,x1,x2,x3],K++[[x0,x1,x2,x3]],j+1,jS cells (K.length*4) [x0,x1,x2,x3],hloc _ T4 _ (fun o _ ho => ?_) hI4, ?_, ?_,by rw [splice_len _ _ _ hsl]; exact hcl, ?_, ?_,by simp; omega,hjt,rfl,by rw [<-hd,hst]; simp,by simp [Fr.only,Fr.look]⟩
    ·rw [hne,qH ho]
    ·rw [hne]; show N<=T4.nx; omega
    ·rw [hne,zY]
    ·have:=jaa cells (K.length*4) [x0,x1,x2,x3] hsl;rw [hck] at this;rw [List.length_append,List.length_singleton,Nat.succ_mul,List.flatten_append];simpa using this
    ·rw [jab _ _ _ _ hsl (by simp only [aC,aM]; omega)]; exact hcd2
  ·have hje:j=rows.length:=by omega
   subst hje;have e:rows.drop rows.length=[]:=by simp
   rw [e] at hd;simp only [delG,List.append_nil] at hd;have hKl:K.length<=rows.length:=by omega
   have hcl2:K.length*4+(rows.length-K.length)*4<=rows.length*4:=by omega
   have hclr:Jz 4 [V.int .i64 0, .int .u64 0, .nils, .nils] (St T3 [] []) (.slice oc (K.length*4) (rows.length-K.length))=some ((St T3 [] []).upd oc (4,jS cells (K.length*4) (rep0 [V.int .i64 0, .int .u64 0, .nils, .nils] (rows.length-K.length)))):=by
    have hle:K.length*4+(rows.length-K.length)*4<=cells.length:=by rw [hcl]; exact hcl2
    simp only [Jz,bT,uGet,hg3,hle,if_true]
   generalize hcz:jS cells (K.length*4) (rep0 [V.int .i64 0, .int .u64 0, .nils, .nils] (rows.length-K.length))=cz at hclr;have hct:cz.take (K.length*4)=K.flatten:=by rw [<-hcz,YS _ _ _ (by omega),hck]
   refine bv hjt bT hg3 ?_
   refine QY ?_ (r:=by conv=>lhs;simp[QV,bT,hg3,hKl,hclr]);have hgu:((St T3 [] []).upd oc (4,cz)).get oc=some (4,cz):=zY
   apply jE
   ·exact Reach.trim 0 rfl hgu (K.length*4)
   simp only [hct];have hT5:((St T3 [] []).upd oc (4,cz)).upd oc (4,K.flatten)=T3.upd oc (4,K.flatten):=by
    rw [jM hwT];refine Store.ext' (funext fun o => ?_) rfl;simp only [qo];split<;>rfl
   rw [hT5];refine Yi fun hw5=>Jq hw5 ?_
   have b5:=fun u l => @jh (T3.upd oc (4,K.flatten)) u l oc (by show oc<T3.nx; omega)
   have hg5:(T3.upd oc (4,K.flatten)).get oc=some (4,K.flatten):=zY
   refine bv b5 hg5 hKl ?_
   rw [jM hw5];refine zi ⟨?_, ?_,hT3, ?_⟩
   ·rw [<-hd]; rfl
   ·rw [<-hd]; exact hloc _ T3 _ (fun o _ ho=>qH ho) hI3
   ·rw [<-hd]; exact hg5
end
end Go.Vw
namespace Go.Vw
open Go.Proofs Go.RowKit
inductive Rows {α:Type} (T:Store) (tys:List Ty) (enc:α->V):List α->List (List V)->List Nat->Prop
 | nil:Rows T tys enc [] [] []
 | cons {x:α} {r:List V} {ii:List Nat} {xs:List α} {rs:List (List V)} {ids:List Nat} (h:OwL T tys r (enc x).cells ii) (t:Rows T tys enc xs rs ids):Rows T tys enc (x::xs) (r::rs) (ii++ids)
section
variable {α:Type} {T T':Store} {tys:List Ty} {enc:α->V}
theorem jco (hs : ∀ x,(enc x).cells.length=tys.length) : ∀ {xs:List α} {cells:List V} {ids:List Nat},OwL T (reps xs.length tys) cells (ju enc xs) ids -> ∃ rs,cells=rs.flatten/\rs.length=xs.length/\Rows T tys enc xs rs ids
 | [],cells,ids,h=>by
  rw [aM,reps_zero] at h
  cases h with
  | nil=>exact ⟨[],rfl,rfl, .nil⟩
 | x::xs,cells,ids,h=>by
  rw [aC,Ji] at h;obtain ⟨r1,r2,x1,x2,i1,i2,rfl,hx,rfl,k1,k2⟩:=h.split;have e:ju enc (x::xs)=(enc x).cells++ju enc xs:=by simp [ju]
  rw [e] at hx;obtain ⟨rfl,rfl⟩:=List.append_inj hx (by rw [hs,k1.len.2]);obtain ⟨rs,rfl,hl,hr⟩:=jco hs k2;exact ⟨r1::rs,rfl,by simp [hl], .cons k1 hr⟩
theorem Rows.owl {xs:List α} {rs:List (List V)} {ids:List Nat} (h:Rows T tys enc xs rs ids):OwL T (reps xs.length tys) rs.flatten (ju enc xs) ids:=by
 induction h with
 | nil=>exact .nil
 | @cons x r ii xs rs ids h t ih =>
  have e:ju enc (x::xs)=(enc x).cells++ju enc xs:=by simp [ju]
  rw [aC,Ji,List.flatten_cons,e];exact h.append ih
theorem Rows.mono {xs:List α} {rs:List (List V)} {ids:List Nat} (h:Rows T tys enc xs rs ids):(∀ o∈ids,T'.get o=T.get o)->Rows T' tys enc xs rs ids:=by
 induction h with
 | nil=>exact fun _ => .nil
 | cons h t ih=>exact fun hk => .cons (h.mono fun o ho=>hk o (by simp [ho])) (ih fun o ho=>hk o (by simp [ho]))
theorem Rows.len {xs:List α} {rs:List (List V)} {ids:List Nat} (h:Rows T tys enc xs rs ids):rs.length=xs.length /\ ∀ r∈rs,r.length=tys.length:=by
 induction h with
 | nil=>simp
 | cons h t ih=>exact ⟨by simp [ih.1],fun r hr=>by rcases aL.1 hr with rfl | hr; exact h.len.1; exact ih.2 r hr⟩
theorem Rows.del {κ:Type} (p:κ->List V->Bool) (nx:κ->List V->κ) (q:κ->α->Bool) (ny:κ->α->κ) {xs:List α} {rs:List (List V)} {ids:List Nat} (h:Rows T tys enc xs rs ids) :
  (∀ x r ii,x∈xs->OwL T tys r (enc x).cells ii->(∀ o∈ii,o∈ids) -> ∀ a,p a r=q a x/\nx a r=ny a x) -> ∀ a, ∃ ids',Rows T tys enc (delG q ny a xs).1 (delG p nx a rs).1 ids'/\ids'.Sublist ids/\(delG p nx a rs).2=(delG q ny a xs).2:=by
 induction h with
 | nil=>exact fun _ a=>⟨[], .nil,List.Sublist.refl _,rfl⟩
 | @cons x r ii xs rs ids h t ih =>
  intro hk a;obtain ⟨h1,h2⟩:=hk x r ii (by simp) h (fun o ho=>by simp [ho]) a;obtain ⟨ids',k1,k2,k3⟩:=ih (fun y s jj hy ho hs=>hk y s jj (by simp [hy]) ho fun o h=>by simp [hs o h]) (ny a x);simp only [delG,h1,h2]
  by_cases hq:q a x=true
  ·rw [if_pos hq,if_pos hq];exact ⟨ids',k1,k2.trans (List.sublist_append_right _ _),k3⟩
  ·rw [if_neg hq,if_neg hq];exact ⟨ii++ids', .cons h k1,(List.Sublist.refl ii).append k2,k3⟩
end
theorem Rows.at {α:Type} {T:Store} {tys:List Ty} {enc:α->V} {xs:List α} {rs:List (List V)} {ids:List Nat} (h:Rows T tys enc xs rs ids) : ∀ {k:Nat} {x:α},xs[k]? = some x -> ∃ (r1:List (List V)) (r:List V) (r2:List (List V)) (i1 ii i2:List Nat),rs=r1++r::r2/\r1.length=k/\ids=i1++(ii++i2)/\OwL T tys r (enc x).cells ii /\
  ∀ (T':Store) (r':List V) (x':α) (ii':List Nat),(∀ o∈i1++i2,T'.get o=T.get o)->OwL T' tys r' (enc x').cells ii'->Rows T' tys enc (xs.set k x') (r1++r'::r2) (i1++(ii'++i2)):=by
 induction h with
 | nil=>intro k x hx; simp at hx
 | @cons y r ii xs rs ids h t ih =>
  intro k x hx
  cases k with
  | zero =>
   simp only [aK,ay] at hx;subst hx;exact ⟨[],r,rs,[],ii,ids,rfl,rfl,rfl,h,fun T' r' x' ii' hk ho=>Rows.cons (ids:=ids) ho (t.mono fun o hm=>hk o (by simpa using hm))⟩
  | succ k =>
   obtain ⟨r1,s,r2,i1,jj,i2,e1,e2,e3,e4,e5⟩:=ih (k:=k) (x:=x) (by simpa using hx);subst e1; subst e3;refine ⟨r::r1,s,r2,ii++i1,jj,i2,rfl,by simp [e2],by simp,e4,fun T' r' x' ii' hk ho => ?_⟩;have:=Rows.cons (x:=y) (h.mono fun o hm=>hk o (by simp [hm])) (e5 T' r' x' ii' (fun o hm=>hk o (by
    rcases aG.1 hm with hm | hm<;>simp [hm])) ho)
   simpa using this
theorem JY {m:Nat} {r1:List (List V)} {r:List V} {r2:List (List V)} {k q:Nat} {w:V} (h1 : ∀ s∈r1,s.length=m) (hk:r1.length=k) (hr:r[q]? = some w):(r1++r::r2).flatten[k*m+q]? = some w:=by
 have hq:q<r.length:=(ae.1 hr).1;have hl:=zq h1;rw [hk] at hl;rw [List.flatten_append,List.flatten_cons, <-hl,bi (by omega),Nat.add_sub_cancel_left,aV hq];exact hr
theorem ZH {m:Nat} {r1:List (List V)} {r:List V} {r2:List (List V)} {k q:Nat} {w:V} (h1 : ∀ s∈r1,s.length=m) (hk:r1.length=k) (hq:q<r.length):(r1++r::r2).flatten.set (k*m+q) w=(r1++r.set q w::r2).flatten:=by
 have hl:=zq h1;rw [hk] at hl;rw [List.flatten_append,List.flatten_cons, <-hl,List.set_append_right _ _ (by omega),Nat.add_sub_cancel_left,List.set_append_left _ _ hq,List.flatten_append,List.flatten_cons]
theorem ins_row {T:Store} {x:Ss.Ins} {r:List V} {ii:List Nat} (h:OwL T insD r (jp x).cells ii) : ∃ oa ou,r=[vint x.op,vu x.n, .slice oa 0 x.args.length, .slice ou 0 x.outs.length]/\ii=[oa,ou]/\T.get oa=some (1,x.args.map vint)/\T.get ou=some (1,x.outs.map vint):=by
 rw [zW] at h;generalize hA:vl vint x.args=A at h;generalize hB:vl vint x.outs=B at h
 cases h with
 | c h1 h=>cases h with
  | c h2 h=>cases h with
   | @s _ _ _ _ ca ys i j oa ho hs d h=>cases h with
    | @s _ _ _ _ cb zs i2 j2 ou ho2 hs2 d2 h=>cases h with
     | nil =>
      have e1:ys=x.args.map vint:=by
       have:V.list (x.args.map vint)=V.list ys:=hA;exact (V.list.inj this).symm
      have e2:zs=x.outs.map vint:=by
       have:V.list (x.outs.map vint)=V.list zs:=hB;exact (V.list.inj this).symm
      subst e1; subst e2;have c1:=Jg (n:=(x.args.map vint).length*1) (by rw [<-jbC]; exact d);have c2:=Jg (n:=(x.outs.map vint).length*1) (by rw [<-jbC]; exact d2);rw [zb,qn] at c1 c2;refine ⟨oa,ou,by simp, ?_, ?_, ?_⟩
      ·rw [c1.2,c2.2]; rfl
      ·rw [ho,c1.1]; rfl
      ·rw [ho2,c2.1]; rfl
theorem block_row {T:Store} {b:Ss.Block} {r:List V} {ii:List Nat} (h:OwL T blkD r (je b).cells ii) : ∃ (op oc oe:Nat) (rs:List (List V)) (ce:List V) (ip ic ie:List Nat),r=[.slice op 0 b.params.length, .slice oc 0 b.code.length,vint b.term.kind,vint b.term.arg, .slice oe 0 b.term.to.length,vl vint b.term.args]/\ii=op::oc::(ic++oe::ie) /\
  T.get op=some (1,b.params.map vint)/\T.get oc=some (4,rs.flatten)/\Rows T insD jp b.code rs ic/\T.get oe=some (2,ce)/\OwL T (reps b.term.to.length KZ) ce (ju jk b.term.to) ie:=by
 rw [zj] at h;generalize hA:vl vint b.params=A at h;generalize hB:vl jp b.code=B at h;generalize hC:vl jk b.term.to=C at h
 cases h with
 | @s _ _ _ _ ca ys i j op ho hs d h=>cases h with
  | @s _ _ _ _ cb zs i2 j2 oc ho2 hs2 d2 h=>cases h with
   | c h1 h=>cases h with
    | c h2 h=>cases h with
     | @s _ _ _ _ cc us i3 j3 oe ho3 hs3 d3 h=>cases h with
      | c h3 h=>cases h with
       | nil =>
        have e1:ys=b.params.map vint:=by
         have:V.list (b.params.map vint)=V.list ys:=hA;exact (V.list.inj this).symm
        have e2:zs=b.code.map jp:=by
         have:V.list (b.code.map jp)=V.list zs:=hB;exact (V.list.inj this).symm
        have e3:us=b.term.to.map jk:=by
         have:V.list (b.term.to.map jk)=V.list us:=hC;exact (V.list.inj this).symm
        subst e1; subst e2; subst e3;have c1:=Jg (n:=(b.params.map vint).length*1) (by rw [<-jbC]; exact d);rw [zb,qn] at c1;rw [aI,zb] at d2 d3;obtain ⟨rs,rfl,hl,hr⟩:=jco (fun x=>by rw [zW]; rfl) d2;refine ⟨op,oc,oe,rs,cc,[],i2,i3,by simp, ?_, ?_,ho2,hr,ho3,d3⟩
        ·rw [c1.2]; simp
        ·rw [ho,c1.1]; rfl
theorem jcY {T:Store} {b:Ss.Block} {op oc oe:Nat} {rs:List (List V)} {ce:List V} {ic ie:List Nat} (h1:T.get op=some (1,b.params.map vint)) (h2:T.get oc=some (4,rs.flatten)) (h3:Rows T insD jp b.code rs ic) (h4:T.get oe=some (2,ce)) (h5:OwL T (reps b.term.to.length KZ) ce (ju jk b.term.to) ie) :
  OwL T blkD [.slice op 0 b.params.length, .slice oc 0 b.code.length,vint b.term.kind,vint b.term.arg, .slice oe 0 b.term.to.length,vl vint b.term.args] (je b).cells (op::oc::(ic++oe::ie)):=by
 rw [zj];have hP:OwL T (.s [.c]::[.s insD, .c, .c, .s KZ, .c]) (.slice op 0 b.params.length::[.slice oc 0 b.code.length,vint b.term.kind,vint b.term.arg, .slice oe 0 b.term.to.length,vl vint b.term.args]) (vl vint b.params::[vl jp b.code,vint b.term.kind,vint b.term.arg,vl jk b.term.to,vl vint b.term.args]) (op::oc::(ic++oe::ie)):=by
  refine OwL.slice (s:=1) (enc:=vint) (fun _=>rfl) (fun _=>rfl) b.params (by rw [qn]; exact h1) ?_;have h6:=h3.owl;have t1:OwL T [.s KZ, .c] [.slice oe 0 b.term.to.length,vl vint b.term.args] [vl jk b.term.to,vl vint b.term.args] (oe::ie):=by
   have:=OwL.s (S:=T) (o:=oe) (tys:=KZ) (cells:=ce) (ys:=b.term.to.map jk) (i:=ie) (j:=[]) h4 (fun y hy=>(by
    obtain ⟨e,_,rfl⟩:=bk.1 hy;exact ⟨by rw [ze]; rfl,Wg e⟩)) (by rw [aI,zb]; exact h5) (.c (x:=vl vint b.term.args) rfl .nil)
   rw [aI,List.append_nil] at this;exact this
  have:=OwL.s (S:=T) (o:=oc) (tys:=insD) (cells:=rs.flatten) (ys:=b.code.map jp) (i:=ic) (j:=oe::ie) h2 (fun y hy=>(by
   obtain ⟨e,_,rfl⟩:=bk.1 hy;exact ⟨by rw [zW]; rfl,JZ e⟩)) (by rw [aI,zb]; exact h6) (.c (x:=vint b.term.kind) rfl (.c (x:=vint b.term.arg) rfl t1))
  rw [aI] at this;exact this
 exact hP
theorem vcalls_cut {P:Program} {f:FuncId} {args:List V} {S S':Store} {X:V} (hw:S'.Wf) (hn:S'.nx=S.nx) (hX:X.ids (fun o=>decide (o<S.nx))=true)
  (h:VCalls P f args S fun r T=>r=X/\S'.nx<=T.nx /\ ∀ o,o<S'.nx->T.get o=S'.get o):VCalls P f args S fun r T=>r=X/\T=S':=by
 refine qZ (h.mono ?_);rintro r T ⟨rfl,h1,h2⟩;refine ⟨r,S', ?_,rfl,rfl⟩;rw [<-hn];exact GhostB.cut hw ⟨h1,h2⟩ (by rw [hn]; exact hX)
def vToInt:V->Int
 | .int _ n=>n
 | _=>0
theorem jbJ (l:List Int):(l.map vint).map vToInt=l:=by
 rw [List.map_map]; exact (a7 fun x _=>rfl).trans (List.map_id _)
theorem jcT {κ ρ:Type} (p:κ->ρ->Bool) (nx:κ->ρ->κ) : ∀ (rs:List ρ) (a:κ), ∀ r∈(delG p nx a rs).1,r∈rs
 | [],a,r,h=>by simp [delG] at h
 | x::rs,a,r,h=>by
  rw [delG] at h;split at h
  ·exact List.mem_cons_of_mem _ (jcT p nx rs _ r h)
  ·rcases aL.1 h with rfl | h
   ·simp
   ·exact List.mem_cons_of_mem _ (jcT p nx rs _ r h)
end Go.Vw
namespace Ss
def NewX (ts ps:List Int) (x:Ins):Prop:=x=⟨256,9,[],[(ts.length:Int)]⟩ \/ ∃ p∈ps,0<=p/\p<ts.length/\ts.getD p.toNat 0=126/\x=⟨124,0,[p,p],[(ts.length:Int)]⟩
theorem NewX.op {ts ps:List Int} {x:Ins} (h:NewX ts ps x):x.op≠258/\x.outs=[(ts.length:Int)]/\x.args.length<=2:=by
 rcases h with rfl | ⟨p,_,_,_,_,rfl⟩<;>simp
theorem Wi {e:Env} {f:Fn} {ds:List Def} {near:List Int} : ∀ {l:List Block} {i:Nat},(∀ (j:Nat) (b:Block),l[j]? = some b->checkCode e f ds near ((i+j:Nat):Int) 0 b.code=true/\termOk f ds near ((i+j:Nat):Int) b=true)->checkBlocks e f ds near i l=true
 | [],i,_=>rfl
 | b::l,i,h=>by
  simp only [checkBlocks,af];refine ⟨h 0 b rfl,Wi fun j y hy => ?_⟩;have:=h (j+1) y (by simpa using hy);rw [show i+1+j=i+(j+1) by omega]; exact this
end Ss
namespace Go.Vw
open Go.Proofs Go.RowKit
attribute [-simp] List.map_set
theorem jdb (l m:List Int) (hl:l.length<2^63):bS 35 [vl vint l,vl vint m] (.bool (decide (l=m))):=by
 intro S;rw [<-eqF_dec];generalize hp:(fun x y:Int=>decide (x=y))=p
 by_cases hlm:l.length=m.length
 ·have hlm':(l.length:Int)=(m.length:Int):=by omega
  refine QB (c:=jc Tryz.f35) Tryz.func35 Tryz.ntmps35 fun hwf=>?_
  refine bt hlm hlm' ?_
  refine QT ?_;refine jd [0,1,5] rfl (fun c σ S' => ∃ (k:Nat),k<=l.length/\c=l.length-k/\eqF p (l.drop k) (m.drop k)=eqF p l m/\σ=[(0,vl vint l),(1,vl vint m),(5,vnat k)]/\S'=St S [] []) l.length ?_ ?_
  ·exact ⟨0,by omega,rfl,rfl,by simp [Fr.only],rfl⟩
  ·rintro c σ T ⟨k,hk,rfl,hd,rfl,rfl⟩
   by_cases hkt:k<l.length
   ·have hkm:k<m.length:=by omega
    have hw:=jg hkt hl;have hst:eqF p (l.drop k) (m.drop k)=(p l[k] m[k]&&eqF p (l.drop (k+1)) (m.drop (k+1))):=by rw [am hkt,am hkm,eqF]
    obtain ⟨x,hx⟩ : ∃ x,l[k]=x:=⟨_,rfl⟩
    obtain ⟨y,hy⟩ : ∃ y,m[k]=y:=⟨_,rfl⟩
    rw [hx,hy] at hst
    by_cases hxy:x=y
    ·rw [show p x y=true by rw [<-hp]; simp [hxy]] at hst
     refine bJ hkt hkm hx hy hxy ?_
     show js _ _ _ _ _ _ _;exact again ⟨ao hkt (aY k),k+1,hkt,rfl,by rw [<-hd,hst]; rfl,by simp [Fr.only,hw],rfl⟩
    ·rw [show p x y=false by rw [<-hp]; simp [hxy]] at hst
     refine bJ hkt hkm hx hy hxy ?_
     exact ja hwf (by rw [<-hd,hst]; rfl) rfl
   ·have e:l.drop k=[]:=by rw [aH]; omega
    have e':m.drop k=[]:=by rw [aH]; omega
    rw [e,e'] at hd;have hkm : ¬ k<m.length:=by omega
    refine bt hkt hkm ?_
    exact ja hwf (by rw [<-hd]; rfl) rfl
 ·have hlm' : ¬ (l.length:Int)=(m.length:Int):=by omega
  have e:eqF p l m=false:=eqF_len hlm;rw [e];refine QB (c:=jc Tryz.f35) Tryz.func35 Tryz.ntmps35 fun hwf=>?_
  refine bt hlm hlm' ?_
  exact bN
theorem SameSig_v (a b:Ss.Sig) (h1:a.inn.length<2^63) (h2:a.out.length<2^63):bS 34 [jm a,jm b] (.bool (decide (a=b))):=by
 intro S;obtain ⟨a1,a2⟩:=a;obtain ⟨b1,b2⟩:=b;simp only [Ss.Sig.mk.injEq] at *
 refine QB (c:=jc Tryz.f34) Tryz.func34 Tryz.ntmps34 fun hwf=>?_
 refine bw ?_
 refine QP ?_;refine QL (jdb a1 b1 h1) ?_
 by_cases h:a1=b1
 ·refine bB h ?_;refine QL (jdb a2 b2 h2) ?_;refine bQ ?_
  exact ja hwf (by simp [h]) rfl
 ·refine bB h ?_;refine bR ?_
  exact ja hwf (by simp [h]) rfl
end Go.Vw
namespace Ss
end Ss
namespace Go.Vw
open Go.Proofs Go.RowKit
theorem fn_ghostD {S:Store} {fi fo ts:List Int} {bs:List Ss.Block} {cells:List V} {ot ob n m:Nat} {ids:List Nat} (h:OwL S (reps n blkD) cells (ju je bs) ids) (hb:S.get ob=some (6,cells)) (hn:bs.length=n) (ht:S.get ot=some (1,ts.map vint)) (hm:ts.length=m) (hd:(ot::ob::ids).Nodup) :
  Ghost (.agg [vl vint fi,vl vint fo, .slice ot 0 m, .slice ob 0 n]) S (.agg [vl vint fi,vl vint fo,vl vint ts,vl je bs]) (S.dels (ot::ob::ids)):=by
 subst hn;subst hm;refine Jn ?_;have hw:OwL S [.c, .c, .s (List.replicate 1 .c), .s blkD] [vl vint fi,vl vint fo, .slice ot 0 ts.length, .slice ob 0 bs.length] [vl vint fi,vl vint fo,vl vint ts,vl je bs] (ot::ob::ids):=by
  refine .c rfl (.c rfl (OwL.slice (enc:=vint) (fun _=>rfl) (fun _=>rfl) ts (by rw [qn]; exact ht) ?_));have:=OwL.s (S:=S) (o:=ob) (tys:=blkD) (cells:=cells) (ys:=bs.map je) (i:=ids) (j:=[]) hb (fun y hy=>(by
   obtain ⟨b,_,rfl⟩:=bk.1 hy;exact ⟨by rw [zj]; rfl,jaO b⟩)) (by rw [aI,zb]; exact h) .nil
  rw [aI,List.append_nil] at this;exact this
 exact hw.freeze hd S fun _ _=>rfl
end Go.Vw
namespace Ss
def emptyFn:Fn:=⟨⟨[],[]⟩,[],[]⟩
end Ss
namespace Go.Vw
open Go.Proofs Go.RowKit
theorem empty_ghost (S:Store):Ghost (.agg [.nils, .nils, .nils, .nils]) S (jI Ss.emptyFn) S:=by
 refine Ghost.agg_nl rfl fun i x y hx hy => ?_
 match i,hx,hy with
 | 0,hx,hy=>cases hx; cases hy; exact .inr ⟨rfl,rfl⟩
 | 1,hx,hy=>cases hx; cases hy; exact .inr ⟨rfl,rfl⟩
 | 2,hx,hy=>cases hx; cases hy; exact .inr ⟨rfl,rfl⟩
 | 3,hx,hy=>cases hx; cases hy; exact .inr ⟨rfl,rfl⟩
end Go.Vw
namespace Ss
structure ThinB (b c:Block):Prop where
 params:c.params=b.params
 term:c.term=b.term
 sub:c.code.Sublist b.code
 keep:c.code.filter (fun x=>decide (x.op≠257))=b.code.filter fun x=>decide (x.op≠257)
theorem ThinB.refl (b:Block):ThinB b b:=⟨rfl,rfl,List.Sublist.refl _,rfl⟩
theorem ThinB.trans {a b c:Block} (h:ThinB a b) (k:ThinB b c):ThinB a c:=⟨k.params.trans h.params,k.term.trans h.term,k.sub.trans h.sub,k.keep.trans h.keep⟩
def ThinL (l m:List Block):Prop:=m.length=l.length /\ ∀ (i:Nat) (b c:Block),l[i]? = some b->m[i]? = some c->ThinB b c
theorem ThinL.refl (l:List Block):ThinL l l:=⟨rfl,fun i b c h1 h2=>by rw [h1] at h2; cases h2; exact .refl b⟩
theorem ThinL.trans {l m n:List Block} (h:ThinL l m) (k:ThinL m n):ThinL l n:=by
 refine ⟨k.1.trans h.1,fun i b c h1 h2 => ?_⟩;have hi:i<m.length:=by rw [h.1]; exact (ae.1 h1).1
 exact (h.2 i b m[i] h1 (ac hi)).trans (k.2 i m[i] c (ac hi) h2)
inductive Drop:List Ins->List Ins->Prop
 | nil:Drop [] []
 | keep (x:Ins) {l m:List Ins} (h:Drop l m):Drop (x::l) (x::m)
 | drop (x:Ins) {l m:List Ins} (o:x.op=257) (h:Drop l m):Drop (x::l) m
theorem Drop.refl : ∀ l:List Ins,Drop l l
 | [] => .nil
 | x::l => .keep x (Drop.refl l)
theorem Drop.trans {a b c:List Ins} (h:Drop a b):Drop b c->Drop a c:=by
 induction h generalizing c with
 | nil=>exact fun k=>k
 | keep x h ih =>
  intro k
  cases k with
  | keep _ k=>exact .keep x (ih k)
  | drop _ o k=>exact .drop x o (ih k)
 | drop x o h ih=>exact fun k => .drop x o (ih k)
theorem Drop.pos {l m:List Ins} (h:Drop l m) : ∃ φ:Nat->Nat,(∀ k k',k<=k'->φ k<=φ k')/\(∀ k x,l[k]? = some x->x.op≠257->m[φ k]? = some x /\ ∀ k',k<k'->φ k<φ k')/\(∀ j y,m[j]? = some y -> ∃ k,l[k]? = some y/\φ k=j)/\φ l.length=m.length:=by
 induction h with
 | nil=>exact ⟨fun _=>0,fun _ _ _=>bf _,by simp,by simp,rfl⟩
 | @keep x l m h ih =>
  obtain ⟨φ,h1,h2,h3,h4⟩:=ih;refine ⟨fun k=>match k with | 0=>0 | k+1=>φ k+1,fun k k' hk => ?_,fun k y hk ho => ?_,fun j y hj => ?_,by simp [h4]⟩
  ·cases k with
   | zero=>simp
   | succ k=>cases k' with
    | zero=>omega
    | succ k'=>have:=h1 k k' (by omega); simp only; omega
  ·cases k with
   | zero=>exact ⟨by simpa using hk,fun k' hk'=>by cases k' with | zero=>omega | succ k'=>simp⟩
   | succ k =>
    obtain ⟨g1,g2⟩:=h2 k y (by simpa using hk) ho;exact ⟨by simpa using g1,fun k' hk'=>by cases k' with | zero=>omega | succ k'=>have:=g2 k' (by omega); simp only; omega⟩
  ·cases j with
   | zero=>exact ⟨0,by simpa using hj,rfl⟩
   | succ j =>
    obtain ⟨k,e1,e2⟩:=h3 j y (by simpa using hj);exact ⟨k+1,by simpa using e1,by simp [e2]⟩
 | @drop x l m o h ih =>
  obtain ⟨φ,h1,h2,h3,h4⟩:=ih;refine ⟨fun k=>match k with | 0=>0 | k+1=>φ k,fun k k' hk => ?_,fun k y hk ho => ?_,fun j y hj => ?_,by simp [h4]⟩
  ·cases k with
   | zero=>simp
   | succ k=>cases k' with
    | zero=>omega
    | succ k'=>exact h1 k k' (by omega)
  ·cases k with
   | zero =>
    simp only [aK,ay] at hk;subst hk; exact absurd o ho
   | succ k =>
    obtain ⟨g1,g2⟩:=h2 k y (by simpa using hk) ho;exact ⟨g1,fun k' hk'=>by cases k' with | zero=>omega | succ k'=>exact g2 k' (by omega)⟩
  ·obtain ⟨k,e1,e2⟩:=h3 j y hj;exact ⟨k+1,by simpa using e1,e2⟩
theorem Drop.outs {l m:List Ins} (h:Drop l m) (ho : ∀ x∈l,x.op=257->x.outs=[]):zC m=zC l:=by
 induction h with
 | nil=>rfl
 | @keep x l m h ih=>simp only [zC,List.flatMap_cons] at ih ⊢; rw [ih fun y hy=>ho y (by simp [hy])]
 | @drop x l m o h ih =>
  simp only [zC,List.flatMap_cons] at ih ⊢;rw [ih fun y hy=>ho y (by simp [hy]),ho x (by simp) o,List.nil_append]
theorem put_mk {block pos:Int} : ∀ {l:List Int} {ds:List Def},(∀ v∈l,0<=v/\v<ds.length)->l.Nodup->(∀ v∈l,(dAt ds v).made=false) -> ∃ d,put block pos ds l=some d
 | [],ds,_,_,_=>⟨ds,rfl⟩
 | v::l,ds,h1,h2,h3=>by
  obtain ⟨a1,a2⟩:=h1 v (by simp);obtain ⟨n1,n2⟩:=List.nodup_cons.1 h2;have hm:=h3 v (by simp);have hm':(ds.getD v.toNat default).made=false:=hm;simp only [put];rw [if_neg (by rw [hm']; simp; omega)];refine put_mk (fun w hw=>by rw [List.length_set]; exact h1 w (by simp [hw])) n2 fun w hw => ?_
  have hne:w≠v:=fun e=>n1 (e▸hw)
  rw [jcV a1 a2 (h1 w (by simp [hw])).1,if_neg hne];exact h3 w (by simp [hw])
theorem jbH {i:Int} : ∀ {l:List Ins} {k:Nat} {ds:List Def},(∀ v∈zC l,0<=v/\v<ds.length)->(zC l).Nodup->(∀ v∈zC l,(dAt ds v).made=false) -> ∃ d,putCode i k ds l=some d
 | [],k,ds,_,_,_=>⟨ds,rfl⟩
 | x::l,k,ds,h1,h2,h3=>by
  have e:zC (x::l)=x.outs++zC l:=rfl;rw [e] at h1 h2 h3;obtain ⟨n1,n2,n3⟩:=List.nodup_append.1 h2;obtain ⟨d,hd⟩:=put_mk (block:=i) (pos:=k) (fun v hv=>h1 v (by simp [hv])) n1 (fun v hv=>h3 v (by simp [hv]));have hp:=(KM hd).1;obtain ⟨d',hd'⟩:=jbH (i:=i) (k:=k+1) (l:=l) (ds:=d) (fun v hv=>by rw [Ys hd]; exact h1 v (by simp [hv])) n2 (fun v hv=>by
   rw [hp.keep v (h1 v (by simp [hv])).1 (fun hm=>n3 v hm v hv rfl)]; exact h3 v (by simp [hv]))
  exact ⟨d',by rw [putCode,hd]; exact hd'⟩
theorem YY : ∀ {l:List Block} {i:Nat} {ds:List Def},(∀ v∈allL l,0<=v/\v<ds.length)->(allL l).Nodup->(∀ v∈allL l,(dAt ds v).made=false) -> ∃ d,putBlocks i ds l=some d
 | [],i,ds,_,_,_=>⟨ds,rfl⟩
 | b::l,i,ds,h1,h2,h3=>by
  have e:allL (b::l)=(b.params++zC b.code)++allL l:=rfl;rw [e] at h1 h2 h3;obtain ⟨n0,n2,n3⟩:=List.nodup_append.1 h2;obtain ⟨n1,n4,n5⟩:=List.nodup_append.1 n0;obtain ⟨d,hd⟩:=put_mk (block:=i) (pos := -1) (fun v hv=>h1 v (by simp [hv])) n1 (fun v hv=>h3 v (by simp [hv]));have hp:=(KM hd).1;obtain ⟨d1,hd1⟩:=jbH (i:=i) (k:=0) (l:=b.code) (ds:=d) (fun v hv=>by rw [Ys hd]; exact h1 v (by simp [hv])) n4 (fun v hv=>by
   rw [hp.keep v (h1 v (by simp [hv])).1 (fun hm=>n5 v hm v hv rfl)]; exact h3 v (by simp [hv]))
  have hp1:=(Jt hd1).1;obtain ⟨d2,hd2⟩:=YY (i:=i+1) (l:=l) (ds:=d1) (fun v hv=>by rw [putCode_len' hd1,Ys hd]; exact h1 v (by simp [hv])) n2 (fun v hv=>by
   have h0:=(h1 v (by simp [hv])).1;rw [hp1.keep v h0 (fun hm=>n3 v (by simp [hm]) v hv rfl),hp.keep v h0 (fun hm=>n3 v (by simp [hm]) v hv rfl)]; exact h3 v (by simp [hv]))
  exact ⟨d2,by rw [putBlocks,hd]; simp only [Option.bind_some]; rw [hd1]; exact hd2⟩
theorem Zh {e:Env} {f:Fn} {ds:List Def} {near:List Int} {i:Int} : ∀ {l:List Ins} {k:Nat},(∀ (j:Nat) (x:Ins),l[j]? = some x->insOk e f ds near i ((k+j:Nat):Int) x=true)->checkCode e f ds near i k l=true
 | [],k,_=>rfl
 | x::l,k,h=>by
  have h0:=h 0 x rfl;rw [Nat.add_zero] at h0;simp only [checkCode,af];refine ⟨h0,Zh fun j y hy => ?_⟩;have:=h (j+1) y (by simpa using hy);rw [show k+(j+1)=k+1+j by omega] at this;exact this
def DropL (l m:List Block):Prop:=m.length=l.length /\ ∀ (i:Nat) (b c:Block),l[i]? = some b->m[i]? = some c->c.params=b.params/\c.term=b.term/\Drop b.code c.code
theorem DropL.refl (l:List Block):DropL l l:=⟨rfl,fun i b c h1 h2=>by rw [h1] at h2; cases h2; exact ⟨rfl,rfl, .refl _⟩⟩
theorem DropL.trans {l m n:List Block} (h:DropL l m) (k:DropL m n):DropL l n:=by
 refine ⟨k.1.trans h.1,fun i b c h1 h2 => ?_⟩;have hi:i<m.length:=by rw [h.1]; exact (ae.1 h1).1
 obtain ⟨a1,a2,a3⟩:=h.2 i b m[i] h1 (ac hi);obtain ⟨b1,b2,b3⟩:=k.2 i m[i] c (ac hi) h2;exact ⟨b1.trans a1,b2.trans a2,a3.trans b3⟩
theorem DropL.map {α:Type} {l m:List Block} (h:DropL l m) (F:Block->α) (hF : ∀ b c:Block,b∈l->c.params=b.params->c.term=b.term->Drop b.code c.code->F c=F b):m.map F=l.map F:=by
 apply List.ext_getElem?
 intro i;rw [a8,a8]
 by_cases hi:i<l.length
 ·have hi2:i<m.length:=by rw [h.1]; exact hi
  rw [ac hi,ac hi2];obtain ⟨h1,h2,h3⟩:=h.2 i l[i] m[i] (ac hi) (ac hi2);simp only [bl,ay];exact hF _ _ (ah hi) h1 h2 h3
 ·rw [aJ (by rw [h.1]; omega),aJ (by omega)]
end Ss
