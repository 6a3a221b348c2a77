import Derived.Test.YtcpncecdegmliaaGreatC31
/- Part of the proof. -/
set_option linter.unusedVariables false
set_option linter.unusedSimpArgs false
set_option maxRecDepth 10000
set_option maxHeartbeats 8000000
namespace Go.Vw
open Go.Proofs Go.RowKit
attribute [-simp] List.map_set
theorem opIndex_sl {s:Nat} {S:Store} {k:IntKind} {o off len n:Nat} {c} (h:S.get o=some c) (hn:n<len):jD s S (.slice o off len) (.int k (n:Int))=some (.ptr o (off+n*s)):=by
 simp [jD,h,hn]
def Store.push (S:Store) (o:Nat) (cs:List V) (x:V):Store:=((S.add (1,[x])).del o).add (1,cs++[x])
def Store.push0 (S:Store) (x:V):Store:=(S.add (1,[x])).add (1,[x])
section
variable {S:Store} {o:Nat} {cs:List V} {x:V}
theorem push_new:(S.push o cs x).get (S.nx+1)=some (1,cs++[x]):=by simp [Store.push,Store.add,Store.del]
theorem push0_new:(S.push0 x).get (S.nx+1)=some (1,[x]):=by simp [Store.push0,Store.add]
theorem push_old {o':Nat} (h:o'<S.nx) (hn:o'≠o):(S.push o cs x).get o'=S.get o':=by
 have e1 : ¬ o'=S.nx+1:=by omega
 have e2 : ¬ o'=S.nx:=by omega
 simp [Store.push,Store.add,Store.del,e1,e2,hn]
theorem push0_old {o':Nat} (h:o'<S.nx):(S.push0 x).get o'=S.get o':=by
 have e1 : ¬ o'=S.nx+1:=by omega
 have e2 : ¬ o'=S.nx:=by omega
 simp [Store.push0,Store.add,e1,e2]
theorem Agree.push {S0:Store} (h:Agree S0 S) (ho:S0.nx≤o):Agree S0 (S.push o cs x):=((h.add _).del ho).add _
theorem Agree.push0 {S0:Store} (h:Agree S0 S):Agree S0 (S.push0 x):=(h.add _).add _
theorem jcc {b len:Nat} (h:S.get o=some (1,cs)) (ho:o<S.nx) (hl:cs.length=len) (hb:(len+1)*b≤140737488355328) (hb1:len+1≤140737488355328) :
  jN 1 b (S.add (1,[x])) (.slice o 0 len) (.slice S.nx 0 1)=some (.slice (S.nx+1) 0 (len+1),S.push o cs x):=by
 have:o≠S.nx:=by omega
 subst hl;simp [jN,jL,Store.add,Store.push,this,h,hb,hb1,Store.del]
 rfl
theorem jaJ {b:Nat} (hb:b≤140737488355328) :
  jN 1 b (S.add (1,[x])) .nils (.slice S.nx 0 1)=some (.slice (S.nx+1) 0 1,S.push0 x):=by
 simp [jN,jL,Store.add,Store.push0,hb]
end
namespace G
def DoneAt (S:Store) (b ow om:Nat) (dv:V) (done:List Nat):Prop :=
 (dv = .nils∧done=[]) ∨ ∃ od,dv = .slice od 0 done.length∧S.get od=some (1,done.map vnat)∧od≠ow∧od≠om∧b≤od∧od<S.nx
def WAt (S:Store) (g:List (List Nat)) (b ow om:Nat) (s:WS):Prop :=
 s.1.length=g.length∧ow≠om∧b≤ow∧b≤om∧ow<S.nx∧om<S.nx∧S.get om=some (1,s.1.map V.bool) ∧
 ∃ dv,S.get ow=some (3,[vl (vl vnat) g, .slice om 0 g.length,dv])∧DoneAt S b ow om dv s.2
end G
theorem get_upd (S:Store) (o:Nat) (c:Nat × List V):(S.upd o c).get o=some c:=by simp [Store.upd]
theorem Kx (S:Store) {o o':Nat} (c:Nat × List V) (h:o'≠o):(S.upd o c).get o'=S.get o':=by simp [Store.upd,h]
theorem Walk_v (g:List (List Nat)) (hg:G.Ok g) (S0:Store) (ow om:Nat) : ∀ (f n:Nat) (s s':G.WS) (S:Store),n<g.length→G.walk g f n s=some s'→s'.2.length≤2^30→Agree S0 S→G.WAt S g S0.nx ow om s →
  VCalls Tryz.prog 70 [.ptr ow 0,vnat n] S (fun r S'=>r = .tuple []∧Agree S0 S'∧G.WAt S' g S0.nx ow om s')
 | 0,n,s,s',S,hn,hw,hb,hag,hW=>by cases hw
 | f+1,n,s,s',S,hn,hw,hb,hag,hW=>by
  rw [G.walk_succ] at hw;obtain ⟨h1,h2,h3,h4,l1,l2,h5,dv,h6,h7⟩:=hW;refine qu (c:=jc Tryz.f70) Tryz.func70 rfl rfl (by simp [Tryz.ntmps70]) ?_;rw [Tryz.ntmps70];have hn1:n<s.1.length:=by omega
  refine QT ?_;refine qd rfl (by conv=>lhs; reduce) (by conv=>lhs; simp [-jU, -jM,h6,jE,jD,h5,hn,hn1]) ?_;refine QN ?_;have hag1:Agree S0 (S.upd om (1,(List.map V.bool s.1).set n (V.bool true))):=hag.upd h4 _;have hW1:G.WAt (S.upd om (1,(List.map V.bool s.1).set n (V.bool true))) g S0.nx ow om (s.1.set n true,s.2):=by
   refine ⟨by simpa using h1,h2,h3,h4,l1,l2,by rw [get_upd, ←List.map_set],dv,by rw [Kx _ _ h2]; exact h6, ?_⟩;rcases h7 with h7 | ⟨od,k1,k2,k3,k4,k5,k6⟩
   ·exact .inl h7
   ·exact .inr ⟨od,k1,by rw [Kx _ _ k4]; exact k2,k3,k4,k5,k6⟩
  generalize S.upd om (1,(List.map V.bool s.1).set n (V.bool true))=S1 at hag1 hW1 ⊢;have hgn:g.getD n []=g[n]:=by simp [hn]
  rw [hgn] at hw;obtain ⟨sk,hk,rfl⟩:=Option.map_eq_some_iff.1 hw;refine QT ?_;refine qd rfl (by conv=>lhs; reduce) (by conv=>lhs; simp [-jU, -jM]) ?_;refine QN ?_;refine QT ?_;refine jR 0 rfl rfl ?_;refine QT ?_;refine jd [0,1,4] rfl (fun c σ S' => ∃ (k:Nat) (t:G.WS),k≤g[n].length∧c=g[n].length-k∧G.kids g f (g[n].drop k) t=some sk∧Agree S0 S'∧G.WAt S' g S0.nx ow om t∧σ=[(0, .ptr ow 0),(1,vnat n),(4,vnat k)]) g[n].length ?_ ?_
  ·exact ⟨0,_,by omega,rfl,hk,hag1,hW1,by simp [Fr.only,Fr.look,vnat,vint]⟩
  ·rintro c σ S' ⟨k,t,hkl,rfl,hd,hag2,hW2,rfl⟩;obtain ⟨g1,g2,g3,g4,l3,l4,g5,du,g6,g7⟩:=hW2
   by_cases hk6:k<g[n].length
   ·have h7:(k:Int)<(g[n].length:Int):=by omega
    have hst:G.kids g f (g[n].drop k) t=if t.1.getD g[n][k] false then G.kids g f (g[n].drop (k+1)) t else (G.walk g f g[n][k] t).bind (G.kids g f (g[n].drop (k+1))):=by
     rw [List.drop_eq_getElem_cons hk6,G.kids_cons]
    rw [hst] at hd;have hkn:g[n][k]<g.length:=hg.elt _ (List.getElem_mem hn) _ (List.getElem_mem hk6);have hkt:g[n][k]<t.1.length:=by omega
    have hr:=hg.row _ (List.getElem_mem hn);have hw1:IntKind.i64.wrap ((k:Int)+1)=(k:Int)+1:=wrap_i64 (by omega) (by omega);have hgd:t.1.getD g[n][k] false=t.1[g[n][k]]:=by simp [hkt]
    rw [hgd] at hd;refine QT ?_;refine qd rfl (by conv=>lhs; reduce) (by conv=>lhs; simp [-jU, -jM,g6,jE,jS,jz,hn,h7]) ?_;refine QN ?_;refine QT ?_;refine jI rfl rfl rfl ?_;refine QT ?_;refine jG rfl ?_;refine QT ?_;refine jR 1 rfl rfl ?_;have ix:=opIndex_sl (s:=1) (k := .i64) (off:=0) g5 hkn;refine QT ?_;refine JZ rfl (by kernel_rfl) (by conv=>lhs; reduce) (by conv=>lhs; reduce) (by kernel_rfl) (by conv=>lhs; simp [-jU, -jM,g6,g5,jE,jS,ix,hn,hk6,hkt]) ?_;refine QN ?_
    cases hm:t.1[g[n][k]]
    ·rw [hm] at hd;obtain ⟨u,e1,e2⟩:=Option.bind_eq_some_iff.1 hd;refine jI rfl rfl (by simp [ev,Fr.look,hm]) ?_;refine QT ?_;refine qd rfl (by conv=>lhs; reduce) (by conv=>lhs; simp [-jU, -jM,g6,jE,jS,hn,hk6]) ?_;refine jO rfl (Walk_v g hg S0 ow om f g[n][k] t u S' hkn e1 ?_ hag2 ⟨g1,g2,g3,g4,l3,l4,g5,du,g6,g7⟩) ?_
     ·have:=(G.kids_len (G.walk_len g f) _ _ _ e2).1;simp at hb; omega
     ·rintro X S2 ⟨rfl,hag3,hW3⟩;refine Wa (by conv=>lhs; simp [-jU, -jM]) ?_;refine QN ?_;refine QT ?_;refine qd rfl (by conv=>lhs; reduce) (by conv=>lhs; simp [-jU, -jM,hw1]) ?_;refine QN ?_;exact again ⟨Nat.sub_lt_sub_left (by omega) (Nat.lt_succ_self k),k+1,u,by omega,rfl,e2,hag3,hW3,by simp [Fr.only,Fr.look,vnat,vint]⟩
    ·rw [hm] at hd;refine jH rfl rfl (by simp [ev,Fr.look,hm]) ?_;refine QT ?_;refine jG rfl ?_;refine QT ?_;refine qd rfl (by conv=>lhs; reduce) (by conv=>lhs; simp [-jU, -jM,hw1]) ?_;refine QN ?_;exact again ⟨Nat.sub_lt_sub_left (by omega) (Nat.lt_succ_self k),k+1,t,by omega,rfl,hd,hag2,⟨g1,g2,g3,g4,l3,l4,g5,du,g6,g7⟩,by simp [Fr.only,Fr.look,vnat,vint]⟩
   ·have h7 : ¬ (k:Int)<(g[n].length:Int):=by omega
    refine QT ?_;refine qd rfl (by conv=>lhs; reduce) (by conv=>lhs; simp [-jU, -jM,g6,jE,jS,jz,hn,h7]) ?_;refine QN ?_;refine QT ?_;refine jH rfl rfl rfl ?_;refine QT ?_;refine jW 0 rfl rfl ?_;have hz:g[n].drop k=[]:=by rw [List.drop_eq_nil_iff]; omega
    rw [hz,G.kids_nil] at hd
    cases hd
    rcases g7 with ⟨rfl,hnil⟩ | ⟨od,rfl,k2,k3,k4,k5,k6⟩
    ·have ap:=jaJ (S:=S') (x := .int .i64 (n:Int)) (b:=8) (by omega);have gp:(S'.push0 (.int .i64 (n:Int))).get ow=some (3,[vl (vl vnat) g,V.slice om 0 g.length,V.nils]):=(push0_old l3).trans g6;refine QT ?_;refine qd rfl (by conv=>lhs; reduce) (by conv=>lhs; simp [-jU, -jM,g6,jE,qh,rep0,jT,ap,gp]) ?_;refine QN ?_;refine ⟨rfl,hag2.push0.upd g3 _,g1,g2,g3,g4,Nat.lt_add_right 2 l3,Nat.lt_add_right 2 l4, ?_,_,get_upd _ _ _, .inr ⟨S'.nx+1, ?_, ?_, ?_, ?_, ?_, ?_⟩⟩
     ·rw [Kx _ _ (Ne.symm g2),push0_old l4]; exact g5
     ·simp [hnil]
     ·rw [Kx _ _ (by omega),push0_new]; simp [hnil,vnat]
     ·omega
     ·omega
     ·omega
     ·show S'.nx+1<S'.nx+2; omega
    ·have hb2:sk.2.length+1≤2^30:=by simpa using hb
     have ap:=jcc (S:=S') (x := .int .i64 (n:Int)) (b:=8) k2 k6 (by simp:_=sk.2.length) (by omega) (by omega);have gp:(S'.push od (List.map vnat sk.2) (.int .i64 (n:Int))).get ow=some (3,[vl (vl vnat) g,V.slice om 0 g.length,V.slice od 0 sk.2.length]):=(push_old l3 (Ne.symm k3)).trans g6;refine QT ?_;refine qd rfl (by conv=>lhs; reduce) (by conv=>lhs; simp [-jU, -jM,g6,jE,qh,rep0,jT,ap,gp]) ?_;refine QN ?_;refine ⟨rfl,(hag2.push k5).upd g3 _,g1,g2,g3,g4,Nat.lt_add_right 2 l3,Nat.lt_add_right 2 l4, ?_,_,get_upd _ _ _, .inr ⟨S'.nx+1, ?_, ?_, ?_, ?_, ?_, ?_⟩⟩
     ·rw [Kx _ _ (Ne.symm g2),push_old l4 (Ne.symm k4)]; exact g5
     ·simp
     ·rw [Kx _ _ (by omega),push_new]; simp [vnat]
     ·omega
     ·omega
     ·omega
     ·show S'.nx+1<S'.nx+2; omega
end Go.Vw
namespace Go.Vw
open Go.Proofs Go.RowKit
attribute [-simp] List.map_set
theorem jaB (g:List (List Nat)) (hg:G.Ok g) (a:Option Nat) (ha : ∀ n,a=some n→n<g.length):VPure Tryz.prog 43 [vl (vl vnat) g,vint (a.elim (-1) Int.ofNat)] (vl V.bool (G.without g a)):=by
 intro S;refine QB (c:=jc Tryz.f43) Tryz.func43 Tryz.ntmps43 fun hwf=>?_
 have hm256:=hg.max;have hp:0<g.length:=hg.pos;have hb1:g.length*1≤140737488355328:=by omega
 have hb0:g.length≤140737488355328:=by omega
 have wat : ∀ m:List Bool,m.length=g.length→G.WAt (St S [] [some (1,m.map V.bool),some (3,[vl (vl vnat) g, .slice (lid S.nx 0) 0 g.length, .nils])]) g S.nx (lid S.nx 1) (lid S.nx 0) (m,[]):=by
  intro m hm;refine ⟨hm,by simp [lid],by simp [lid],by simp [lid],by rw [jP]; simp [lid],by rw [jP]; simp [lid],by simp [ju], .nils,by simp [ju], .inl ⟨rfl,rfl⟩⟩
 cases a with
 | none =>
  obtain ⟨t,w1,w2,w3,w4⟩:=G.metFrom_ends hg (m:=List.replicate g.length false) (by simp) (G.rep_getD _ _);have hX:G.without g none=t.1:=w2;have e1:(-1:Int) = -1:=rfl;simp only [Option.elim];have hrep:List.replicate g.length (V.bool false)=(List.replicate g.length false).map V.bool:=by simp
  repeat first|refine QG ?_|refine QY ?_ (r:=by conv=>lhs;simp[QV,hb1,hb0])
  refine QT ?_;refine QP ?_;refine jO rfl (Walk_v g hg S (lid S.nx 1) (lid S.nx 0) g.length 0 _ t _ hp w1 (by omega) zu (by rw [hrep]; exact wat _ (by simp))) ?_;rintro X T ⟨rfl,hag,hW⟩;have hom:=hW.2.2.2.2.2.2.1;obtain ⟨dv,how,_⟩:=hW.2.2.2.2.2.2.2;have hol:=hW.2.2.2.2.2.1;refine QW ?_
  repeat first|refine QG ?_|refine QY ?_ (r:=by conv=>lhs;simp[QV,how])
  have hfr:=Ghost.freeze1 (len:=g.length) hom (by simp [V.closed1]) (by simp [w4]);rw [hX];exact qA hwf (hfr.toB _) (hag.del (by simp [lid])) rfl
 | some a =>
  have hal:=ha a rfl;simp only [Option.elim];have hrep:List.replicate g.length (V.bool false)=(List.replicate g.length false).map V.bool:=by simp
  by_cases h0:a=0
  ·subst h0;have hX:G.without g (some 0)=List.replicate g.length false:=by simp [G.without]
   repeat first|refine QG ?_|refine QY ?_ (r:=by conv=>lhs;simp[QV,hb1,hb0,hal])
   have hfr:=frz1 (B:=S) (u:=[]) (l:=[some (1,(List.replicate g.length false).map V.bool),some (3,[vl (vl vnat) g,V.slice (lid S.nx 0) 0 g.length,V.nils])]) (k:=0) (len:=g.length) (cells:=(List.replicate g.length false).map V.bool) (by simp) rfl (by simp [V.closed1]) (by simp);rw [hX];rw [hrep];exact jf hwf (hfr.toB _) rfl
  ·have hz:((List.replicate g.length false).set a true).getD 0 false=false:=by rw [G.getD_set_other h0]; exact G.rep_getD _ _
   obtain ⟨t,w1,w2,w3,w4⟩:=G.metFrom_ends hg (m:=(List.replicate g.length false).set a true) (by simp) hz;have hX:G.without g (some a)=t.1.set a false:=by simp [G.without,h0,w2]
   have ha0 : ¬ (a:Int)=0:=by omega
   have hat:a<t.1.length:=by omega
   repeat first|refine QG ?_|refine QY ?_ (r:=by conv=>lhs;simp[QV,hb1,hb0,hal,ha0,h0])
   refine QT ?_;refine QP ?_;refine jO rfl (Walk_v g hg S (lid S.nx 1) (lid S.nx 0) g.length 0 _ t _ hp w1 (by omega) zu (by rw [hrep, ←List.map_set]; exact wat _ (by simp))) ?_;rintro X T ⟨rfl,hag,hW⟩;have hom:=hW.2.2.2.2.2.2.1;obtain ⟨dv,how,_⟩:=hW.2.2.2.2.2.2.2;have hol:=hW.2.2.2.2.2.1;refine QW ?_;have hne : ¬ lid S.nx 1=lid S.nx 0:=by simp [lid]
   repeat first|refine QG ?_|refine QY ?_ (r:=by conv=>lhs;simp[QV,how,hom,hal,hat,jX,zL,hne])
   have hfr:=Ghost.freeze1 (S:=T.upd (lid S.nx 0) (1,(t.1.set a false).map V.bool)) (o:=lid S.nx 0) (cells:=(t.1.set a false).map V.bool) (len:=g.length) zL (jq V.bool (fun _=>rfl) _) (by simp [w4]);rw [hX];exact qA hwf (hfr.toB _) ((hag.upd (by simp [lid]) _).del (by simp [lid])) rfl
def jV (g:List (List Nat)) (a:Nat):List V:=((List.range a).map (G.tableRow g)).map (vl V.bool)++List.replicate (g.length-a) .nils
theorem tabCells_set {g:List (List Nat)} {a:Nat} (h:a<g.length) (x:V):(jV g a).set a x=((List.range a).map (G.tableRow g)).map (vl V.bool)++x::List.replicate (g.length-(a+1)) .nils:=by
 have e:g.length-a=(g.length-(a+1))+1:=by omega
 rw [jV,e,List.replicate_succ,List.set_append_right _ _ (by simp)];simp
theorem Wb {g:List (List Nat)} {a:Nat} (h:a<g.length):(jV g a).set a (vl V.bool (G.tableRow g a))=jV g (a+1):=by
 rw [tabCells_set h,jV,List.range_succ];simp
theorem YZ (f:Nat→Nat) (g:List (List Nat)) (a:Nat):V.renL f (jV g a)=jV g a:=by
 simp only [jV,ZF,renL_vl];rw [qe,List.map_replicate,ren_nils]
theorem Ze (p:Nat→Bool) (g:List (List Nat)) (a:Nat):V.idsL p (jV g a)=true:=by
 simp only [jV,jaf,idsL_vl,Bool.true_and];rw [qm]; simp [ids_nils]
theorem tabCells_len {g:List (List Nat)} {a:Nat} (h:a≤g.length):(jV g a).length=g.length:=by simp [jV]; omega
def fill (f:Nat→Bool) (n b:Nat):List Bool:=(List.range b).map f++List.replicate (n-b) false
theorem fill_set {f:Nat→Bool} {n b:Nat} (h:b<n):(fill f n b).set b (f b)=fill f n (b+1):=by
 have e:n-b=(n-(b+1))+1:=by omega
 rw [fill,e,List.replicate_succ,List.set_append_right _ _ (by simp),fill,List.range_succ];simp
theorem fill_len {f:Nat→Bool} {n b:Nat} (h:b≤n):(fill f n b).length=n:=by simp [fill]; omega
theorem Table_v (g:List (List Nat)) (hg:G.Ok g):VPure Tryz.prog 71 [vl (vl vnat) g] (vl (vl V.bool) (G.table g)):=by
 intro S;refine QB (c:=jc Tryz.f71) Tryz.func71 Tryz.ntmps71 fun hwf=>?_
 have hm256:=hg.max;have hb24:g.length*24≤140737488355328:=by omega
 have hb1:g.length*1≤140737488355328:=by omega
 have hb0:g.length≤140737488355328:=by omega
 generalize hall:G.without g none=all;have hal:all.length=g.length:=by rw [←hall]; exact G.without_length hg none
 repeat first|refine QG ?_|refine QY ?_
 refine QT ?_;refine QP ?_;refine jb rfl (hall▸jaB g hg none (by simp)) ?_;refine QW ?_
 repeat first|refine QG ?_|refine QY ?_ (r:=by conv=>lhs;simp[QV,hb24,hb0])
 refine QT ?_;refine jd [0,3,4,5] rfl (fun c σ S' => ∃ (a:Nat),a≤g.length∧c=g.length-a∧σ=[(0,vl (vl vnat) g),(3,vl V.bool all),(4, .slice (lid S.nx 0) 0 g.length),(5,vnat a)]∧S'=St S [] [some (1,jV g a)]) g.length ?_ ?_
 ·exact ⟨0,by omega,rfl,by simp [Fr.only,Fr.look,vnat],by simp [jV]⟩
 ·rintro c σ T ⟨a,ha,rfl,rfl,rfl⟩
  by_cases hlt:a<g.length
  ·have hw1:IntKind.i64.wrap ((a:Int)+1)=(a:Int)+1:=wrap_i64 (by omega) (by omega);have htl:=tabCells_len ha;have haa:a<all.length:=by omega
   have hat:a<(jV g a).length:=by omega
   obtain ⟨b,hb⟩ : ∃ b,all[a]=b:=⟨_,rfl⟩
   have hbd:all.getD a false=b:=by simp [haa,hb]
   cases b with
   | false =>
    have hrow:G.tableRow g a=List.replicate g.length false:=by simp only [G.tableRow,hall,hbd]; simp
    repeat first|refine QG ?_|refine QY ?_ (r:=by conv=>lhs;simp[QV,hb1,hb0,hlt,hat,haa])
    refine jI rfl rfl (by simp [ev,Fr.look,hb]) ?_;refine QT ?_;refine jW 1 rfl rfl ?_
    apply jF
    ·exact Reach.frzCell (k:=0) (j:=1) (i:=a) (n:=g.length) (cells':=(List.replicate g.length false).map V.bool) (by omega) (by simp) (by simp) rfl (by simp [hat]) (by simp) (jq V.bool (fun _=>rfl) _) (by simp)
    have e:=Wb hlt;rw [hrow] at e;simp only [List.set_cons_succ,List.set_cons_zero,List.set_set];rw [show V.list ((List.replicate g.length false).map V.bool)=vl V.bool (List.replicate g.length false) from rfl,e]
    repeat first|refine QG ?_|refine QY ?_ (r:=by conv=>lhs;simp[QV,hw1])
    refine QA [0] (h2:=by simp [YZ,Ze]) (hl:=by conv=>lhs; simp [YZ,Ze]) (h:=⟨?_,a+1,hlt,rfl,by simp [vnat],rfl⟩);omega
   | true =>
    generalize hl:G.without g (some a)=l;have hll:l.length=g.length:=by rw [←hl]; exact G.without_length hg _
    obtain ⟨f,hf⟩ : ∃ f:Nat→Bool,f=fun b=>all.getD b false && !(l.getD b false):=⟨_,rfl⟩
    have hrow:G.tableRow g a=(List.range g.length).map f:=by rw [hf]; simp only [G.tableRow,hall,hbd,hl]; simp
    repeat first|refine QG ?_|refine QY ?_ (r:=by conv=>lhs;simp[QV,hb1,hb0,hlt,hat,haa,hb])
    refine QT ?_;refine QP ?_;refine jb rfl (hl▸jaB g hg (some a) (by simpa using hlt)) ?_;refine QW ?_
    repeat first|refine QG ?_|refine QY ?_
    refine QT ?_;refine jd [0,3,4,5,6,7] rfl (fun c σ S' => ∃ (b:Nat),b≤g.length∧c=g.length-b∧σ=[(0,vl (vl vnat) g),(3,vl V.bool all),(4, .slice (lid S.nx 0) 0 g.length),(5,vnat a),(6,vl V.bool l),(7,vnat b)]∧S'=St S [] [some (1,(jV g a).set a (.slice (lid S.nx 1) 0 g.length)),some (1,(fill f g.length b).map V.bool)]) g.length ?_ ?_
    ·exact ⟨0,by omega,rfl,by simp [Fr.only,Fr.look,vnat],by simp [fill]⟩
    ·rintro c σ T ⟨b,hbl,rfl,rfl,rfl⟩
     by_cases hbt:b<g.length
     ·have hw2:IntKind.i64.wrap ((b:Int)+1)=(b:Int)+1:=wrap_i64 (by omega) (by omega);have hba:b<all.length:=by omega
      have hbll:b<l.length:=by omega
      obtain ⟨x,hx⟩ : ∃ x,all[b]=x:=⟨_,rfl⟩
      have hfl:=fill_len (f:=f) hbl;have hbf:b<(fill f g.length b).length:=by omega
      have hset:=fill_set (f:=f) hbt;have hfb:f b=(x && !l[b]):=by rw [hf]; simp [hba,hbll,hx]
      rw [hfb] at hset
      cases x with
      | true =>
       repeat first|refine QG ?_|refine QY ?_ (r:=by conv=>lhs;simp[QV,hbt])
       refine QT ?_;refine QJ (St S [] [some (1,(jV g a).set a (.slice (lid S.nx 1) 0 g.length)),none]) (St S [] [some (1,(jV g a).set a (.slice (lid S.nx 1) 0 g.length)),some (1,(fill f g.length b).map V.bool)]) [] ?_ (r:=by conv=>lhs; simp [QV,hlt,hat,hbt,hba,hbll,hx,hbf]);refine QI ?_ (r:=by conv=>lhs;simp[QV,hbt,hbf]);refine QN ?_
       repeat first|refine QG ?_|refine QY ?_
       show jy _ _ _ _ _ _ _;exact again ⟨Nat.sub_lt_sub_left hbt (Nat.lt_succ_self b),b+1,hbt,rfl,by simp [Fr.only,Fr.look,vnat]; exact hw2,by rw [←hset]; simp⟩
      | false =>
       repeat first|refine QG ?_|refine QY ?_ (r:=by conv=>lhs;simp[QV,hbt])
       refine QT ?_;refine QJ (St S [] [some (1,(jV g a).set a (.slice (lid S.nx 1) 0 g.length)),none]) (St S [] [some (1,(jV g a).set a (.slice (lid S.nx 1) 0 g.length)),some (1,(fill f g.length b).map V.bool)]) [] ?_ (r:=by conv=>lhs; simp [QV,hlt,hat,hbt,hba,hbll,hx,hbf]);refine QI ?_ (r:=by conv=>lhs;simp[QV,hbt,hbf]);refine QN ?_
       repeat first|refine QG ?_|refine QY ?_
       show jy _ _ _ _ _ _ _;exact again ⟨Nat.sub_lt_sub_left hbt (Nat.lt_succ_self b),b+1,hbt,rfl,by simp [Fr.only,Fr.look,vnat]; exact hw2,by rw [←hset]; simp⟩
     ·have hbg:b=g.length:=by omega
      subst hbg;refine QT ?_;refine QY ?_ (r:=by conv=>lhs;simp[QV,hbt]);refine QT ?_;refine jH rfl rfl rfl ?_;refine QT ?_;refine jW 2 rfl rfl ?_
      apply jF
      ·exact Reach.frzCell (k:=0) (j:=1) (i:=a) (n:=g.length) (cells':=(G.tableRow g a).map V.bool) (by omega) (by simp) (by simp) rfl (by simp [hat]) (by rw [hrow]; simp [fill]) (jq V.bool (fun _=>rfl) _) (by simp [G.tableRow_length])
      have e:=Wb hlt;simp only [List.set_cons_succ,List.set_cons_zero,List.set_set];rw [show V.list ((G.tableRow g a).map V.bool)=vl V.bool (G.tableRow g a) from rfl,e]
      repeat first|refine QG ?_|refine QY ?_ (r:=by conv=>lhs;simp[QV,hw1])
      refine QA [0] (h2:=by simp [YZ,Ze]) (hl:=by conv=>lhs; simp [YZ,Ze]) (h:=⟨?_,a+1,hlt,rfl,by simp [vnat],rfl⟩);omega
  ·repeat first|refine QG ?_|refine QY ?_ (r:=by conv=>lhs;simp[QV,hlt])
   have hag:a=g.length:=by omega
   subst hag;have e:jV g g.length=(G.table g).map (vl V.bool):=by simp [jV,G.table]
   rw [e];exact jf hwf ((frz1 (by simp) (by rfl) (jq (vl V.bool) (fun _=>rfl) _) (by simp [G.table])).toB _) rfl
theorem RNearest_v (g:List (List Nat)) (hg:G.Ok g) (hr:VPure Tryz.prog 42 [vl (vl vnat) g] (.bool true)):VPure Tryz.prog 25 [vl (vl vnat) g] (.tuple [vl vint (G.rNear g),vint 0]):=by
 intro S;refine QB (c:=jc Tryz.f25) Tryz.func25 Tryz.ntmps25 fun hwf=>?_
 have hm256:=hg.max
 repeat first|refine QG ?_|refine QY ?_
 refine QT ?_;refine QP ?_;refine jb rfl (hr) ?_;refine QW ?_
 repeat first|refine QG ?_|refine QY ?_
 refine QT ?_;refine QP ?_;refine jb rfl (Table_v g hg) ?_;refine QW ?_;generalize ht:G.table g=t;have htl:t.length=g.length:=by rw [←ht]; simp [G.table]
 have hrl : ∀ a,a<g.length → ∃ r,t[a]? = some r∧r.length=g.length:=by
  intro a ha;refine ⟨G.tableRow g a,by rw [←ht]; simp [G.table,ha],G.tableRow_length g a⟩
 obtain ⟨f,hf⟩ : ∃ f:Nat→Int,f=fun b=>(G.bestTo t g.length b g.length).1:=⟨_,rfl⟩
 have hfin:G.rNear g=upTo f g.length:=by rw [hf]; simp only [G.rNear,ht,upTo]
 rw [hfin];refine QT ?_;refine QY ?_;refine zy 5 1 rfl (by conv=>lhs; simp [Fr.set]) ?_
 repeat first|refine QG ?_|refine QY ?_
 refine QT ?_;refine jd [0,4,5,6] rfl (fun c σ S' => ∃ (b:Nat),b≤g.length∧c=g.length-b∧σ=[(0,vl (vl vnat) g),(4,vl (vl V.bool) t),(5, .slice (lid S.nx 0) 0 b),(6,vnat b)]∧S'=St S [] [some (1,(upTo f b).map vint)]) g.length ?_ ?_
 ·exact ⟨0,by omega,rfl,by simp [Fr.only,Fr.look,vnat],by simp [upTo_zero]⟩
 ·rintro c σ T ⟨b,hb,rfl,rfl,rfl⟩
  by_cases hbt:b<g.length
  ·have hwb:IntKind.i64.wrap ((b:Int)+1)=(b:Int)+1:=wrap_i64 (by omega) (by omega)
   repeat first|refine QG ?_|refine QY ?_ (r:=by conv=>lhs;simp[QV,hbt])
   refine QT ?_;refine jd [0,4,5,6,7,8,9] rfl (fun c σ S' => ∃ (a:Nat),a≤g.length∧c=g.length-a∧σ=[(0,vl (vl vnat) g),(4,vl (vl V.bool) t),(5, .slice (lid S.nx 0) 0 b),(6,vnat b),(7,vint (G.bestTo t g.length b a).1),(8,vnat (G.bestTo t g.length b a).2),(9,vnat a)]∧S'=St S [] [some (1,(upTo f b).map vint)]) g.length ?_ ?_
   ·exact ⟨0,by omega,rfl,by simp [Fr.only,Fr.look,vnat,vint,G.bestTo],by simp⟩
   ·rintro c σ T ⟨a,ha,rfl,rfl,rfl⟩
    by_cases hat:a<g.length
    ·have hwa:IntKind.i64.wrap ((a:Int)+1)=(a:Int)+1:=wrap_i64 (by omega) (by omega);have hst : ∀ x,x=G.bestTo t g.length b (a+1)→x=if a≠b∧G.tabAt t a b=true∧(G.bestTo t g.length b a).2<G.cntTo t a g.length then ((a:Int),G.cntTo t a g.length) else G.bestTo t g.length b a:=fun x h=>h
     have hst:=hst _ rfl;obtain ⟨r,hr,hrl'⟩:=hrl a hat;have hta:a<t.length:=by omega
     have hra:t[a]=r:=by simpa [hta] using hr
     by_cases hab:a=b
     ·subst hab;rw [if_neg (by simp)] at hst
      repeat first|refine QG ?_|refine QY ?_ (r:=by conv=>lhs;simp[QV,hat])
      show jy _ _ _ _ _ _ _;exact again ⟨Nat.sub_lt_sub_left hat (Nat.lt_succ_self a),a+1,hat,rfl,by rw [hst]; simp [Fr.only,Fr.look,vnat,vint]; exact hwa,rfl⟩
     ·have hab' : ¬ (a:Int)=(b:Int):=by omega
      by_cases htab:G.tabAt t a b=true
      ·have htb:r[b]'(by omega)=true:=by
        have:b<r.length:=by omega
        simpa [G.tabAt,hta,hra,this] using htab
       have hbr:b<r.length:=by omega
       have hab' : ¬ (a:Int)=(b:Int):=by omega
       repeat first|refine QG ?_|refine QY ?_ (r:=by conv=>lhs;simp[QV,hat,hab,hab',hta,hra,hbr,htb])
       refine QT ?_;refine jd [0,4,5,6,7,8,9,10,11] rfl (fun c σ S' => ∃ (k:Nat),k≤g.length∧c=g.length-k∧σ=[(0,vl (vl vnat) g),(4,vl (vl V.bool) t),(5, .slice (lid S.nx 0) 0 b),(6,vnat b),(7,vint (G.bestTo t g.length b a).1),(8,vnat (G.bestTo t g.length b a).2),(9,vnat a),(10,vnat (G.cntTo t a k)),(11,vnat k)]∧S'=St S [] [some (1,(upTo f b).map vint)]) g.length ?_ ?_
       ·exact ⟨0,by omega,rfl,by simp [Fr.only,Fr.look,vnat,vint,G.cntTo],rfl⟩
       ·rintro c σ T ⟨k,hk,rfl,rfl,rfl⟩;have hcle:=G.cntTo_le t a k
        by_cases hkt:k<g.length
        ·have hwk:IntKind.i64.wrap ((k:Int)+1)=(k:Int)+1:=wrap_i64 (by omega) (by omega);have hwc:IntKind.i64.wrap ((G.cntTo t a k:Int)+1)=(G.cntTo t a k:Int)+1:=wrap_i64 (by omega) (by omega);obtain ⟨q,hq,hql⟩:=hrl k hkt;have htk:k<t.length:=by omega
         have hqk:t[k]=q:=by simpa [htk] using hq
         have haq:a<q.length:=by omega
         obtain ⟨x,hx⟩ : ∃ x,q[a]=x:=⟨_,rfl⟩
         have hxt:G.tabAt t k a=x:=by simp [G.tabAt,htk,hqk,haq,hx]
         have hcs:G.cntTo t a (k+1)=if x=true then G.cntTo t a k+1 else G.cntTo t a k:=by simp only [G.cntTo,hxt]
         cases x with
         | true =>
          repeat first|refine QG ?_|refine QY ?_ (r:=by conv=>lhs;simp[QV,hkt,htk,hqk,haq,hx])
          show jy _ _ _ _ _ _ _;exact again ⟨Nat.sub_lt_sub_left hkt (Nat.lt_succ_self k),k+1,hkt,rfl,by rw [hcs]; simp [Fr.only,Fr.look,vnat,vint,hwk,hwc],rfl⟩
         | false =>
          repeat first|refine QG ?_|refine QY ?_ (r:=by conv=>lhs;simp[QV,hkt,htk,hqk,haq,hx])
          show jy _ _ _ _ _ _ _;exact again ⟨Nat.sub_lt_sub_left hkt (Nat.lt_succ_self k),k+1,hkt,rfl,by rw [hcs]; simp [Fr.only,Fr.look,vnat,vint,hwk,hwc],rfl⟩
        ·have hkg:k=g.length:=by omega
         subst hkg
         by_cases hgt:(G.bestTo t g.length b a).2<G.cntTo t a g.length
         ·rw [if_pos ⟨hab,htab,hgt⟩] at hst
          repeat first|refine QG ?_|refine QY ?_ (r:=by conv=>lhs;simp[QV,hkt,hgt])
          show jy _ _ _ _ _ _ _;exact again ⟨Nat.sub_lt_sub_left hat (Nat.lt_succ_self a),a+1,hat,rfl,by rw [hst]; simp [Fr.only,Fr.look,vnat,vint,hwa],rfl⟩
         ·rw [if_neg (fun h=>hgt h.2.2)] at hst
          repeat first|refine QG ?_|refine QY ?_ (r:=by conv=>lhs;simp[QV,hkt,hgt])
          show jy _ _ _ _ _ _ _;exact again ⟨Nat.sub_lt_sub_left hat (Nat.lt_succ_self a),a+1,hat,rfl,by rw [hst]; simp [Fr.only,Fr.look,vnat,vint,hwa],rfl⟩
      ·have htb:r[b]'(by omega)=false:=by
        have:b<r.length:=by omega
        simpa [G.tabAt,hta,hra,this] using htab
       have hbr:b<r.length:=by omega
       rw [if_neg (fun h=>htab h.2.1)] at hst
       repeat first|refine QG ?_|refine QY ?_ (r:=by conv=>lhs;simp[QV,hat,hab,hab',hta,hra,hbr,htb])
       show jy _ _ _ _ _ _ _;exact again ⟨Nat.sub_lt_sub_left hat (Nat.lt_succ_self a),a+1,hat,rfl,by rw [hst]; simp [Fr.only,Fr.look,vnat,vint,hwa],rfl⟩
    ·have hag:a=g.length:=by omega
     subst hag;have hfb:f b=(G.bestTo t g.length b g.length).1:=by rw [hf]
     have hc8:(b+1)*8≤140737488355328:=by omega
     have hc1:b+1≤140737488355328:=by omega
     repeat first|refine QG ?_|refine QY ?_ (r:=by conv=>lhs;simp[QV,hat,hc8,hc1])
     refine QA [2] (h:=⟨?_,b+1,hbt,rfl,by simp [vnat,hwb],by rw [upTo_succ,hfb]; simp [vint]⟩);omega
  ·repeat first|refine QG ?_|refine QY ?_ (r:=by conv=>lhs;simp[QV,hbt])
   have hag:b=g.length:=by omega
   subst hag;exact jf hwf ((Ghost.tuple [] [vint 0] (frz1 (by simp) (by rfl) (jq vint (fun _=>rfl) _) (by simp [upTo_len]))).toB _) rfl
end Go.Vw
namespace Ss
def putLs (i:Int):Nat→List Def→List (List Int)→Option (List Def)
 | _,ds,[]=>some ds
 | j,ds,l::r=>(put i ((j:Int)-1) ds l).bind fun d=>putLs i (j+1) d r
theorem jbe (i:Int) : ∀ (code:List Ins) (k:Nat) (ds:List Def),putLs i (k+1) ds (code.map (·.outs))=putCode i k ds code
 | [],k,ds=>rfl
 | x::r,k,ds=>by
  have e:(((k+1:Nat):Int)-1)=(k:Int):=by omega
  simp only [List.map_cons,putLs,putCode,e]
  congr 1
  funext d
  exact jbe i r (k+1) d
def Block.lists (b:Block):List (List Int):=b.params::b.code.map (·.outs)
theorem putLs_block (i:Nat) (ds:List Def) (b:Block):putLs i 0 ds b.lists=(put i (-1) ds b.params).bind fun d=>putCode i 0 d b.code:=by
 simp only [Block.lists,putLs]
 congr 1
 funext d
 exact jbe i b.code 0 d
theorem putLs_one {i:Int} {j:Nat} {ds:List Def} {ls:List (List Int)} (h:j<ls.length):putLs i j ds (ls.drop j)=(put i ((j:Int)-1) ds ls[j]).bind fun d=>putLs i (j+1) d (ls.drop (j+1)):=by
 rw [List.drop_eq_getElem_cons h,putLs]
theorem putLs_end {i:Int} {j:Nat} {ds:List Def} {ls:List (List Int)} (h : ¬ j<ls.length):putLs i j ds (ls.drop j)=some ds:=by
 have:ls.drop j=[]:=by rw [List.drop_eq_nil_iff]; omega
 rw [this,putLs]
end Ss
namespace Go.Vw
open Go.Proofs Go.RowKit
attribute [-simp] List.map_set
def jZ (d:Ss.Def):V := .agg [vint (if d.made then d.block else -1),vint (if d.made then d.pos else 0)]
theorem Ww (d:Ss.Def):(jZ d).cells=[vint (if d.made then d.block else -1),vint (if d.made then d.pos else 0)]:=rfl
theorem Jm (d:Ss.Def):(jZ d).closed=true:=rfl
theorem encRDef_eq (d:Ss.Def):jZ d = .agg [vint (if d.made then d.block else -1),vint (if d.made then d.pos else 0)]:=nr rfl
theorem Kr (f:Nat→Nat) (l:List Ss.Def):V.renL f (js jZ l)=js jZ l:=Ws Jm f l
theorem Kw (p:Nat→Bool) (l:List Ss.Def):V.idsL p (js jZ l)=true:=Wt Jm p l
def rdefsV:Option (List Ss.Def)→V
 | some d => .tuple [vl jZ d, .bool true]
 | none => .tuple [.list [], .bool false]
theorem Defs_v (f:Ss.Fn) (hf:f.Fits) (hts:f.types.length≤1048576):VPure Tryz.prog 41 [jJ f] (rdefsV (Ss.defsOf f)):=by
 intro S;obtain ⟨_,_,⟨hbl0,hbf⟩⟩:=hf;obtain ⟨⟨fi,fo⟩,ts,bs⟩:=f;simp only at hts hbl0 hbf;have hbl:bs.length<2^63:=by omega
 have htl:ts.length<2^63:=by omega
 generalize hD:Ss.defsOf ⟨⟨fi,fo⟩,ts,bs⟩=D;refine QB (c:=jc Tryz.f41) Tryz.func41 Tryz.ntmps41 fun hwf=>?_
 refine QT ?_;refine QY ?_;refine QT ?_;refine QY ?_;refine zy 4 2 rfl (by conv=>lhs; simp [Fr.set]) ?_
 repeat first|refine QG ?_|refine QY ?_
 refine QT ?_;refine jd [1,4,5] rfl (fun c σ S' => ∃ (k:Nat),k≤ts.length∧c=ts.length-k∧σ=[(1, .ptr (lid S.nx 0) 0),(4, .slice (lid S.nx 1) 0 k),(5,vnat k)]∧S'=St S [] [some (4,[vl vint fi,vl vint fo,vl vint ts,vl je bs]),some (2,js jZ (List.replicate k ⟨false,0,0⟩))]) ts.length ?_ ?_
 ·exact ⟨0,by omega,rfl,by simp [Fr.only],by simp [js]⟩
 ·rintro c σ T ⟨k,hk,rfl,rfl,rfl⟩
  by_cases hkt:k<ts.length
  ·have hw:=jh hkt htl;have hfl2:k*2=(js jZ (List.replicate k ⟨false,0,0⟩)).length:=by rw [Kh (enc:=jZ) (s:=2) (fun _=>rfl)]; simp
   have hc16:(k+1)*16≤140737488355328:=by omega
   have hc1:k+1≤140737488355328:=by omega
   have hsnoc:js jZ (List.replicate (k+1) ⟨false,0,0⟩)=js jZ (List.replicate k ⟨false,0,0⟩)++[.int .i64 (-1), .int .i64 0]:=by rw [List.replicate_succ',Jv,Ww]; rfl
   repeat first|refine QG ?_|refine QY ?_ (r:=by conv=>lhs;simp[QV,hkt,hfl2,hc16,hc1,rep0])
   refine QA [0,3] (h2:=by simp [Kr,Kw]) (hl:=by conv=>lhs; simp [Kr,Kw]) (h:=⟨?_,k+1,hkt,rfl,by simp [hw],by rw [hsnoc]⟩);omega
  ·have hke:k=ts.length:=by omega
   subst hke
   repeat first|refine QG ?_|refine QY ?_ (r:=by conv=>lhs;simp[QV,hkt])
   refine QT ?_;refine jd [1,4,6] rfl (fun c σ S' => ∃ (k:Nat) (d:List Ss.Def),k≤bs.length∧c=bs.length-k∧d.length=ts.length∧(∀ x∈d,x.made=true→0≤x.block)∧Ss.putBlocks k d (bs.drop k)=D∧σ=[(1, .ptr (lid S.nx 0) 0),(4, .slice (lid S.nx 1) 0 ts.length),(6,vnat k)]∧S'=St S [] [some (4,[vl vint fi,vl vint fo,vl vint ts,vl je bs]),some (2,js jZ d)]) bs.length ?_ ?_
   ·exact ⟨0,List.replicate ts.length ⟨false,0,0⟩,by omega,rfl,by simp,by simp,by rw [←hD]; rfl,by simp [Fr.only],rfl⟩
   ·rintro c σ T ⟨k,d,hk,rfl,hdl,hnn,hpd,rfl,rfl⟩
    by_cases hkt:k<bs.length
    ·have hw:=jh hkt hbl;have hst:=Wi (ds:=d) hkt;rw [←Ss.putLs_block] at hst;have hbk:=hbf _ (List.getElem_mem hkt);obtain ⟨⟨ps,code,⟨tk,ta,to,az⟩⟩,hx⟩ : ∃ b,bs[k]=b:=⟨_,rfl⟩
     rw [hx] at hst hbk;obtain ⟨⟨hpl,_⟩,⟨hcl,hcf⟩,_⟩:=hbk;simp only at hst hpl hcl hcf;obtain ⟨L,hL⟩ : ∃ L,Ss.Block.lists ⟨ps,code,⟨tk,ta,to,az⟩⟩=L:=⟨_,rfl⟩
     rw [hL] at hst;have hLl:L.length=code.length+1:=by rw [←hL]; simp [Ss.Block.lists]
     repeat first|refine QG ?_|refine QY ?_ (r:=by conv=>lhs;simp[QV,hkt,hx])
     refine QT ?_;refine jd [1,4,6,7,8] rfl (fun c σ S' => ∃ (j:Nat) (d:List Ss.Def) (p:Int),j≤L.length∧c=L.length-j∧p=(j:Int)-1∧d.length=ts.length∧(∀ x∈d,x.made=true→0≤x.block)∧((Ss.putLs k j d (L.drop j)).bind fun d=>Ss.putBlocks (k+1) d (bs.drop (k+1)))=D∧σ=[(1, .ptr (lid S.nx 0) 0),(4, .slice (lid S.nx 1) 0 ts.length),(6,vnat k),(7, .ptr (lid S.nx 2) 0),(8, .int .i64 p)]∧S'=St S [] [some (4,[vl vint fi,vl vint fo,vl vint ts,vl je bs]),some (2,js jZ d),some (6,[vl vint ps,vl jp code,vint tk,vint ta,vl ji to,vl vint az])]) L.length ?_ ?_
     ·exact ⟨0,d, -1,by omega,rfl,by omega,hdl,hnn,by rw [←hpd,hst]; rfl,by simp [Fr.only],rfl⟩
     ·rintro c σ T ⟨j,d,p,hj,rfl,hp,hdl,hnn,hpd,rfl,rfl⟩
      by_cases hjt:j<L.length
      ·have hwp:IntKind.i64.wrap (p+1)=p+1:=wrap_i64 (by omega) (by omega);have hpc:p<(code.length:Int):=by omega
       have hst:=Ss.putLs_one (i:=(k:Int)) (ds:=d) hjt;rw [hst] at hpd;obtain ⟨l,hl⟩ : ∃ l,L[j]=l:=⟨_,rfl⟩
       rw [hl, ←hp] at hpd;have hlen:l.length<2^63:=by
        cases j with
        | zero =>
         have:l=ps:=by rw [←hl]; simp [←hL,Ss.Block.lists]
         rw [this]; omega
        | succ m =>
         have hm:m<code.length:=by omega
         have:l=code[m].outs:=by rw [←hl]; simp [←hL,Ss.Block.lists]
         have hxf:=hcf _ (List.getElem_mem hm);obtain ⟨_,_,_,hxo,_⟩:=hxf;rw [this]; omega
       repeat first|refine QG ?_|refine QY ?_ (r:=by conv=>lhs;simp[QV,hpc])
       refine Zq (fun σ S'=>σ=[(1, .ptr (lid S.nx 0) 0),(4, .slice (lid S.nx 1) 0 ts.length),(6,vnat k),(7, .ptr (lid S.nx 2) 0),(8, .int .i64 p),(9,vl vint l)]∧S'=St S [] [some (4,[vl vint fi,vl vint fo,vl vint ts,vl je bs]),some (2,js jZ d),some (6,[vl vint ps,vl jp code,vint tk,vint ta,vl ji to,vl vint az])]) [1,4,6,7,8,9] ?_ ?_
       ·cases j with
        | zero =>
         obtain rfl:l=ps:=by rw [←hl]; simp [←hL,Ss.Block.lists]
         obtain rfl:p = -1:=by omega
         repeat first|refine QG ?_|refine QY ?_
         exact ⟨by simp [Fr.only],by simp⟩
        | succ m =>
         have hm:m<code.length:=by omega
         obtain rfl:p=(m:Int):=by omega
         obtain ⟨⟨o1,o2,o3,o4⟩,hxm⟩ : ∃ x,code[m]=x:=⟨_,rfl⟩
         obtain rfl:l=o4:=by
          have:l=code[m].outs:=by rw [←hl]; simp [←hL,Ss.Block.lists]
          rw [this,hxm]
         repeat first|refine QG ?_|refine QY ?_ (r:=by conv=>lhs;simp[QV,hm,hxm])
         exact ⟨by simp [Fr.only],by simp⟩
       rintro σ S' ⟨rfl,rfl⟩
       repeat first|refine QG ?_|refine QY ?_
       refine QT ?_;refine jd [1,4,6,7,8,9,10] rfl (fun c σ S' => ∃ (m:Nat) (d2:List Ss.Def),m≤l.length∧c=l.length-m∧d2.length=ts.length∧(∀ x∈d2,x.made=true→0≤x.block)∧(((Ss.put k p d2 (l.drop m)).bind fun d=>Ss.putLs k (j+1) d (L.drop (j+1))).bind fun d=>Ss.putBlocks (k+1) d (bs.drop (k+1)))=D∧σ=[(1, .ptr (lid S.nx 0) 0),(4, .slice (lid S.nx 1) 0 ts.length),(6,vnat k),(7, .ptr (lid S.nx 2) 0),(8, .int .i64 p),(9,vl vint l),(10,vnat m)]∧S'=St S [] [some (4,[vl vint fi,vl vint fo,vl vint ts,vl je bs]),some (2,js jZ d2),some (6,[vl vint ps,vl jp code,vint tk,vint ta,vl ji to,vl vint az])]) l.length ?_ ?_
       ·exact ⟨0,d,by omega,rfl,hdl,hnn,hpd,by simp [Fr.only],rfl⟩
       ·rintro c σ T ⟨m,d2,hm,rfl,hdl,hnn,hpd,rfl,rfl⟩
        by_cases hmt:m<l.length
        ·have hwm:=jh hmt hlen;have hst:Ss.put k p d2 (l.drop m)=if l[m]<0∨(d2.length:Int)≤l[m]∨(d2.getD l[m].toNat default).made=true then none else Ss.put k p (d2.set l[m].toNat ⟨true,k,p⟩) (l.drop (m+1)):=by rw [List.drop_eq_getElem_cons hmt,Ss.put]
         obtain ⟨v,hxv⟩ : ∃ v,l[m]=v:=⟨_,rfl⟩
         rw [hxv] at hst;have bad:(v<0∨(d2.length:Int)≤v∨(d2.getD v.toNat default).made=true)→D=none:=fun hb=>by rw [←hpd,hst,if_pos hb]; rfl
         by_cases q1:v<0
         ·repeat first|refine QG ?_|refine QY ?_ (r:=by conv=>lhs;simp[QV,hmt,hxv,q1])
          obtain rfl:=bad (.inl q1);exact jf hwf ((Ghost.tuple [] [_] (Ghost.nils_list _)).toB _) rfl
         obtain ⟨n,rfl⟩ : ∃ n:Nat,v=n:=⟨v.toNat,by omega⟩
         by_cases q2:n<d2.length
         case neg =>
          have q2':(ts.length:Int)≤(n:Int):=by omega
          obtain rfl:=bad (.inr (.inl (by omega)))
          repeat first|refine QG ?_|refine QY ?_ (r:=by conv=>lhs;simp[QV,hmt,hxv,q1,q2'])
          exact jf hwf ((Ghost.tuple [] [_] (Ghost.nils_list _)).toB _) rfl
         have q2' : ¬ (ts.length:Int)≤(n:Int):=by omega
         obtain ⟨⟨dm,db,dp⟩,hdx⟩ : ∃ x,d2[n]=x:=⟨_,rfl⟩
         have hdg:d2.getD (n:Int).toNat default=⟨dm,db,dp⟩:=by simp [q2,hdx]
         have hcell:(js jZ d2)[n*2]? = some (vint (if dm then db else -1)):=Wu (enc:=jZ) (s:=2) (fun _=>rfl) d2 n 0 ⟨dm,db,dp⟩ _ (by rw [←hdx]; exact List.getElem?_eq_getElem q2) rfl;have hfl:(js jZ d2).length=d2.length*2:=Kh (enc:=jZ) (s:=2) (fun _=>rfl) d2;have hn2:n<ts.length:=by omega
         by_cases q3:dm=true
         ·obtain rfl:=bad (.inr (.inr (by rw [hdg]; exact q3)));subst q3;have hb0:0≤db:=by
           have:=hnn _ (List.getElem_mem q2);rw [hdx] at this;exact this rfl
          repeat first|refine QG ?_|refine QY ?_ (r:=by conv=>lhs;simp[QV,hmt,hxv,q1,q2',hcell,hn2,hb0])
          exact jf hwf ((Ghost.tuple [] [_] (Ghost.nils_list _)).toB _) rfl
         ·obtain rfl:dm=false:=by simpa using q3
          have hfit:n*2+2≤(js jZ d2).length:=by omega
          rw [if_neg (by rw [hdg]; rintro (h | h | h)<;>first | exact q1 h | exact q3 h | omega)] at hst;have hfs:=jai (enc:=jZ) (s:=2) (fun _=>rfl) ⟨true,k,p⟩ d2 n q2
          repeat first|refine QG ?_|refine QY ?_ (r:=by conv=>lhs;simp[QV,hmt,hxv,q1,q2',hcell,hn2,hfit])
          show jy _ _ _ _ _ _ _;exact again ⟨Nat.sub_lt_sub_left hmt (Nat.lt_succ_self m),m+1,d2.set n ⟨true,k,p⟩,hmt,rfl,by simp [hdl],fun x hx hm=>(List.mem_or_eq_of_mem_set hx).elim (fun h=>hnn x h hm) (fun h=>by rw [h]; simp),by rw [←hpd,hst]; rfl,by simp [Fr.only,hwm],by rw [hfs]; simp [Ww]⟩
        ·have e1:l.drop m=[]:=by rw [List.drop_eq_nil_iff]; omega
         rw [e1] at hpd;have hpd2:((Ss.putLs k (j+1) d2 (L.drop (j+1))).bind fun d=>Ss.putBlocks (k+1) d (bs.drop (k+1)))=D:=hpd
         repeat first|refine QG ?_|refine QY ?_ (r:=by conv=>lhs;simp[QV,hmt,hwp])
         show jy _ _ _ _ _ _ _;exact again ⟨Nat.sub_lt_sub_left hjt (Nat.lt_succ_self j),j+1,d2,p+1,hjt,rfl,by omega,hdl,hnn,hpd2,by simp [Fr.only,hwp],rfl⟩
      ·have hpc : ¬ p<(code.length:Int):=by omega
       rw [Ss.putLs_end hjt] at hpd;simp only [Option.bind_some] at hpd
       repeat first|refine QG ?_|refine QY ?_ (r:=by conv=>lhs;simp[QV,hpc])
       refine QA [0,1] (h2:=by simp [Kr,Kw]) (hl:=by conv=>lhs; simp [Kr,Kw]) (h:=⟨?_,k+1,d,hkt,rfl,hdl,hnn,hpd,by simp [hw],by simp⟩);omega
    ·repeat first|refine QG ?_|refine QY ?_ (r:=by conv=>lhs;simp[QV,hkt])
     have e1:bs.drop k=[]:=by rw [List.drop_eq_nil_iff]; omega
     rw [e1] at hpd;have hpe:D=some d:=by rw [←hpd]; rfl
     subst hpe;have hfz:=frzSt (B:=S) (u:=[]) (l:=[some (4,[vl vint fi,vl vint fo,vl vint ts,vl je bs]),some (2,js jZ d)]) (k:=1) (enc:=jZ) (s:=2) (fun _=>rfl) Jm d (by simp) (by rfl);rw [hdl] at hfz;exact jf hwf ((Ghost.tuple [] [_] hfz).toB _) rfl
end Go.Vw
