import Derived.Test.YtjkfgakbijjegaaGreatC10
/- Part of the proof. -/
set_option linter.unusedVariables false
set_option linter.unusedSimpArgs false
set_option maxRecDepth 10000
set_option maxHeartbeats 4000000
namespace Wm
def plain (c:Nat):Ins := .mk c 0 0 ⟨[],[]⟩ [] [] false []
def JY (c n m:Nat):Ins := .mk c n m ⟨[],[]⟩ [] [] false []
def brR (rb:Bool->Rt (List Ins × Bool)) (last:Bool) (c:Nat):Rt Ins:=fun ts b a o =>
 if last=true then .error (7,(a:Int)-1,0)
 else match blockTypeR ts b a o with
  | .error e => .error e
  | .ok (ty,a1,o1)=>match rb (decide (c=4)) ts b a1 o1 with
   | .error e => .error e
   | .ok ((l,false),a2,o2) => .ok (.mk c 0 0 ty l [] false [],a2,o2)
   | .ok ((l,true),a2,o2)=>match rb false ts b a2 o2 with
    | .error e => .error e
    | .ok ((l2,_),a3,o3) => .ok (.mk c 0 0 ty l l2 true [],a3,o3)
def accR (c:Nat) (width:Int):Rd Ins:=fun b a=>match index b a with
 | .error e => .error e
 | .ok (m,a1)=>if 3<m\/width<(2^m:Nat) then .error (6,(a:Int),0) else match index b a1 with
  | .error e => .error e
  | .ok (n,a2) => .ok (JY c n m,a2)
def tabR (c:Nat):Rd Ins:=fun b a=>match many 64 index b a with
 | .error e => .error e
 | .ok (ts,a1)=>match index b a1 with
  | .error e => .error e
  | .ok (t,a2) => .ok (.mk c 0 0 ⟨[],[]⟩ [] [] false ((ts++[t]).map fun n:Nat=>(n:Int)),a2)
def opR (c:Nat):Rd Ins :=
 if c=0\/c=1\/c=15\/c=26\/c=27 then Rd.pure (plain c)
 else if c=12\/c=13\/c=16\/c=32\/c=33\/c=34\/c=35\/c=36 then Rd.bind index fun n=>Rd.pure (JY c n 0)
 else if c=14 then tabR c
 else if c=63\/c=64 then Rd.bind (one [0]) fun _=>Rd.pure (plain c)
 else if c=65 then Rd.bind (Ja 127) fun n=>Rd.pure (JY c n 0)
 else if c=66 then Rd.bind (Ja 126) fun n=>Rd.pure (JY c n 0)
 else match Ss.accOf c with
  | some acc=>accR c acc.width
  | none=>if (Ss.bJ c).2.2=true then Rd.pure (plain c) else if absent c=true then failAt 11 1 else failAt 6 1
def zt (rb:Bool->Rt (List Ins × Bool)) (last:Bool) (c:Nat):Rt Ins :=
 if c=2\/c=3\/c=4 then brR rb last c else ofR (opR c)
def jbz (ri:Nat->Rt Ins) (other:Bool):Nat->List Ins->Rt (List Ins × Bool)
 | 0,acc=>fun _ b _ _ => .error (4,(b.length:Int),0)
 | n+1,acc=>fun ts b a o=>match byte1 b a with
  | .error e => .error e
  | .ok (c,a1) =>
   if c=11 then .ok ((acc,false),a1,o)
   else if c=5/\other=true then .ok ((acc,true),a1,o)
   else if 512<(if c=5 then o else o+1) then .error (7,(a1:Int)-1,0)
   else match ri c ts b a1 (if c=5 then o else o+1) with
    | .error e => .error e
    | .ok (x,a2,o2)=>jbz ri other n (acc++[x]) ts b a2 o2
def runR (ri:Nat->Rt Ins) (other:Bool):Rt (List Ins × Bool):=fun ts b a o=>jbz ri other (b.length-a+1) [] ts b a o
def jgh:Nat->Bool->Rt (List Ins × Bool)
 | 0=>runR (zt (fun _ _ _ _ _ => .error (0,0,0)) true)
 | d+1=>runR (zt (jgh d) false)
def Rd.On {α:Type} (p:Rd α):Prop := ∀ b a x a',p b a = .ok (x,a')->a<=a'
def Rt.On {α:Type} (p:Rt α):Prop := ∀ ts b a o x a' o',p ts b a o = .ok (x,a',o')->a<=a'
theorem Kz {α β:Type} {p:Rd α} {f:α->Rd β} (h:p.On) (k : ∀ x,(f x).On):(Rd.bind p f).On:=by
 intro b a x a' e;simp only [Rd.bind] at e;split at e
 .cases e
 .rename_i h1;exact aU (h _ _ _ _ h1) (k _ _ _ _ _ e)
theorem Ky {α:Type} (x:α):(Rd.pure x).On:=by
 intro b a x a' e;cases e; exact aT _
theorem jfH {α:Type} (e:Int) (n:Nat):(failAt e n:Rd α).On:=by
 intro b a x a' h;cases h
theorem alx (c:Bool) (e:Int) (n:Nat):(zE c e n).On:=by
 intro b a x a' h;unfold zE at h;split at h
 .cases h
 .cases h; exact aT _
theorem jfI:byte1.On:=by
 intro b a x a' h;simp only [byte1] at h;split at h
 .cases h
 .cases h; omega
theorem aai {may:Nat->Nat->Bool} {size len at':Nat} : ∀ (l:List Nat) (i n x nx:Nat),lebGo may size len at' l i n = .ok (x,nx)->at'+i<nx
 | [],i,n,x,nx,h=>by simp [lebGo] at h
 | c::l,i,n,x,nx,h=>by
  rw [lebGo] at h;split at h
  .cases h
  .split at h
   .cases h; omega
   .have:=aai l _ _ _ _ h; omega
theorem on_u (m:Nat) (e:Int):(u m e).On:=by
 intro b a x a' h;simp only [u] at h;split at h
 .cases h
 .rename_i h1;split at h
  .cases h
  .cases h
   have:=aai _ _ _ _ _ h1; omega
theorem Zy:index.On:=on_u _ _
theorem on_s (n:Nat):(sInt n).On:=by
 intro b a x a' h;simp only [sInt,lebS] at h;split at h
 .cases h
 .rename_i h1;cases h;have:=aai _ _ _ _ _ h1; omega
theorem awn (l:List Int):(one l).On:=Kz jfI fun _=>Kz (alx _ _ _) fun _=>Ky _
theorem abm (t:Int):(Ja t).On:=by
 unfold Ja;split
 .exact Kz (on_s _) fun _=>Ky _
 .exact Kz (on_s _) fun _=>Ky _
theorem ae4 {α:Type} {p:Rd α} (h:p.On) : ∀ n,(jag p n).On
 | 0=>Ky _
 | n+1=>Kz h fun _=>Kz (ae4 h n) fun _=>Ky _
theorem asu {α:Type} {p:Rd α} (h:p.On) (m:Nat):(many m p).On:=Kz (on_u _ _) fun _=>ae4 h _
theorem atf:kind.On:=by
 refine Kz jfI fun c => ?_;show Rd.On (if _ then _ else _);split
 .exact Ky _
 .split
  .exact jfH _ _
  .exact jfH _ _
theorem aee:blockTypeR.On:=by
 intro ts b a o x a' o' h;simp only [blockTypeR] at h;split at h
 .cases h; omega
 .split at h
  .split at h
   .cases h
   .rename_i h1; cases h; exact atf _ _ _ _ h1
  .split at h
   .cases h
   .rename_i h1;split at h
    .cases h
    .cases h; exact on_s _ _ _ _ _ h1
theorem ave (c:Nat) (w:Int):(accR c w).On:=by
 intro b a x a' h;simp only [accR] at h;split at h
 .cases h
 .rename_i h1;split at h
  .cases h
  .split at h
   .cases h
   .rename_i h2;cases h;exact aU (Zy _ _ _ _ h1) (Zy _ _ _ _ h2)
theorem av8 (c:Nat):(tabR c).On:=by
 intro b a x a' h;simp only [tabR] at h;split at h
 .cases h
 .rename_i h1;split at h
  .cases h
  .rename_i h2;cases h;exact aU (asu Zy _ _ _ _ _ h1) (Zy _ _ _ _ h2)
theorem aw2 (c:Nat):(opR c).On:=by
 unfold opR;split
 .exact Ky _
 split
 .exact Kz Zy fun _=>Ky _
 split
 .exact av8 _
 split
 .exact Kz (awn _) fun _=>Ky _
 split
 .exact Kz (abm _) fun _=>Ky _
 split
 .exact Kz (abm _) fun _=>Ky _
 split
 .exact ave _ _
 split
 .exact Ky _
 split
 .exact jfH _ _
 .exact jfH _ _
theorem axi {rb:Bool->Rt (List Ins × Bool)} (h : ∀ e,(rb e).On) (last:Bool) (c:Nat):(brR rb last c).On:=by
 intro ts b a o x a' o' e;simp only [brR] at e;split at e
 .cases e
 .split at e
  .cases e
  .rename_i h1;have k1:=aee _ _ _ _ _ _ _ h1;split at e
   .cases e
   .rename_i h2;cases e;have:=h _ _ _ _ _ _ _ _ h2; omega
   .rename_i h2;have k2:=h _ _ _ _ _ _ _ _ h2;split at e
    .cases e
    .rename_i h3;cases e;have:=h _ _ _ _ _ _ _ _ h3; omega
theorem av7 {α:Type} {p:Rd α} (h:p.On):(ofR p).On:=by
 intro ts b a o x a' o' e;simp only [ofR] at e;split at e
 .cases e
 .rename_i h1; cases e; exact h _ _ _ _ h1
theorem jcC {rb:Bool->Rt (List Ins × Bool)} (h : ∀ e,(rb e).On) (last:Bool) (c:Nat):(zt rb last c).On:=by
 unfold zt;split
 .exact axi h _ _
 .exact av7 (aw2 _)
theorem aaw {ri:Nat->Rt Ins} (h : ∀ c,(ri c).On) (other:Bool) : ∀ (n:Nat) (acc:List Ins),(jbz ri other n acc).On
 | 0,acc=>by intro ts b a o x a' o' e; cases e
 | n+1,acc=>by
  intro ts b a o x a' o' e;simp only [jbz] at e;split at e
  .cases e
  .rename_i h1;have k1:=jfI _ _ _ _ h1;split at e
   .cases e; omega
   .split at e
    .cases e; omega
    .generalize (if _=5 then o else o+1)=o1 at e;split at e
     .cases e
     .split at e
      .cases e
      .rename_i h2;have k2:=h _ _ _ _ _ _ _ _ h2;have k3:=aaw h other n _ _ _ _ _ _ _ _ e;omega
theorem ag1 : ∀ (d:Nat) (e:Bool),(jgh d e).On
 | 0,e=>fun ts b a o x a' o' h=>aaw (fun c=>jcC (fun _ _ _ _ _ _ _ _ h=>by cases h) _ c) e _ _ _ _ _ _ _ _ _ h
 | d+1,e=>fun ts b a o x a' o' h=>aaw (fun c=>jcC (ag1 d) _ c) e _ _ _ _ _ _ _ _ _ h
end Wm
namespace Go.Vw
open Wm
mutual
def encI:Wm.Ins->V
 | .mk op n m ty body els he ts => .agg [bH op, .int .u64 n, .int .u64 m,vl bH ty.inn,vl bH ty.out, .list (encIL body), .list (encIL els), .bool he,vl bH ts]
def encIL:List Wm.Ins->List V
 | []=>[]
 | x::xs=>encI x::encIL xs
end
theorem acq : ∀ xs:List Wm.Ins,encIL xs=xs.map encI
 | []=>by simp [encIL]
 | x::xs=>by simp only [encIL,List.map_cons,acq xs]
theorem jK (op:Int) (n m:Nat) (ty:Wm.Sig) (body els:List Wm.Ins) (he:Bool) (ts:List Int):encI (.mk op n m ty body els he ts) = .agg [bH op, .int .u64 n, .int .u64 m,vl bH ty.inn,vl bH ty.out,vl encI body,vl encI els, .bool he,vl bH ts]:=by
 simp only [encI,acq,vl]
theorem YD (x:Wm.Ins):(encI x).cells.length=9:=by
 cases x; rw [jK]; rfl
theorem jbL (x:Wm.Ins):(encI x).ncells=9:=by
 cases x; rw [jK]; rfl
theorem Wr (x:Wm.Ins):(encI x).closed=true:=by
 cases x; rw [jK]; rfl
theorem adh (x:Wm.Ins):((encI x).cells.all V.one)=true:=by
 cases x; rw [jK]; rfl
def nl:V->V
 | .nils => .list []
 | x=>x
theorem am8 (S:Store) (x:V):Ghost x S (nl x) S:=by
 cases x<;>first | exact Ghost.nl S | exact Ghost.refl _ _
theorem jfV (S:Store) : ∀ (pre xs:List V),GhostArgs (pre++xs) S (pre++xs.map nl) S
 | pre,[]=>by intro m β w vs h r; exact ⟨m,β,h,Ext.refl _ _ _,by simpa using r⟩
 | pre,x::xs=>by
  have h1:=GhostArgs.one pre xs (am8 S x);have h2:=jfV S (pre++[nl x]) xs;simp only [List.append_assoc,List.singleton_append] at h2;exact h1.trans h2
theorem jU (S:Store) (xs:List V):Ghost (.agg xs) S (.agg (xs.map nl)) S:=Zj (jfV S [] xs)
def YE (q:List Wm.Ins × Bool):V := .tuple [vl encI q.1, .bool q.2]
section
variable {B:Store} {o o':Nat}
theorem JN (h:o<B.nx) (c d:Nat × List V) (l:OL):(St B [(o,some c),(o',some d)] l).get o=some c:=by rw [jk h]; simp [uGet]
theorem Kh (h:o'<B.nx) (hne:o'≠o) (c d:Nat × List V) (l:OL):(St B [(o,some c),(o',some d)] l).get o'=some d:=by rw [jk h]; simp [uGet,hne]
theorem Ww (h:o<B.nx) (c c' d:Nat × List V) (l:OL):(St B [(o,some c),(o',some d)] l).upd o c'=St B [(o,some c'),(o',some d)] l:=by rw [jT h]; simp [uSet]
theorem jav (h:o'<B.nx) (hne:o'≠o) (c d d':Nat × List V) (l:OL):(St B [(o,some c),(o',some d)] l).upd o' d'=St B [(o,some c),(o',some d')] l:=by rw [jT h]; simp [uSet,hne]
theorem jfo {c d:Nat × List V} (h:o<B.nx) (h':o'<B.nx) (hc:B.get o=some c) (hd:B.get o'=some d):St B [] []=St B [(o,some c),(o',some d)] []:=by
 refine Store.eq_of (fun k => ?_) rfl;rw [zj,zj];split
 .simp only [uGet];split
  .rename_i e; rw [e,hc]
  .split
   .rename_i e; rw [e,hd]
   .rfl
 .rfl
theorem ag6 {c d:Nat × List V} (hw:B.Wf) (h:o<B.nx) (h':o'<B.nx) (hne:o'≠o):St B [(o,some c),(o',some d)] []=(B.upd o c).upd o' d:=by
 refine Store.eq_of (fun k => ?_) (by rw [jH]; simp [lid,Store.upd]);rw [zj,jQ,jQ];split
 .simp only [uGet];by_cases e:k=o'
  .rw [if_pos e,if_neg (by rw [e]; exact hne),if_pos e]
  .rw [if_neg e];split
   .rfl
   .first | rw [if_neg e] | rfl
 .rename_i h1;rw [if_neg (by omega),if_neg (by omega),hw.gone k (by omega)];simp
theorem jde {α:Type} {P:Program} {f:FuncId} {args:List V} {ro xo:Nat} {enc:α->V} {p:Rt α} {E:EP} {S:Store} {l:OL} {b:List Nat} {a o:Nat} {ts:List Wm.Sig} {im fu pg mo gl ex st da:V} {d:Nat × List V} {K:Fr->Store->Prop} {σ:Fr} {dd:Option Nat} {ag:List Arg} {r:List CO}
  (ha:ag.map (ev σ)=args) (hm:RdT P f args ro enc p) (hl:ro<S.nx) (h1:a<=b.length) (h2:b.length<=16384) (h3 : ∀ x∈b,x<256) (h4:o<=512) (h5:TyOk ts) (herr : ∀ e,p ts b a o = .error e -> ∀ T,Kept S [ro,xo] T->E (jY 46 e) T)
  (H : ∀ x a' o',p ts b a o = .ok (x,a',o')->a'<=b.length->o'<=512->qF P E r K (σ.put dd (enc x)) (St S [(ro,some (12,[vl vb b,bI a',vl je ts,im,fu,pg,mo,gl,ex,st,da,bI o'])),(xo,some d)] l)) :
  qF P E (⟨dd,none, .call f ag⟩::r) K σ (St S [(ro,some (12,[vl vb b,bI a,vl je ts,im,fu,pg,mo,gl,ex,st,da,bI o])),(xo,some d)] l):=by
 refine jb ha ((hm b a ts im fu pg mo gl ex st da o _ E h1 h2 h3 h4 h5 (JN hl _ _ _) fun e he T hk=>herr e he T (hk.up (by simp) (by simp))).mono (fun _ _ h=>h) fun _ _ h=>h) ?_;rintro X S' ⟨x,a',o',hp,ha',ho',rfl,rfl⟩;rw [Ww hl];exact H x a' o' hp ha' ho'
end
end Go.Vw
namespace Go.Vw
open Go.Proofs Go.RowKit Wm
attribute [-simp] List.map_set
theorem aqh {σ α:Type} (L:RL σ) (read:V) (enc:α->V) (p:σ->Except Flt (α × σ)) (most:Nat) (hmost:most<=4096) (hs : ∀ a,(enc a).cells.length=1) (hc : ∀ a,(enc a).closed=true) (hp:RdL Tryz.prog L read [] enc p) (hrd:OldV L.n0 read) (s:σ) (S:Store) (E:EP)
  (hi:L.inv s) (hh:HasU S (L.us s)) (hn:L.n0<=S.nx) (hE : ∀ e T,jI L most p s = .error e->Kept S L.ws T->E (jY 46 e) T) :
  VCallsX Tryz.prog 95 [.ptr L.ro 0,bH most,read] S (fun r T => ∃ xs s',jI L most p s = .ok (xs,s')/\L.inv s'/\r = .slice S.nx 0 xs.length/\T=(putU S (L.us s')).add (1,jF enc xs)) E:=by
 have hm:=u_v L.ro most 7 (by omega);have w0:IntKind.u64.wrap (most:Int)=(most:Int):=by rw [jZ]; omega
 refine jc (c:=jf Tryz.f95) Tryz.func95 rfl rfl (by simp [Tryz.ntmps95]) ?_;rw [Tryz.ntmps95];intro hwf;have hk0:=L.lt hwf hh;have hrd':OldV S.nx read:=zW (fun o ho=>by simp at ho ⊢; omega) read hrd;have hd1:=hrd'.ren;have hd2:=hrd'.ids;rw [<-WS hh];refine bk ?_;refine Wa 7 1 rfl (by conv=>lhs; simp [Fr.set]) ?_;refine XQ E ?_ (r:=by conv=>lhs;simp[QV,w0]);refine jb rfl (rl_u hm hi hh hk0 fun e T he hk=>hE e T (by simp only [jI,he]) hk) ?_;rintro r T ⟨n,s1,hq,hi1,rfl,rfl⟩;have hall:jI L most p s=zO p n s1:=by simp only [jI,hq]
 have hn1:n<=most:=by
  simp only [qD,u] at hq;split at hq
  .cases hq
  .rename_i x a' h;split at h
   .cases h
   .split at h
    .cases h
    .cases h; cases hq; omega
 rw [hall] at hE ⊢;refine XN ?_;refine ja ?_;refine bk ?_;refine bB [2,7,11,12] (fun c σ' S' => ∃ (k:Nat) (xs:List α) (sk:_),k<=n/\c=n-k/\xs.length=k/\zO p k s1 = .ok (xs,sk)/\L.inv sk/\σ'=[(2,read),(7, .slice (lid S.nx 0) 0 k),(11,bI n),(12,bI k)]/\S'=St S (upsU (L.us sk)) [some (1,jF enc xs)]) n ?_ ?_
 .exact ⟨0,[],s1,by omega,rfl,rfl,rfl,hi1,by simp [Fr.oy],by simp [jF]⟩
 .rintro c σ' T ⟨k,xs,sk,hk,rfl,hlen,hxs,hik,rfl,rfl⟩;by_cases hkt:k<n
  .have hw:=jP hkt (by omega);refine bi hkt ?_;refine XQ E ?_;refine jV rfl rfl (Ys hp hik hh hk0 hn fun e T he hk'=>hE e T (Js k n s1 xs sk e hxs he hkt) hk') ?_;rintro r T ⟨x,s2,hx,hi2,rfl,rfl⟩;have hsn:=zT k s1 xs sk hxs;rw [hx] at hsn;have hz:=hs x;have hz1:(enc x).ncells=1:=by rw [<-hz]; cases enc x<;>rfl
   have hz2:((enc x).cells.all V.one)=true:=qR (hc x);have hb1:(k+1)*8<=140737488355328:=by omega
   have hb2:k+1<=140737488355328:=by omega
   have hfl:(jF enc xs).length=k*1:=by rw [zS hs,hlen]
   have hfs:jF enc (xs++[x])=jF enc xs++(enc x).cells:=zD enc xs x;have hgg:=fun ks=>WK (L.oldS hi2 hn) ks;have hr1:=fun f=>Ju hc f;have hr2:=fun p=>Je hc p;refine XN ?_ (r:=by conv=>lhs;simp[QV,-qx,qZ,YZ,hz1,hz2,hz,hb1,hb2,hfl]);rw [<-hfs];refine ja ?_;refine bi hw ?_;refine Jj [2] (by conv=>lhs; simp [Fr.oy]) hwf (by decide) (by simp [hgg,hr1,hr2,hd1,hd2]) (by conv=>lhs; simp [hgg,hr1,hr2,hd1,hd2]) (by conv=>lhs; simp [hgg,hr1,hr2,hd1,hd2]) (by conv=>lhs; simp [hgg,hr1,hr2,hd1,hd2]) ⟨?_,k+1,xs++[x],s2,hkt,rfl,by simp [hlen],hsn,hi2,by simp [hw],rfl⟩;omega
  .have hke:k=n:=by omega
   subst hke;refine bi hkt ?_;refine jn ⟨xs,sk,hxs,hik,by simp [hlen,lid], ?_⟩;rw [aau hwf hh (by rw [L.hks,L.hks]) (by rw [L.hks]; exact L.nd),qT]; rfl
theorem ao7 {ro most:Nat} {f:FuncId} {p:Rd Nat} {S:Store} {E:EP} {l:OL} {b:List Nat} {a:Nat} {ty im fu pg mo gl ex st da:V} {ops:Nat}
  (hmost:most<=4096) (hw:S.Wf) (hs : ∃ a0 ops0,S.get ro=some (12,rc ⟨b,a0,ty,im,fu,pg,mo,gl,ex,st,da,ops0⟩)) (hok:RS.ok ⟨b,a,ty,im,fu,pg,mo,gl,ex,st,da,ops⟩) (hm:RdM Tryz.prog f [.ptr ro 0] ro bI (lift p)) (hc:jE Tryz.prog f=true)
  (herr : ∀ e,many most p b a = .error e -> ∀ T,Kept S [ro] T->E (jY 46 e) T) :
  VCallsX Tryz.prog 95 [.ptr ro 0,bH most, .meth f (.ptr ro 0)] (St S [(ro,some (12,[vl vb b,bI a,ty,im,fu,pg,mo,gl,ex,st,da,bI ops]))] l) (fun r T => ∃ xs a',many most p b a = .ok (xs,a')/\a'<=b.length/\r = .slice (lid S.nx l.length) 0 xs.length/\T=St S [(ro,some (12,[vl vb b,bI a',ty,im,fu,pg,mo,gl,ex,st,da,bI ops]))] (l++[some (1,jF bI xs)])) E:=by
 obtain ⟨a0,ops0,hs⟩:=hs;have hl:=jx hw hs;have h0:OldRS S.nx ⟨b,a0,ty,im,fu,pg,mo,gl,ex,st,da,ops0⟩:=Ya hw hs;have hold0:OldRS S.nx ⟨b,a,ty,im,fu,pg,mo,gl,ex,st,da,ops⟩:=h0;have h:=aqh (RLc ro S.nx [] (by simp [qS]) (by simp [qS]) (by simp)) (.meth f (.ptr ro 0)) bI (qD _ p) most hmost (fun _=>rfl) (fun _=>rfl) (RdM.meth hm hc) (jfJ hl) ⟨b,a,ty,im,fu,pg,mo,gl,ex,st,da,ops⟩ (St S [(ro,some (12,[vl vb b,bI a,ty,im,fu,pg,mo,gl,ex,st,da,bI ops]))] l) E ⟨hok,hold0⟩
  (by
   intro q hq;simp only [RLc,aM] at hq;subst hq;exact old1 hl _ _)
  (by rw [jH]; simp [RLc,lid])
  (by
   intro e T he hk;rw [Jb] at he;exact herr e (jdx he) T (hk.up (by simp) (by intro k hk; exact .inl hk)))
 refine h.mono ?_ fun _ _ h=>h;rintro r T ⟨xs,s',hp,hi,rfl,rfl⟩;rw [Jb] at hp;obtain ⟨a',hp',rfl⟩:=jfO hp;refine ⟨xs,a',hp',hi.1.1,by rw [jH], ?_⟩;show ((St S _ l).upd ro _).add _=_;rw [oldU hl,qT]
 rfl
def brC (c:Nat) (ty:Wm.Sig) (l l2:List Wm.Ins) (e:Bool):List V:=[.int .i64 (c:Int), .int .u64 0, .int .u64 0,vl bH ty.inn,vl bH ty.out,vl encI l,if e=true then vl encI l2 else .nils, .bool e, .nils]
theorem at5 (ro xo deep c:Nat) (hd:deep<=16) (rb:Bool->Rt (List Wm.Ins × Bool)) (hb:deep<16 -> ∀ other,RdT Tryz.prog 112 [.ptr ro 0,bH ((deep:Int)+1), .bool other] ro YE (rb other))
  (b:List Nat) (a:Nat) (ts:List Wm.Sig) (im fu pg mo gl ex st da:V) (o:Nat) (S:Store) (E:EP) (h1:a<=b.length) (h2:b.length<=16384) (h3 : ∀ x∈b,x<256) (h4:o<=512) (h5:TyOk ts)
  (hs:S.get ro=some (12,rct b a ts im fu pg mo gl ex st da o)) (hx:S.get xo=some (9,[.int .i64 (c:Int), .int .u64 0, .int .u64 0, .nils, .nils, .nils, .nils, .bool false, .nils])) (hne:xo≠ro) (hE : ∀ e,brR rb (decide (deep=16)) c ts b a o = .error e -> ∀ T,Kept S [ro,xo] T->E (jY 46 e) T) :
  VCallsX Tryz.prog 153 [.ptr ro 0, .ptr xo 0, .int .i64 (deep:Int)] S (fun r T => ∃ ty l l2 e a' o',brR rb (decide (deep=16)) c ts b a o = .ok (.mk c 0 0 ty l l2 e [],a',o')/\a'<=b.length/\o'<=512/\r = .tuple []/\T=(S.upd ro (12,rct b a' ts im fu pg mo gl ex st da o')).upd xo (9,brC c ty l l2 e)) E:=by
 refine jc (c:=jf Tryz.f153) Tryz.func153 rfl rfl (by simp [Tryz.ntmps153]) ?_;rw [Tryz.ntmps153];intro hwf;have hl:=jx hwf hs;have hlx:=jx hwf hx;have g1 := @JN S ro xo hl;have g2 := @Kh S ro xo hlx hne;have u1 := @Ww S ro xo hl;have u2 := @jav S ro xo hlx hne;rw [show St S [] []=St S [(ro,some (12,[vl vb b,bI a,vl je ts,im,fu,pg,mo,gl,ex,st,da,bI o])),(xo,some (9,[.int .i64 (c:Int), .int .u64 0, .int .u64 0, .nils, .nils, .nils, .nils, .bool false, .nils]))] [] from jfo hl hlx hs hx];by_cases hd16:deep=16
 .subst hd16;have w1:IntKind.i64.wrap ((a:Int)-1)=(a:Int)-1:=wrap_i64 (by omega) (by omega);have hp:brR rb (decide (16=16)) c ts b a o = .error (7,(a:Int)-1,0):=by simp [brR]
  refine bk ?_;refine XQ E ?_ (r:=by conv=>lhs;simp[QV,g1,w1]);refine jb rfl (qI _ _ _ E (fun T hk=>(hE _ hp) T (hk.up ?_ ?_))) ?_
  .simp
  .simp
  .rintro _ _ h; exact h.elim
 .have d0 : ¬ (deep:Int)=16:=by omega
  have hb:=hb (by omega);have w2:IntKind.i64.wrap ((deep:Int)+1)=(deep:Int)+1:=wrap_i64 (by omega) (by omega);rw [bg hd16] at hE ⊢;refine bi d0 ?_;refine XQ E ?_;refine jde rfl (afm ro) hl (by first | assumption | omega) h2 h3 (by first | assumption | omega) h5 ?_ ?_
  .intro e he;exact hE e (by simp [brR,he])
  intro ty a1 o1 ht ha1 ho1;refine XN ?_ (r:=by conv=>lhs;simp[QV,g2,u2]);refine ja ?_;refine bm g2 u2 ?_;have e4:decide ((c:Int)=4)=decide (c=4):=decide_eq_decide.2 (by omega);refine XQ E ?_ (r:=by conv=>lhs;simp[QV,g2,w2,e4]);refine jde rfl (hb (decide (c=4))) hl (by first | assumption | omega) h2 h3 (by first | assumption | omega) h5 ?_ ?_
  .intro e he;exact hE e (by simp [brR,ht,he])
  rintro ⟨l,e⟩ a2 o2 hb1 ha2 ho2;simp only [YE];cases e with
  | false =>
   have hp:brR rb false c ts b a o = .ok (.mk c 0 0 ty l [] false [],a2,o2):=by simp [brR,ht,hb1]
   refine XN ?_ (r:=by conv=>lhs;simp[QV,g2,u2]);refine ja ?_;refine bm g2 u2 ?_;exact jn ⟨ty,l,[],false,a2,o2,hp,ha2,ho2,rfl,ag6 hwf hl hlx hne⟩
  | true =>
   refine XN ?_ (r:=by conv=>lhs;simp[QV,g2,u2]);refine ja ?_;refine bm g2 u2 ?_;refine XQ E ?_ (r:=by conv=>lhs;simp[QV,g2,w2]);refine jde rfl (hb false) hl (by first | assumption | omega) h2 h3 (by first | assumption | omega) h5 ?_ ?_
   .intro e he;exact hE e (by simp [brR,ht,hb1,he])
   rintro ⟨l2,e2⟩ a3 o3 hb2 ha3 ho3;simp only [YE];have hp:brR rb false c ts b a o = .ok (.mk c 0 0 ty l l2 true [],a3,o3):=by simp [brR,ht,hb1,hb2]
   refine XN ?_ (r:=by conv=>lhs;simp[QV,g2,u2]);refine ja ?_;exact jn ⟨ty,l,l2,true,a3,o3,hp,ha3,ho3,rfl,ag6 hwf hl hlx hne⟩
end Go.Vw
namespace Wm
theorem zV {b:List Nat} {a n a1:Nat} (h:index b a = .ok (n,a1)):n<=4294967295:=by
 simp only [index,u] at h;split at h
 .cases h
 .split at h
  .cases h
  .cases h; omega
theorem aa7 {α:Type} {p:Rd α} {b:List Nat} : ∀ {n a a1:Nat} {xs:List α},jag p n b a = .ok (xs,a1)->xs.length=n
 | 0,a,a1,xs,h=>by cases h; rfl
 | n+1,a,a1,xs,h=>by
  simp only [jag,Rd.bind_apply,Rd.pure_apply] at h;split at h
  .cases h
  .split at h
   .cases h
   .rename_i h1;cases h;rw [av,aa7 h1]
theorem ZC {α:Type} {p:Rd α} {most:Nat} {b:List Nat} {a a1:Nat} {xs:List α} (h:many most p b a = .ok (xs,a1)):xs.length<=most:=by
 simp only [many,Rd.bind_apply] at h;split at h
 .cases h
 .rename_i h1;rw [aa7 h];simp only [u] at h1;split at h1
  .cases h1
  .split at h1
   .cases h1
   .cases h1; omega
end Wm
namespace Go.Vw
open Go.Proofs Go.RowKit Wm
attribute [-simp] List.map_set
theorem anz (xs:List Nat) (t:Nat):xs.map bI++[V.int .i64 (t:Int)]=((xs++[t]).map fun n:Nat=>(n:Int)).map bH:=by simp [Function.comp_def]
theorem gTab {B:Store} {u:Upds} {l:OL} {x0 x1 x2:V} {n:Nat} (k:Nat) (xs:List Int) (hn:n=xs.length) (hk:k<l.length) (hg:(l[k]?).join=some (1,jF bH xs)) :
  Ghost (.agg [x0,x1,x2, .nils, .nils, .nils, .nils, .bool false, .slice (lid B.nx k) 0 n]) (St B u l) (.agg [x0,x1,x2, .list [], .list [], .list [], .list [], .bool false,vl bH xs]) (St B u (l.set k none)):=by
 subst hn;have h1:=GhostArgs.one [x0,x1,x2, .nils, .nils, .nils, .nils, .bool false] [] (jdF (B:=B) (k:=k) (u:=u) (enc:=bH) (fun _=>rfl) (fun _=>rfl) xs hk hg);have h2:=jfV (St B u (l.set k none)) [x0,x1,x2] [.nils, .nils, .nils, .nils, .bool false,vl bH xs];exact Zj (h1.trans h2)
theorem qg (p:Nat->Bool) (x:Wm.Ins):(encI x).ids p=true:=by
 cases x; rw [jK]; simp
theorem WT {n:Nat} (h:n<=4294967295):IntKind.u64.wrap (n:Int)=(n:Int):=by rw [jZ]; omega
theorem ag8 (ro deep c:Nat) (hd:deep<=16) (hc:c<256) (rb:Bool->Rt (List Wm.Ins × Bool)) (hb:deep<16 -> ∀ other,RdT Tryz.prog 112 [.ptr ro 0,bH ((deep:Int)+1), .bool other] ro YE (rb other)) :
  RdT Tryz.prog 136 [.ptr ro 0, .int .i64 (c:Int), .int .i64 (deep:Int)] ro encI (zt rb (decide (deep=16)) c):=by
 intro b a ts im fu pg mo gl ex st da o S E h1 h2 h3 h4 h5 hs hE;have cA:=jgm (c:Int);have cN:=ad5 (c:Int) ⟨by omega,by omega⟩;have cG:=aqm (c:Int);have wA:IntKind.i64.wrap ((a:Int)-1)=(a:Int)-1:=wrap_i64 (by omega) (by omega);have hop : ∀ p,opR c=p -> ¬ (c=2\/c=3\/c=4)->zt rb (decide (deep=16)) c ts b a o=ofR p ts b a o:=by
  intro p hp hn;unfold zt;rw [if_neg hn,hp]
 unfold opR at hop;generalize Ss.accOf (c:Int)=ac at *
 generalize Ss.bJ (c:Int)=ns at *
 obtain ⟨n1,n2,n3⟩:=ns;simp only at cN hop;refine qA (c:=jf Tryz.f136) Tryz.func136 rfl (by conv=>lhs; reduce) (by simp [Tryz.ntmps136]) ?_;rw [Tryz.ntmps136];intro hwf;have h4':o<=1000:=by omega
 have hl:=jx hwf hs;have hg:=old1 hl;have hu:=oldU hl;rw [show St S [] []=St S [(ro,some (12,[vl vb b,bI a,vl je ts,im,fu,pg,mo,gl,ex,st,da,bI o]))] [] from old0 hl hs];refine bk ?_;refine XQ E ?_;refine qr rfl (cA) ?_;refine XN ?_;refine ja ?_;refine bk ?_;refine XQ E ?_;refine qr rfl (cN) ?_;refine XN ?_;refine ja ?_;refine bk ?_;by_cases k0:c=0\/c=1\/c=15\/c=26\/c=27
 .rw [if_pos k0] at hop;have hp:=hop _ rfl (by omega);simp only [ofR,Rd.pure] at hp;clear hop;rcases k0 with rfl | rfl | rfl | rfl | rfl
  .refine bk ?_;refine ⟨_,(by conv=>lhs; simp [resL,qC]), ?_⟩;exact jt hwf (by rw [plain,jK]; exact jU _ _) hs hp h1 h4 (qg _ _)
  .refine bk ?_;refine ⟨_,(by conv=>lhs; simp [resL,qC]), ?_⟩;exact jt hwf (by rw [plain,jK]; exact jU _ _) hs hp h1 h4 (qg _ _)
  .refine bk ?_;refine ⟨_,(by conv=>lhs; simp [resL,qC]), ?_⟩;exact jt hwf (by rw [plain,jK]; exact jU _ _) hs hp h1 h4 (qg _ _)
  .refine bk ?_;refine ⟨_,(by conv=>lhs; simp [resL,qC]), ?_⟩;exact jt hwf (by rw [plain,jK]; exact jU _ _) hs hp h1 h4 (qg _ _)
  .refine bk ?_;refine ⟨_,(by conv=>lhs; simp [resL,qC]), ?_⟩;exact jt hwf (by rw [plain,jK]; exact jU _ _) hs hp h1 h4 (qg _ _)
 rw [if_neg k0] at hop;by_cases kb:c=2\/c=3\/c=4
 .clear hop;have hbr:zt rb (decide (deep=16)) c ts b a o=brR rb (decide (deep=16)) c ts b a o:=by
   unfold zt; rw [if_pos kb]
  have cB:=fun l=>at5 ro (lid S.nx 1) deep c hd rb hb b a ts im fu pg mo gl ex st da o (St S [(ro,some (12,[vl vb b,bI a,vl je ts,im,fu,pg,mo,gl,ex,st,da,bI o]))] [l,some (9,[.int .i64 (c:Int), .int .u64 0, .int .u64 0, .nils, .nils, .nils, .nils, .bool false, .nils])]) E h1 h2 h3 h4 h5 (hg _ _) (by simp) (by simp [lid]; omega) (fun e he T hk=>hE e (by rw [hbr,he]) T (hk.up (by simp) (by simp [lid])));rw [hbr];clear hbr hE cA cN cG k0;rcases kb with rfl | rfl | rfl
  .refine bk ?_;refine XQ E ?_;refine jb rfl (cB _) ?_;rintro r T ⟨ty,l,l2,e,a1,o1,hp,ha1,ho1,rfl,rfl⟩;have hT : ∀ l0 X Y,((St S [(ro,some (12,[vl vb b,bI a,vl je ts,im,fu,pg,mo,gl,ex,st,da,bI o]))] [l0,X]).upd ro (12,rct b a1 ts im fu pg mo gl ex st da o1)).upd (lid S.nx 1) Y=St S [(ro,some (12,[vl vb b,bI a1,vl je ts,im,fu,pg,mo,gl,ex,st,da,bI o1]))] [l0,some Y]:=by
    intro l0 X Y;rw [hu,Yn]
    .rfl
    .simp
   rw [hT];have hl2:e=false->l2=[]:=by
    intro he;subst he;simp only [brR] at hp;split at hp
    .cases hp
    .split at hp
     .cases hp
     .split at hp
      .cases hp
      .cases hp; rfl
      .split at hp
       .cases hp
       .cases hp
   cases e with
   | false =>
    rw [hl2 rfl] at hp ⊢;simp only [brC];refine ja ?_;refine bk ?_;refine ⟨_,(by conv=>lhs; simp [resL,qC]), ?_⟩;exact jt hwf (by rw [jK]; exact jU _ _) hs hp ha1 ho1 (qg _ _)
   | true =>
    simp only [brC];refine ja ?_;refine bk ?_;refine ⟨_,(by conv=>lhs; simp [resL,qC]), ?_⟩;exact jt hwf (by rw [jK]; exact jU _ _) hs hp ha1 ho1 (qg _ _)
  .refine bk ?_;refine XQ E ?_;refine jb rfl (cB _) ?_;rintro r T ⟨ty,l,l2,e,a1,o1,hp,ha1,ho1,rfl,rfl⟩;have hT : ∀ l0 X Y,((St S [(ro,some (12,[vl vb b,bI a,vl je ts,im,fu,pg,mo,gl,ex,st,da,bI o]))] [l0,X]).upd ro (12,rct b a1 ts im fu pg mo gl ex st da o1)).upd (lid S.nx 1) Y=St S [(ro,some (12,[vl vb b,bI a1,vl je ts,im,fu,pg,mo,gl,ex,st,da,bI o1]))] [l0,some Y]:=by
    intro l0 X Y;rw [hu,Yn]
    .rfl
    .simp
   rw [hT];have hl2:e=false->l2=[]:=by
    intro he;subst he;simp only [brR] at hp;split at hp
    .cases hp
    .split at hp
     .cases hp
     .split at hp
      .cases hp
      .cases hp; rfl
      .split at hp
       .cases hp
       .cases hp
   cases e with
   | false =>
    rw [hl2 rfl] at hp ⊢;simp only [brC];refine ja ?_;refine bk ?_;refine ⟨_,(by conv=>lhs; simp [resL,qC]), ?_⟩;exact jt hwf (by rw [jK]; exact jU _ _) hs hp ha1 ho1 (qg _ _)
   | true =>
    simp only [brC];refine ja ?_;refine bk ?_;refine ⟨_,(by conv=>lhs; simp [resL,qC]), ?_⟩;exact jt hwf (by rw [jK]; exact jU _ _) hs hp ha1 ho1 (qg _ _)
  .refine bk ?_;refine XQ E ?_;refine jb rfl (cB _) ?_;rintro r T ⟨ty,l,l2,e,a1,o1,hp,ha1,ho1,rfl,rfl⟩;have hT : ∀ l0 X Y,((St S [(ro,some (12,[vl vb b,bI a,vl je ts,im,fu,pg,mo,gl,ex,st,da,bI o]))] [l0,X]).upd ro (12,rct b a1 ts im fu pg mo gl ex st da o1)).upd (lid S.nx 1) Y=St S [(ro,some (12,[vl vb b,bI a1,vl je ts,im,fu,pg,mo,gl,ex,st,da,bI o1]))] [l0,some Y]:=by
    intro l0 X Y;rw [hu,Yn]
    .rfl
    .simp
   rw [hT];have hl2:e=false->l2=[]:=by
    intro he;subst he;simp only [brR] at hp;split at hp
    .cases hp
    .split at hp
     .cases hp
     .split at hp
      .cases hp
      .cases hp; rfl
      .split at hp
       .cases hp
       .cases hp
   cases e with
   | false =>
    rw [hl2 rfl] at hp ⊢;simp only [brC];refine ja ?_;refine bk ?_;refine ⟨_,(by conv=>lhs; simp [resL,qC]), ?_⟩;exact jt hwf (by rw [jK]; exact jU _ _) hs hp ha1 ho1 (qg _ _)
   | true =>
    simp only [brC];refine ja ?_;refine bk ?_;refine ⟨_,(by conv=>lhs; simp [resL,qC]), ?_⟩;exact jt hwf (by rw [jK]; exact jU _ _) hs hp ha1 ho1 (qg _ _)
 replace hop:=fun p hp=>hop p hp kb
 by_cases ki:c=12\/c=13\/c=16\/c=32\/c=33\/c=34\/c=35\/c=36
 .rw [if_pos ki] at hop
  replace hop:=hop _ rfl
  simp only [ofR,Rd.bind,Rd.pure] at hop;clear cA cN cG k0 kb;rcases ki with rfl | rfl | rfl | rfl | rfl | rfl | rfl | rfl
  .refine bk ?_;refine XQ E ?_;refine jL rfl (zl ro) hl ?_ ?_
   .intro e he;exact hE e (by rw [hop,he])
   intro n a1 hn ha1;have wI:=WT (zV hn);rw [hn] at hop;have hp:=hop;refine XN ?_ (r:=by conv=>lhs;simp[QV,wI]);refine ja ?_;refine bk ?_;refine ⟨_,(by conv=>lhs; simp [resL,qC]), ?_⟩;exact jt hwf (by rw [JY,jK]; exact jU _ _) hs hp ha1 h4 (qg _ _)
  .refine bk ?_;refine XQ E ?_;refine jL rfl (zl ro) hl ?_ ?_
   .intro e he;exact hE e (by rw [hop,he])
   intro n a1 hn ha1;have wI:=WT (zV hn);rw [hn] at hop;have hp:=hop;refine XN ?_ (r:=by conv=>lhs;simp[QV,wI]);refine ja ?_;refine bk ?_;refine ⟨_,(by conv=>lhs; simp [resL,qC]), ?_⟩;exact jt hwf (by rw [JY,jK]; exact jU _ _) hs hp ha1 h4 (qg _ _)
  .refine bk ?_;refine XQ E ?_;refine jL rfl (zl ro) hl ?_ ?_
   .intro e he;exact hE e (by rw [hop,he])
   intro n a1 hn ha1;have wI:=WT (zV hn);rw [hn] at hop;have hp:=hop;refine XN ?_ (r:=by conv=>lhs;simp[QV,wI]);refine ja ?_;refine bk ?_;refine ⟨_,(by conv=>lhs; simp [resL,qC]), ?_⟩;exact jt hwf (by rw [JY,jK]; exact jU _ _) hs hp ha1 h4 (qg _ _)
  .refine bk ?_;refine XQ E ?_;refine jL rfl (zl ro) hl ?_ ?_
   .intro e he;exact hE e (by rw [hop,he])
   intro n a1 hn ha1;have wI:=WT (zV hn);rw [hn] at hop;have hp:=hop;refine XN ?_ (r:=by conv=>lhs;simp[QV,wI]);refine ja ?_;refine bk ?_;refine ⟨_,(by conv=>lhs; simp [resL,qC]), ?_⟩;exact jt hwf (by rw [JY,jK]; exact jU _ _) hs hp ha1 h4 (qg _ _)
  .refine bk ?_;refine XQ E ?_;refine jL rfl (zl ro) hl ?_ ?_
   .intro e he;exact hE e (by rw [hop,he])
   intro n a1 hn ha1;have wI:=WT (zV hn);rw [hn] at hop;have hp:=hop;refine XN ?_ (r:=by conv=>lhs;simp[QV,wI]);refine ja ?_;refine bk ?_;refine ⟨_,(by conv=>lhs; simp [resL,qC]), ?_⟩;exact jt hwf (by rw [JY,jK]; exact jU _ _) hs hp ha1 h4 (qg _ _)
  .refine bk ?_;refine XQ E ?_;refine jL rfl (zl ro) hl ?_ ?_
   .intro e he;exact hE e (by rw [hop,he])
   intro n a1 hn ha1;have wI:=WT (zV hn);rw [hn] at hop;have hp:=hop;refine XN ?_ (r:=by conv=>lhs;simp[QV,wI]);refine ja ?_;refine bk ?_;refine ⟨_,(by conv=>lhs; simp [resL,qC]), ?_⟩;exact jt hwf (by rw [JY,jK]; exact jU _ _) hs hp ha1 h4 (qg _ _)
  .refine bk ?_;refine XQ E ?_;refine jL rfl (zl ro) hl ?_ ?_
   .intro e he;exact hE e (by rw [hop,he])
   intro n a1 hn ha1;have wI:=WT (zV hn);rw [hn] at hop;have hp:=hop;refine XN ?_ (r:=by conv=>lhs;simp[QV,wI]);refine ja ?_;refine bk ?_;refine ⟨_,(by conv=>lhs; simp [resL,qC]), ?_⟩;exact jt hwf (by rw [JY,jK]; exact jU _ _) hs hp ha1 h4 (qg _ _)
  .refine bk ?_;refine XQ E ?_;refine jL rfl (zl ro) hl ?_ ?_
   .intro e he;exact hE e (by rw [hop,he])
   intro n a1 hn ha1;have wI:=WT (zV hn);rw [hn] at hop;have hp:=hop;refine XN ?_ (r:=by conv=>lhs;simp[QV,wI]);refine ja ?_;refine bk ?_;refine ⟨_,(by conv=>lhs; simp [resL,qC]), ?_⟩;exact jt hwf (by rw [JY,jK]; exact jU _ _) hs hp ha1 h4 (qg _ _)
 rw [if_neg ki] at hop;by_cases kt:c=14
 .rw [if_pos kt] at hop
  replace hop:=hop _ rfl
  simp only [ofR] at hop;clear cA cN cG k0 kb ki;subst kt;refine bk ?_;refine XQ E ?_;refine jb rfl (ao7 (most:=64) (p:=index) (by omega) hwf ⟨_,_,hs⟩ ⟨by assumption,h2,h3,by assumption⟩ (zl ro) rfl ?_) ?_
  .intro e he;exact hE e (by rw [hop]; simp only [tabR]; rw [he])
  rintro r T ⟨xs,a1,hxs,ha1,rfl,rfl⟩;have hxl:=ZC hxs;refine XN ?_;refine jL rfl (zl ro) hl ?_ ?_
  .intro e he;exact hE e (by rw [hop]; simp only [tabR]; rw [hxs]; simp only; rw [he])
  intro t a2 ht ha2;have hp:zt rb (decide (deep=16)) 14 ts b a o = .ok (.mk 14 0 0 ⟨[],[]⟩ [] [] false ((xs++[t]).map fun n:Nat=>(n:Int)),a2,o):=by rw [hop]; simp only [tabR]; rw [hxs]; simp only; rw [ht]; rfl
  have hb1:(xs.length+1)*8<=140737488355328:=by omega
  have hb2:xs.length+1<=140737488355328:=by omega
  have hfl:(jF bI xs).length=xs.length:=by rw [jeP,aB]
  refine XN ?_ (r:=by conv=>lhs;simp[QV,hb1,hb2,hfl]);refine ja ?_;refine bk ?_;rw [jeP,anz] at *
  refine ⟨_,(by conv=>lhs; simp [resL,qC]), ?_⟩;exact jt hwf (by rw [jK]; exact gTab 4 ((xs++[t]).map fun n:Nat=>(n:Int)) (by simp) (by simp) (by rw [Ji]; rfl)) hs hp ha2 h4 (qg _ _)
 rw [if_neg kt] at hop;by_cases km:c=63\/c=64
 .rw [if_pos km] at hop
  replace hop:=hop _ rfl
  simp only [ofR,Rd.bind,Rd.pure] at hop;clear cA cN cG k0 kb ki kt;rcases km with rfl | rfl
  .refine bk ?_;refine XQ E ?_;refine Jr rfl (gOne 2 [0] (by simp) rfl) (jcn ro [0] (by simp)) hl ?_ ?_
   .intro e he;exact hE e (by rw [hop,he])
   intro n a1 hn ha1;rw [hn] at hop;have hp:=hop;refine XN ?_;refine ja ?_;refine bk ?_;refine ⟨_,(by conv=>lhs; simp [resL,qC]), ?_⟩;exact jt hwf (by rw [plain,jK]; exact jU _ _) hs hp ha1 h4 (qg _ _)
  .refine bk ?_;refine XQ E ?_;refine Jr rfl (gOne 2 [0] (by simp) rfl) (jcn ro [0] (by simp)) hl ?_ ?_
   .intro e he;exact hE e (by rw [hop,he])
   intro n a1 hn ha1;rw [hn] at hop;have hp:=hop;refine XN ?_;refine ja ?_;refine bk ?_;refine ⟨_,(by conv=>lhs; simp [resL,qC]), ?_⟩;exact jt hwf (by rw [plain,jK]; exact jU _ _) hs hp ha1 h4 (qg _ _)
 rw [if_neg km] at hop;by_cases kn65:c=65
 .rw [if_pos kn65] at hop
  replace hop:=hop _ rfl
  simp only [ofR,Rd.bind,Rd.pure] at hop;clear cA cN cG k0 kb ki kt km;subst kn65;refine bk ?_;refine XQ E ?_;refine jL rfl (jbv ro) hl ?_ ?_
  .intro e he;exact hE e (by rw [hop,he])
  intro n a1 hn ha1;rw [hn] at hop;have hp:=hop;refine XN ?_;refine ja ?_;refine bk ?_;refine ⟨_,(by conv=>lhs; simp [resL,qC]), ?_⟩;exact jt hwf (by rw [JY,jK]; exact jU _ _) hs hp ha1 h4 (qg _ _)
 rw [if_neg kn65] at hop;by_cases kn66:c=66
 .rw [if_pos kn66] at hop
  replace hop:=hop _ rfl
  simp only [ofR,Rd.bind,Rd.pure] at hop;clear cA cN cG k0 kb ki kt km;subst kn66;refine bk ?_;refine XQ E ?_;refine jL rfl (jeG ro) hl ?_ ?_
  .intro e he;exact hE e (by rw [hop,he])
  intro n a1 hn ha1;rw [hn] at hop;have hp:=hop;refine XN ?_;refine ja ?_;refine bk ?_;refine ⟨_,(by conv=>lhs; simp [resL,qC]), ?_⟩;exact jt hwf (by rw [JY,jK]; exact jU _ _) hs hp ha1 h4 (qg _ _)
 rw [if_neg kn66] at hop
 replace hop:=hop _ rfl
 have q0 : ¬ (c:Int)=0:=by omega
 have q1 : ¬ (c:Int)=1:=by omega
 have q15 : ¬ (c:Int)=15:=by omega
 have q26 : ¬ (c:Int)=26:=by omega
 have q27 : ¬ (c:Int)=27:=by omega
 have q2 : ¬ (c:Int)=2:=by omega
 have q3 : ¬ (c:Int)=3:=by omega
 have q4 : ¬ (c:Int)=4:=by omega
 have q12 : ¬ (c:Int)=12:=by omega
 have q13 : ¬ (c:Int)=13:=by omega
 have q16 : ¬ (c:Int)=16:=by omega
 have q32 : ¬ (c:Int)=32:=by omega
 have q33 : ¬ (c:Int)=33:=by omega
 have q34 : ¬ (c:Int)=34:=by omega
 have q35 : ¬ (c:Int)=35:=by omega
 have q36 : ¬ (c:Int)=36:=by omega
 have q14 : ¬ (c:Int)=14:=by omega
 have q63 : ¬ (c:Int)=63:=by omega
 have q64 : ¬ (c:Int)=64:=by omega
 have q65 : ¬ (c:Int)=65:=by omega
 have q66 : ¬ (c:Int)=66:=by omega
 have q0' : ¬ c=0:=by omega
 have q1' : ¬ c=1:=by omega
 clear k0 kb ki kt km kn65 kn66;rw [show decide (c=0)=false from bg q0'];cases ac with
 | none =>
  simp only [Option.getD_none,Option.isSome_none] at cA ⊢;cases n3 with
  | true =>
   rw [if_pos rfl] at hop;simp only [ofR,Rd.pure] at hop;have hp:=hop
   repeat first|refine QG ?_|refine QY ?_ (r:=by conv=>lhs;simp[QV,q0,q1,q15,q26,q27,q2,q3,q4,q12,q13,q16,q32,q33,q34,q35,q36,q14,q63,q64,q65,q66,q0',q1'])
   refine ⟨_,(by conv=>lhs; simp [resL,qC]), ?_⟩;exact jt hwf (by rw [plain,jK]; exact jU _ _) hs hp h1 h4 (qg _ _)
  | false =>
   rw [if_neg (by decide)] at hop;cases hG:Wm.absent (c:Int) with
   | true =>
    rw [hG] at hop cG;rw [if_pos rfl] at hop;have hp:zt rb (decide (deep=16)) c ts b a o = .error (11,(a:Int)-1,0):=hop
    repeat first|refine QG ?_|refine QY ?_ (r:=by conv=>lhs;simp[QV,q0,q1,q15,q26,q27,q2,q3,q4,q12,q13,q16,q32,q33,q34,q35,q36,q14,q63,q64,q65,q66,q0',q1'])
    refine XQ E ?_;refine qr rfl (cG) ?_;refine XN ?_;refine ja ?_;refine bk ?_;refine XQ E ?_ (r:=by conv=>lhs;simp[QV,hg,wA]);refine jb rfl (qI _ _ _ E (fun T hk=>(hE _ hp) T (hk.up ?_ ?_))) ?_
    .simp
    .simp
    .rintro _ _ h; exact h.elim
   | false =>
    rw [hG] at hop cG;rw [if_neg (by decide)] at hop;have hp:zt rb (decide (deep=16)) c ts b a o = .error (6,(a:Int)-1,0):=hop
    repeat first|refine QG ?_|refine QY ?_ (r:=by conv=>lhs;simp[QV,q0,q1,q15,q26,q27,q2,q3,q4,q12,q13,q16,q32,q33,q34,q35,q36,q14,q63,q64,q65,q66,q0',q1'])
    refine XQ E ?_;refine qr rfl (cG) ?_;refine XN ?_;refine ja ?_;refine bk ?_;refine XQ E ?_ (r:=by conv=>lhs;simp[QV,hg,wA]);refine jb rfl (qI _ _ _ E (fun T hk=>(hE _ hp) T (hk.up ?_ ?_))) ?_
    .simp
    .simp
    .rintro _ _ h; exact h.elim
 | some acc =>
  obtain ⟨a1',aw,a3',a4'⟩:=acc;simp only [aJ,Option.isSome_some,ofR,accR] at cA hop ⊢
  repeat first|refine QG ?_|refine QY ?_ (r:=by conv=>lhs;simp[QV,q0,q1,q15,q26,q27,q2,q3,q4,q12,q13,q16,q32,q33,q34,q35,q36,q14,q63,q64,q65,q66,q0',q1',hg])
  refine XQ E ?_;refine jL rfl (zl ro) hl ?_ ?_
  .intro e he;exact hE e (by rw [hop]; simp only [he])
  intro m a1 hm ha1;have wI:=WT (zV hm);rw [hm] at hop;simp only at hop;refine XN ?_ (r:=by conv=>lhs;simp[QV,wI]);refine ja ?_;by_cases hm3:3<m
  .have hp:zt rb (decide (deep=16)) c ts b a o = .error (6,(a:Int),0):=by rw [hop,if_pos (.inl hm3)]
   have d3:(3:Int)<(m:Int):=by omega
   refine bm d3 hm3 ?_;refine XQ E ?_;refine jb rfl (qI _ _ _ E (fun T hk=>(hE _ hp) T (hk.up ?_ ?_))) ?_
   .simp
   .simp
   .rintro _ _ h; exact h.elim
  .have tail : ∀ n a2,index b a1 = .ok (n,a2)->True:=fun _ _ _=>trivial;have hm4:m=0\/m=1\/m=2\/m=3:=by omega
   clear hm3;rcases hm4 with rfl | rfl | rfl | rfl
   .have sh:IntKind.i64.wrap 1=1:=rfl;have wk:((2^0:Nat):Int)=1:=rfl;by_cases hw:aw<1
    .have hp:zt rb (decide (deep=16)) c ts b a o = .error (6,(a:Int),0):=by rw [hop,if_pos (.inr (by rw [wk]; exact hw))]
     refine bm hw sh ?_;refine XQ E ?_;refine jb rfl (qI _ _ _ E (fun T hk=>(hE _ hp) T (hk.up ?_ ?_))) ?_
     .simp
     .simp
     .rintro _ _ h; exact h.elim
    .have hn3 : ¬ (3<0\/aw<((2^0:Nat):Int)):=by rw [wk]; omega
     rw [if_neg hn3] at hop;refine bm hw sh ?_;refine XQ E ?_;refine jL rfl (zl ro) hl ?_ ?_
     .intro e he;exact hE e (by rw [hop]; simp only [he])
     intro n a2 hn ha2;have wJ:=WT (zV hn);rw [hn] at hop;simp only at hop;have hp:=hop;refine XN ?_ (r:=by conv=>lhs;simp[QV,wJ]);refine ja ?_;refine bk ?_;refine ⟨_,(by conv=>lhs; simp [resL,qC]), ?_⟩;exact jt hwf (by rw [JY,jK]; exact jU _ _) hs hp ha2 h4 (qg _ _)
   .have sh:IntKind.i64.wrap (2^min 1 IntKind.i64.bits)=2:=rfl;have wk:((2^1:Nat):Int)=2:=rfl;by_cases hw:aw<2
    .have hp:zt rb (decide (deep=16)) c ts b a o = .error (6,(a:Int),0):=by rw [hop,if_pos (.inr (by rw [wk]; exact hw))]
     refine bm hw sh ?_;refine XQ E ?_;refine jb rfl (qI _ _ _ E (fun T hk=>(hE _ hp) T (hk.up ?_ ?_))) ?_
     .simp
     .simp
     .rintro _ _ h; exact h.elim
    .have hn3 : ¬ (3<1\/aw<((2^1:Nat):Int)):=by rw [wk]; omega
     rw [if_neg hn3] at hop;refine bm hw sh ?_;refine XQ E ?_;refine jL rfl (zl ro) hl ?_ ?_
     .intro e he;exact hE e (by rw [hop]; simp only [he])
     intro n a2 hn ha2;have wJ:=WT (zV hn);rw [hn] at hop;simp only at hop;have hp:=hop;refine XN ?_ (r:=by conv=>lhs;simp[QV,wJ]);refine ja ?_;refine bk ?_;refine ⟨_,(by conv=>lhs; simp [resL,qC]), ?_⟩;exact jt hwf (by rw [JY,jK]; exact jU _ _) hs hp ha2 h4 (qg _ _)
   .have sh:IntKind.i64.wrap (2^min 2 IntKind.i64.bits)=4:=rfl;have wk:((2^2:Nat):Int)=4:=rfl;by_cases hw:aw<4
    .have hp:zt rb (decide (deep=16)) c ts b a o = .error (6,(a:Int),0):=by rw [hop,if_pos (.inr (by rw [wk]; exact hw))]
     refine bm hw sh ?_;refine XQ E ?_;refine jb rfl (qI _ _ _ E (fun T hk=>(hE _ hp) T (hk.up ?_ ?_))) ?_
     .simp
     .simp
     .rintro _ _ h; exact h.elim
    .have hn3 : ¬ (3<2\/aw<((2^2:Nat):Int)):=by rw [wk]; omega
     rw [if_neg hn3] at hop;refine bm hw sh ?_;refine XQ E ?_;refine jL rfl (zl ro) hl ?_ ?_
     .intro e he;exact hE e (by rw [hop]; simp only [he])
     intro n a2 hn ha2;have wJ:=WT (zV hn);rw [hn] at hop;simp only at hop;have hp:=hop;refine XN ?_ (r:=by conv=>lhs;simp[QV,wJ]);refine ja ?_;refine bk ?_;refine ⟨_,(by conv=>lhs; simp [resL,qC]), ?_⟩;exact jt hwf (by rw [JY,jK]; exact jU _ _) hs hp ha2 h4 (qg _ _)
   .have sh:IntKind.i64.wrap (2^min 3 IntKind.i64.bits)=8:=rfl;have wk:((2^3:Nat):Int)=8:=rfl;by_cases hw:aw<8
    .have hp:zt rb (decide (deep=16)) c ts b a o = .error (6,(a:Int),0):=by rw [hop,if_pos (.inr (by rw [wk]; exact hw))]
     refine bm hw sh ?_;refine XQ E ?_;refine jb rfl (qI _ _ _ E (fun T hk=>(hE _ hp) T (hk.up ?_ ?_))) ?_
     .simp
     .simp
     .rintro _ _ h; exact h.elim
    .have hn3 : ¬ (3<3\/aw<((2^3:Nat):Int)):=by rw [wk]; omega
     rw [if_neg hn3] at hop;refine bm hw sh ?_;refine XQ E ?_;refine jL rfl (zl ro) hl ?_ ?_
     .intro e he;exact hE e (by rw [hop]; simp only [he])
     intro n a2 hn ha2;have wJ:=WT (zV hn);rw [hn] at hop;simp only at hop;have hp:=hop;refine XN ?_ (r:=by conv=>lhs;simp[QV,wJ]);refine ja ?_;refine bk ?_;refine ⟨_,(by conv=>lhs; simp [resL,qC]), ?_⟩;exact jt hwf (by rw [JY,jK]; exact jU _ _) hs hp ha2 h4 (qg _ _)
theorem byte_lt {b:List Nat} {a c a1:Nat} (h3 : ∀ x∈b,x<256) (ha:a<=b.length) (h:byte1 b a = .ok (c,a1)):c<256/\a1=a+1/\a<b.length:=by
 simp only [byte1] at h;split at h
 .cases h
 .cases h
  rename_i h;rw [af,aa (by omega)];exact ⟨h3 _ (ah _),rfl,by omega⟩
theorem ag4 (ro deep:Nat) (hd:deep<=16) (other:Bool) (ri:Nat->Rt Wm.Ins) (hi : ∀ c:Nat,c<256->RdT Tryz.prog 136 [.ptr ro 0, .int .i64 (c:Int), .int .i64 (deep:Int)] ro encI (ri c)) (hon : ∀ c,(ri c).On) :
  RdT Tryz.prog 112 [.ptr ro 0, .int .i64 (deep:Int), .bool other] ro YE (runR ri other):=by
 intro b a ts im fu pg mo gl ex st da o S E h1 h2 h3 h4 h5 hs hE;refine jc (c:=jf Tryz.f112) Tryz.func112 rfl rfl (by simp [Tryz.ntmps112]) ?_;rw [Tryz.ntmps112];intro hwf;have h4':o<=1000:=by omega
 have hl:=jx hwf hs;have hg:=old1 hl;have hu:=oldU hl;rw [show St S [] []=St S [(ro,some (12,[vl vb b,bI a,vl je ts,im,fu,pg,mo,gl,ex,st,da,bI o]))] [] from old0 hl hs];obtain ⟨_,p2,p3,p4,p5,p6,p7,p8,p9⟩:=Ya (s:=⟨b,a,vl je ts,im,fu,pg,mo,gl,ex,st,da,o⟩) hwf hs;have x2:=p2.ren;have x3:=p3.ren;have x4:=p4.ren;have x5:=p5.ren;have x6:=p6.ren;have x7:=p7.ren;have x8:=p8.ren;have x9:=p9.ren;have y2:=p2.ids;have y3:=p3.ids;have y4:=p4.ids;have y5:=p5.ids;have y6:=p6.ids;have y7:=p7.ids;have y8:=p8.ids;have y9:=p9.ids;have z1:=fun ks=>jcG (n:=S.nx) ks hl;have z2:=fun ks=>jfW (n:=S.nx) ks hl;have hr1:=fun f l=>Ju Wr f l;have hr2:=fun p l=>Je Wr p l;refine bk ?_;refine Wa 8 9 rfl (by conv=>lhs; simp [Fr.set]) ?_;refine bB [0,1,2,8] (fun c σ' S' => ∃ (xs:List Wm.Ins) (a' o' f:Nat),a'<=b.length/\o'<=512/\xs.length<=a'/\c=b.length-a'/\b.length-a'<f/\jbz ri other f xs ts b a' o'=runR ri other ts b a o/\σ'=[(0, .ptr ro 0),(1, .int .i64 (deep:Int)),(2, .bool other),(8, .slice (lid S.nx 0) 0 xs.length)]/\S'=St S [(ro,some (12,[vl vb b, .int .i64 (a':Int),vl je ts,im,fu,pg,mo,gl,ex,st,da, .int .i64 (o':Int)]))] [some (9,jF encI xs)]) (b.length-a) ?_ ?_
 .exact ⟨[],a,o,b.length-a+1,h1,h4,by simp,rfl,by omega,rfl,by simp [Fr.oy],by simp [jF]⟩
 .rintro c0 σ' T ⟨xs,a',o',f,ha',ho',hlen,rfl,hf,hgo,rfl,rfl⟩;obtain ⟨f,rfl⟩ : ∃ g,f=g+1:=⟨f-1,by omega⟩
  have ho'':o'<=1000:=by omega
  simp only [jbz] at hgo;refine bk ?_;refine XQ E ?_;refine jL rfl (jao ro) hl ?_ ?_
  .intro e he;exact hE e (by rw [<-hgo,he])
  intro c a1 hc ha1;obtain ⟨hc2,ha1e,hlt⟩:=byte_lt h3 ha' hc;rw [hc] at hgo;simp only at hgo;have wA:IntKind.i64.wrap ((a1:Int)-1)=(a1:Int)-1:=wrap_i64 (by omega) (by omega);obtain ⟨o1,hoe⟩ : ∃ o1:Nat,o'+1=o1:=⟨_,rfl⟩
  have wO:IntKind.i64.wrap ((o':Int)+1)=(o1:Int):=by rw [wrap_i64 (by omega) (by omega)]; omega
  rw [hoe] at hgo;refine XN ?_;refine ja ?_;by_cases c11:c=11
  .subst c11;rw [if_pos rfl] at hgo;refine bk ?_;refine jt (l:=[none]) hwf ?_ hs hgo.symm ha1 ho' (by simp [YE]);exact Ghost.tp (S:=St S _ _) [] [.bool false] (jdF (B:=S) (k:=0) (enc:=encI) YD Wr xs (by simp) rfl)
  have d11 : ¬ (c:Int)=11:=by omega
  rw [if_neg c11] at hgo;have next : ∀ o1,o1<=1000->o1=(if c=5 then o' else o'+1) -> ∀ K:Prop,True:=fun _ _ _ _=>trivial
  by_cases c5:c=5
  .subst c5;cases other with
   | true =>
    rw [if_pos ⟨rfl,rfl⟩] at hgo;refine bk ?_;refine jt (l:=[none]) hwf ?_ hs hgo.symm ha1 ho' (by simp [YE]);exact Ghost.tp (S:=St S _ _) [] [.bool true] (jdF (B:=S) (k:=0) (enc:=encI) YD Wr xs (by simp) rfl)
   | false =>
    rw [if_neg (by simp),if_pos rfl,if_neg (by omega)] at hgo;have dO : ¬ 512<o':=by omega
    have dO' : ¬ (512:Int)<(o':Int):=by omega
    refine bq hg hu dO dO' ?_;refine XQ E ?_;refine ac4 rfl (hi 5 hc2) hl (by first | assumption | omega) h2 h3 (by first | assumption | omega) h5 ?_ ?_
    .intro e he;exact hE e (by rw [<-hgo,he])
    intro x a2 o2 hx ha2 ho2;have hon2:=hon _ _ _ _ _ _ _ _ hx;rw [hx] at hgo;simp only at hgo;have hz:=YD x;have hz1:=jbL x;have hz2:=adh x;have hb1:(xs.length+1)*152<=140737488355328:=by omega
    have hb2:xs.length+1<=140737488355328:=by omega
    have hfl:(jF encI xs).length=xs.length*9:=zS YD xs;have hfs:jF encI (xs++[x])=jF encI xs++(encI x).cells:=zD encI xs x;refine XN ?_ (r:=by conv=>lhs;simp[QV,-qx,qZ,YZ,hz1,hz2,hz,hb1,hb2,hfl]);rw [<-hfs];refine ja ?_;refine Jj [2] (by conv=>lhs; simp [Fr.oy]) hwf (by decide) (by simp [x2,x3,x4,x5,x6,x7,x8,x9,y2,y3,y4,y5,y6,y7,y8,y9,z1,z2,hr1,hr2]) (by conv=>lhs; simp [x2,x3,x4,x5,x6,x7,x8,x9,y2,y3,y4,y5,y6,y7,y8,y9,z1,z2,hr1,hr2]) (by conv=>lhs; simp [x2,x3,x4,x5,x6,x7,x8,x9,y2,y3,y4,y5,y6,y7,y8,y9,z1,z2,hr1,hr2]) (by conv=>lhs; simp [x2,x3,x4,x5,x6,x7,x8,x9,y2,y3,y4,y5,y6,y7,y8,y9,z1,z2,hr1,hr2]) ⟨?_,xs++[x],a2,o2,f,ha2,ho2,by simp; omega,rfl,by omega,hgo,by simp,rfl⟩;omega
  .have d5 : ¬ (c:Int)=5:=by omega
   rw [if_neg (fun h=>c5 h.1)] at hgo;simp only [if_neg c5] at hgo;by_cases hO:512<o1
   .rw [if_pos hO] at hgo;have dO:(512:Int)<(o1:Int):=by omega
    repeat first|refine QG ?_|refine QY ?_ (r:=by conv=>lhs;simp[QV,d11,d5,hg,hu,wO,dO,hO])
    refine XQ E ?_ (r:=by conv=>lhs;simp[QV,hg,wA]);refine jb rfl (qI _ _ _ E (fun T hk=>(hE _ hgo.symm) T (hk.up ?_ ?_))) ?_
    .simp
    .simp
    .rintro _ _ h; exact h.elim
   .rw [if_neg hO] at hgo;have dO : ¬ (512:Int)<(o1:Int):=by omega
    repeat first|refine QG ?_|refine QY ?_ (r:=by conv=>lhs;simp[QV,d11,d5,hg,hu,wO,dO,hO])
    refine XQ E ?_;refine ac4 rfl (hi c hc2) hl (by first | assumption | omega) h2 h3 (by first | assumption | omega) h5 ?_ ?_
    .intro e he;exact hE e (by rw [<-hgo,he])
    intro x a2 o2 hx ha2 ho2;have hon2:=hon _ _ _ _ _ _ _ _ hx;rw [hx] at hgo;simp only at hgo;have hz:=YD x;have hz1:=jbL x;have hz2:=adh x;have hb1:(xs.length+1)*152<=140737488355328:=by omega
    have hb2:xs.length+1<=140737488355328:=by omega
    have hfl:(jF encI xs).length=xs.length*9:=zS YD xs;have hfs:jF encI (xs++[x])=jF encI xs++(encI x).cells:=zD encI xs x;refine XN ?_ (r:=by conv=>lhs;simp[QV,-qx,qZ,YZ,hz1,hz2,hz,hb1,hb2,hfl]);rw [<-hfs];refine ja ?_;refine Jj [2] (by conv=>lhs; simp [Fr.oy]) hwf (by decide) (by simp [x2,x3,x4,x5,x6,x7,x8,x9,y2,y3,y4,y5,y6,y7,y8,y9,z1,z2,hr1,hr2]) (by conv=>lhs; simp [x2,x3,x4,x5,x6,x7,x8,x9,y2,y3,y4,y5,y6,y7,y8,y9,z1,z2,hr1,hr2]) (by conv=>lhs; simp [x2,x3,x4,x5,x6,x7,x8,x9,y2,y3,y4,y5,y6,y7,y8,y9,z1,z2,hr1,hr2]) (by conv=>lhs; simp [x2,x3,x4,x5,x6,x7,x8,x9,y2,y3,y4,y5,y6,y7,y8,y9,z1,z2,hr1,hr2]) ⟨?_,xs++[x],a2,o2,f,ha2,ho2,by simp; omega,rfl,by omega,hgo,by simp,rfl⟩;omega
theorem alh (ro:Nat) : ∀ (d deep:Nat) (hd:deep+d=16) (other:Bool),RdT Tryz.prog 112 [.ptr ro 0, .int .i64 (deep:Int), .bool other] ro YE (jgh d other)
 | 0,deep,hd,other=>by
  have hl:decide (deep=16)=true:=bf (by omega);have h:=fun c hc=>ag8 ro deep c (by omega) hc (fun _ _ _ _ _ => .error (0,0,0)) (fun h=>absurd h (by omega));rw [hl] at h;exact ag4 ro deep (by omega) other _ h (fun c=>jcC (fun _ _ _ _ _ _ _ _ h=>by cases h) _ c)
 | d+1,deep,hd,other=>by
  have hl:decide (deep=16)=false:=bg (by omega);have hb:=fun other=>alh ro d (deep+1) (by omega) other;have h:=fun c hc=>ag8 ro deep c (by omega) hc (jgh d) (fun _ other=>hb other);rw [hl] at h;exact ag4 ro deep (by omega) other _ h (fun c=>jcC (ag1 d) _ c)
end Go.Vw
namespace Wm
structure MS where
 b:List Nat
 a:Nat
 ty:List Sig
 im:List Import
 fs:Option (List Func)
 pg:Int
 mo:Int
 gl:List Global
 ex:List Export
 st:Int
 da:List Data
 ops:Nat
structure MS.ok (m:MS):Prop where
 a:m.a<=m.b.length
 b:m.b.length<=16384
 x : ∀ x∈m.b,x<256
 o:m.ops<=512
 ty:TyOk m.ty
 im:m.im.length<=32
 fs : ∀ l,m.fs=some l->l.length<=32
end Wm
namespace Go.Vw
open Wm
def encF (f:Wm.Func):V := .agg [bH f.type,vl bH f.locals,vl encI f.body]
theorem jga (f:Wm.Func):(encF f).cells.length=3:=rfl
theorem jdO (f:Wm.Func):(encF f).closed=true:=rfl
def fuV (fo:Nat):Option (List Wm.Func)->V
 | none => .nils
 | some l => .slice fo 0 l.length
def msR (fo:Nat) (m:MS):RS:=⟨m.b,m.a,vl je m.ty,vl jp m.im,fuV fo m.fs,bH m.pg,bH m.mo,vl jv m.gl,vl jr m.ex,bH m.st,vl jq m.da,m.ops⟩
theorem adq {fo:Nat} {m:MS} (h:m.ok):(msR fo m).ok:=⟨h.a,h.b,h.x,by show m.ops<=1000; have:=h.o; omega⟩
def FuI (ro fo:Nat) (l:List Wm.Func) (S:Store):Prop:=fo≠ro /\ ∃ cs,S.get fo=some (3,cs)/\cs.map nl=jF encF l/\V.idsL (fun _=>false) cs=true
structure MI (ro fo:Nat) (m:MS) (S:Store):Prop where
 ok:m.ok
 get:S.get ro=some (12,rc (msR fo m))
 fu : ∀ l,m.fs=some l->FuI ro fo l S
def ownM (ro fo:Nat) (m:MS):List Nat:=match m.fs with
 | none=>[ro]
 | some _=>[ro,fo]
structure EnvM (ro fo:Nat) (m:MS) (es:Ups) (S:Store):Prop where
 has:HasU S es
 ne : ∀ q∈es,q.1≠ro/\(m.fs.isSome=true->q.1≠fo)
structure MP (ro fo:Nat) (m:MS) (S:Store) (p:MS->Except Flt MS) (m':MS) (fo':Nat) (T:Store):Prop where
 eq:p m = .ok m'
 bb:m'.b=m.b
 mi:MI ro fo' m' T
 kept:Kept S (ownM ro fo m) T
 own:m'.fs.isSome=true->(m.fs.isSome=true/\fo'=fo)\/S.nx<=fo'
structure MR (ro fo:Nat) (m:MS) (S:Store) (p:MS->Except Flt MS) (m':MS) (T:Store):Prop where
 eq:p m = .ok m'
 bb:m'.b=m.b
 fs:m'.fs=m.fs
 mi:MI ro fo m' T
 kept:Kept S [ro] T
theorem MR.mp {ro fo:Nat} {m m':MS} {S T:Store} {p:MS->Except Flt MS} (h:MR ro fo m S p m' T):MP ro fo m S p m' fo T :=
 ⟨h.eq,h.bb,h.mi,h.kept.weak fun k hk=>by simp only [aM] at hk; subst hk; unfold ownM; split<;>simp,fun hs => .inl ⟨by rw [<-h.fs]; exact hs,rfl⟩⟩
def SecR (P:Program) (ro:Nat) (f:V) (args:List V) (es:Ups) (p:MS->Except Flt MS):Prop :=
 ∀ (fo:Nat) (m:MS) (S:Store) (E:EP),MI ro fo m S->EnvM ro fo m es S->(∀ e,p m = .error e -> ∀ T,Kept S (ownM ro fo m) T->E (jY 46 e) T) ->
  zp P f args S (fun r T => ∃ m',MR ro fo m S p m' T/\r = .tuple []) E
abbrev FC:=Nat->Option (List Wm.Func)->Store->Prop
def SecVC (C D:FC) (P:Program) (ro:Nat) (f:V) (args:List V) (es:Ups) (p:MS->Except Flt MS):Prop :=
 ∀ (fo:Nat) (m:MS) (S:Store) (E:EP),C fo m.fs S->MI ro fo m S->EnvM ro fo m es S->(∀ e,p m = .error e -> ∀ T,Kept S (ownM ro fo m) T->E (jY 46 e) T) ->
  zp P f args S (fun r T => ∃ m' fo',MP ro fo m S p m' fo' T/\D fo' m'.fs T/\r = .tuple []) E
def SecXC (C D:FC) (P:Program) (ro:Nat) (f:FuncId) (args:List V) (es:Ups) (p:MS->Except Flt MS):Prop :=
 ∀ (fo:Nat) (m:MS) (S:Store) (E:EP),C fo m.fs S->MI ro fo m S->EnvM ro fo m es S->(∀ e,p m = .error e -> ∀ T,Kept S (ownM ro fo m) T->E (jY 46 e) T) ->
  VCallsX P f args S (fun r T => ∃ m' fo',MP ro fo m S p m' fo' T/\D fo' m'.fs T/\r = .tuple []) E
def FC.stable (C:FC) (ro:Nat):Prop := ∀ (fo:Nat) (fs:Option (List Wm.Func)) (S:Store) (c:Nat × List V),S.Wf->(fs.isSome=true->fo≠ro)->C fo fs S->C fo fs (St S [(ro,some c)] [])
def NilC:FC:=fun fo fs S => ∀ l,fs=some l -> ∃ cs,S.get fo=some (3,cs) /\ ∀ j,j<l.length->cs[3*j+1]? = some .nils
theorem NilC.stable (ro:Nat):NilC.stable ro:=by
 intro fo fs S c hw hne h l hl;obtain ⟨cs,h1,h2⟩:=h l hl;refine ⟨cs, ?_,h2⟩;rw [jk (jx hw h1)];simp only [uGet];rw [if_neg (hne (by rw [hl]; rfl))];exact h1
def AnyC:FC:=fun _ _ _=>True
theorem AnyC.stable (ro:Nat):AnyC.stable ro:=fun _ _ _ _ _ _ _=>trivial
theorem jD {P:Program} {N b:Nat} {c:Code} {Q:Exit->Fr->Store->Prop} {σ:Fr} {S:Store} (h:S.Wf->VWp P N b c Q σ S):VWp P N b c Q σ S:=fun m β w a hS hF=>h hS.wf m β w a hS hF
theorem MI.fo_lt {ro fo:Nat} {m:MS} {S:Store} (h:MI ro fo m S) (hw:S.Wf) {l:List Wm.Func} (hl:m.fs=some l):fo<S.nx:=by
 obtain ⟨_,cs,h1,_⟩:=h.fu l hl;exact jx hw h1
theorem MI.put {ro fo:Nat} {m m':MS} {S:Store} (h:MI ro fo m S) (hw:S.Wf) (hok:m'.ok) (hfs:m'.fs=m.fs):MI ro fo m' (St S [(ro,some (12,rc (msR fo m')))] []):=by
 have hl:=jx hw h.get;refine ⟨hok,old1 hl _ _,fun l hl' => ?_⟩;rw [hfs] at hl';obtain ⟨h1,cs,h2,h3,h4⟩:=h.fu l hl';refine ⟨h1,cs, ?_,h3,h4⟩;rw [jk (h.fo_lt hw hl')];simp only [uGet];rw [if_neg h1];exact h2
theorem EnvM.put {ro fo:Nat} {m m':MS} {es:Ups} {S:Store} (h:EnvM ro fo m es S) (hw:S.Wf) (hfs:m'.fs=m.fs) (c:Nat × List V):EnvM ro fo m' es (St S [(ro,some c)] []):=by
 refine ⟨fun q hq => ?_,fun q hq => ?_⟩
 .rw [jk (jx hw (h.has q hq))];simp only [uGet];rw [if_neg (h.ne q hq).1];exact h.has q hq
 .rw [hfs]; exact h.ne q hq
theorem jbq (ro fo:Nat) (m:MS):ro∈ownM ro fo m:=by
 unfold ownM;split<;>simp
theorem jaO {ro:Nat} {S:Store} {ks:List Nat} (hk:ro∈ks) (c:Option (Nat × List V)) (l:OL):Kept S ks (St S [(ro,c)] l):=jN (by simp; exact hk)
theorem aen {ro fo:Nat} {m m':MS} {S T:Store} {c:Option (Nat × List V)} {l:OL} (hfs:m'.fs=m.fs) (h:Kept (St S [(ro,c)] l) (ownM ro fo m') T):Kept S (ownM ro fo m) T:=by
 refine h.up (by simp; exact jbq ro fo m) fun k hk => .inl ?_;unfold ownM at hk ⊢;rw [hfs] at hk;exact hk
theorem jex {P:Program} {ro:Nat} {f:FuncId} {p:RS->Except Flt (Unit × RS)} {p':MS->Except Flt MS} (h:RdM P f [.ptr ro 0] ro encU p) (hc:jE P f=true)
  (hp : ∀ fo m,m.ok->p (msR fo m)=match p' m with | .error e => .error e | .ok m' => .ok ((),msR fo m')) (hk : ∀ m m',m.ok->p' m = .ok m'->m'.a<=m'.b.length->m'.ok/\m'.fs=m.fs/\m'.b=m.b) (es:Ups):SecR P ro (.meth f (.ptr ro 0)) [] es p':=by
 intro fo m S E hi _ hE;refine ⟨hc,KV fun hwf => ?_⟩;refine (h (msR fo m) S E (adq hi.ok) hi.get fun e T he hk => ?_).mono ?_ fun _ _ h=>h
 .rw [hp fo m hi.ok] at he;cases hq:p' m with
  | error e' =>
   rw [hq] at he;cases he;exact hE e hq T (hk.weak fun k hk=>by simp only [aM] at hk; subst hk; exact jbq _ _ _)
  | ok m'=>rw [hq] at he; cases he
 .rintro r T ⟨x,s',hs',hsok,rfl,rfl⟩;rw [hp fo m hi.ok] at hs';cases hq:p' m with
  | error e'=>rw [hq] at hs'; cases hs'
  | ok m' =>
   rw [hq] at hs';simp only [Except.ok.injEq,Prod.mk.injEq,true_and] at hs';subst hs';obtain ⟨ho,hf,hbb⟩:=hk m m' hi.ok hq hsok.1;have hl:=jx hwf hi.get;have hmi:=hi.put hwf ho hf;rw [aaz hwf hl] at hmi;refine ⟨m',⟨hq,hbb,hf,hmi, ?_⟩,rfl⟩;have:=jaO (ro:=ro) (S:=S) (ks:=[ro]) (by simp) (some (12,rc (msR fo m'))) [];rw [aaz hwf hl] at this;exact this
theorem SecR.c {P:Program} {ro:Nat} {f:V} {args:List V} {es:Ups} {p:MS->Except Flt MS} (h:SecR P ro f args es p):SecVC NilC NilC P ro f args es p:=by
 intro fo m S E hC hi he hE;have key : ∀ (r:V) (T:Store),S.Wf->(∃ m',MR ro fo m S p m' T/\r = .tuple []) -> ∃ m' fo',MP ro fo m S p m' fo' T/\NilC fo' m'.fs T/\r = .tuple []:=by
  rintro r T hw ⟨m',hm,rfl⟩;refine ⟨m',fo,hm.mp, ?_,rfl⟩;rw [hm.fs];intro l hl;obtain ⟨cs,h1,h2⟩:=hC l hl;refine ⟨cs, ?_,h2⟩;rw [hm.kept.2 fo (jx hw h1) (by simp only [aM]; exact (hi.fu l hl).1)];exact h1
 have:=h fo m S E hi he hE;cases f<;>simp only [zp] at this ⊢ <;> first | exact ⟨this.1,KV fun hw=>this.2.mono (fun r T=>key r T hw) fun _ _ h=>h⟩ | exact this
end Go.Vw
namespace Wm
def zU (p:MS->Except Flt MS) (m:MS):Except Flt MS:=match index m.b m.a with
 | .error e => .error e
 | .ok (n,a1)=>if m.b.length-a1<n then .error (4,(m.b.length:Int),0)
  else match p { m with a:=a1,b:=m.b.take (a1+n) } with
   | .error e => .error e
   | .ok m1=>if m1.a<m1.b.length then .error (6,(m1.a:Int),0) else .ok { m1 with b:=m.b }
end Wm
namespace Go.Vw
open Go.Proofs Go.RowKit Wm
attribute [-simp] List.map_set
theorem ae3 (C D:FC) (ro:Nat) (hC:C.stable ro) (hD:D.stable ro) (f:V) (es:Ups) (p:MS->Except Flt MS) (h:SecVC C D Tryz.prog ro f [] es p):SecXC C D Tryz.prog ro 46 [.ptr ro 0,f] es (zU p):=by
 intro fo m S E hc hi he hE;refine jc (c:=jf Tryz.f46) Tryz.func46 rfl rfl (by simp [Tryz.ntmps46]) ?_;rw [Tryz.ntmps46];intro hwf;have hl:=jx hwf hi.get;have hg := @old1 S ro hl;have hu := @oldU S ro hl;obtain ⟨b,a,ty,im,fs,pg,mo,gl,ex,st,da,ops⟩:=m;have ⟨h1,h2,h3,h4,h5,h6,h7⟩:=hi.ok;simp only at h1 h2 h3 h4 h5 h6 h7;have h4':ops<=1000:=by omega
 rw [show St S [] []=St S [(ro,some (12,[vl vb b,bI a,vl je ty,vl jp im,fuV fo fs,bH pg,bH mo,vl jv gl,vl jr ex,bH st,vl jq da,bI ops]))] [] from old0 hl hi.get];refine bk ?_;refine XQ E ?_;have kro:=jbq ro fo ⟨b,a,ty,im,fs,pg,mo,gl,ex,st,da,ops⟩;refine jL (hok:=⟨h1,h2,h3,h4'⟩) rfl (zl ro) hl ?_ ?_
 .intro e he T hk;exact hE e (by simp only [zU,he]) T (hk.weak (by simp; exact kro))
 intro n a1 hn ha1;have hni:=zV hn;have w1:IntKind.i64.wrap ((b.length:Int)-(a1:Int))=(b.length:Int)-(a1:Int):=wrap_i64 (by omega) (by omega);have hw0:zU p ⟨b,a,ty,im,fs,pg,mo,gl,ex,st,da,ops⟩=if b.length-a1<n then .error (4,(b.length:Int),0)
  else match p ⟨b.take (a1+n),a1,ty,im,fs,pg,mo,gl,ex,st,da,ops⟩ with
   | .error e => .error e
   | .ok m1=>if m1.a<m1.b.length then .error (6,(m1.a:Int),0) else .ok { m1 with b:=b }:=by simp only [zU,hn]; rfl
 refine XN ?_;refine ja ?_;by_cases c1:b.length-a1<n
 .rw [if_pos c1] at hw0;have d1:(b.length:Int)-(a1:Int)<(n:Int):=by omega
  refine bj hg d1 w1 ?_;refine XQ E ?_;refine jb rfl (qI _ _ _ E (fun T hk=>hE _ hw0 T (hk.up ?_ ?_))) ?_
  .simp; exact kro
  .simp
  .rintro _ _ h; exact h.elim
 .rw [if_neg c1] at hw0;obtain ⟨k,hk0⟩ : ∃ k,a1+n=k:=⟨_,rfl⟩
  rw [hk0] at hw0;have d1 : ¬ (b.length:Int)-(a1:Int)<(n:Int):=by omega
  have w2:IntKind.i64.wrap ((a1:Int)+(n:Int))=(k:Int):=by rw [wrap_i64 (by omega) (by omega)]; omega
  have hsl:k<=b.length:=by omega
  refine bu hg hu d1 w1 w2 hsl ?_;have hlen:(b.take k).length=k:=by rw [List.length_take]; omega
  have hok1:MS.ok ⟨b.take k,a1,ty,im,fs,pg,mo,gl,ex,st,da,ops⟩:=⟨by show a1<=(b.take k).length; omega,by show (b.take k).length<=16384; omega,fun x hx=>h3 x (List.mem_of_mem_take hx),h4,h5,h6,h7⟩
  have key:=h fo ⟨b.take k,a1,ty,im,fs,pg,mo,gl,ex,st,da,ops⟩ _ E (hC _ _ _ _ hwf (fun hs=>by cases hfs:fs with | none=>simp [hfs] at hs | some l=>exact (hi.fu l hfs).1) hc) (hi.put hwf hok1 rfl) (he.put (m':=⟨b.take k,a1,ty,im,fs,pg,mo,gl,ex,st,da,ops⟩) hwf rfl _) fun e hp T hk=>hE e (by rw [hw0,hp]) T (aen rfl hk);refine XQ E ?_;refine jV rfl rfl key ?_;rintro r T ⟨m',fo',hmp,hd,rfl⟩;refine ja ?_;refine jD fun hwT => ?_;have hl':=jx hwT hmp.mi.get;have hg' := @old1 T ro hl';have hu' := @oldU T ro hl';have hT:T=St T [(ro,some (12,rc (msR fo' m')))] []:=(jh hwT).symm.trans (old0 hl' hmp.mi.get);have ⟨g1,g2,g3,g4,g5,g6,g7⟩:=hmp.mi.ok;have hbb:=hmp.bb;have hown:=hmp.own;have hpe:=hmp.eq;have hkept:Kept S (ownM ro fo ⟨b,a,ty,im,fs,pg,mo,gl,ex,st,da,ops⟩) T:=aen rfl hmp.kept;have hd':=fun c=>hD _ _ _ c hwT (fun hs=>by cases hfs:m'.fs with | none=>simp [hfs] at hs | some l=>exact (hmp.mi.fu l hfs).1) hd
  have hput:=fun (mx:MS)=>hmp.mi.put (m':=mx) hwT;rw [hT];rw [hpe] at hw0;simp only at hw0;clear hT key hmp;obtain ⟨b',a',ty',im',fs',pg',mo',gl',ex',st',da',ops'⟩:=m';simp only at hbb hw0 g1 g2 g3 g4 g5 g6 g7 hown hput;have hlen':b'.length=k:=by rw [hbb]; exact hlen
  show VWp _ _ _ _ _ _ (St T [(ro,some (12,[vl vb b',bI a',vl je ty',vl jp im',fuV fo' fs',bH pg',bH mo',vl jv gl',vl jr ex',bH st',vl jq da',bI ops']))] []);by_cases c2:a'<b'.length
  .rw [if_pos c2] at hw0;have d2:(a':Int)<(b'.length:Int):=by omega
   refine bj hg' d2 c2 ?_;refine XQ E ?_ (r:=by conv=>lhs;simp[QV,hg']);refine jb rfl (qI _ _ _ E (fun T' hk=>hE _ hw0 T' (hkept.trans (hk.up ?_ ?_)))) ?_
   .simp; exact kro
   .simp
   .rintro _ _ h; exact h.elim
  .rw [if_neg c2] at hw0;have d2 : ¬ (a':Int)<(b'.length:Int):=by omega
   refine bq hg' hu' d2 c2 ?_;have hok2:MS.ok ⟨b,a',ty',im',fs',pg',mo',gl',ex',st',da',ops'⟩:=⟨by show a'<=b.length; omega,h2,h3,g4,g5,g6,g7⟩
   exact jn ⟨_,fo',⟨hw0,rfl,hput _ hok2 rfl,hkept.trans (jaO (jbq _ _ _) _ _),fun hs=>by have:=hown hs; rw [jH] at this; simpa [lid] using this⟩,hd' _,rfl⟩
end Go.Vw
namespace Wm
def jdE (m:MS):Except Flt MS:=match many (32-m.im.length) index m.b m.a with
 | .error e => .error e
 | .ok (xs,a) => .ok { m with a:=a,fs:=some (xs.map fun n:Nat=>⟨n,[],[]⟩) }
end Wm
namespace Go.Vw
open Go.Proofs Go.RowKit Wm
attribute [-simp] List.map_set
theorem jdD : ∀ xs:List Nat,(jF jch xs).map nl=jF encF (xs.map fun n:Nat=>⟨n,[],[]⟩)
 | []=>rfl
 | x::xs=>by
  have h:=jdD xs;simp only [jF,List.flatMap_cons,List.map_append,List.map_cons] at h ⊢;rw [h]; rfl
theorem an2 {ro most:Nat} {g:FuncId} {S:Store} {E:EP} {b:List Nat} {a:Nat} {ty im fu pg mo gl ex st da:V} {ops:Nat}
  (hmost:most<=4096) (hw:S.Wf) (hs:S.get ro=some (12,rc ⟨b,a,ty,im,fu,pg,mo,gl,ex,st,da,ops⟩)) (hok:RS.ok ⟨b,a,ty,im,fu,pg,mo,gl,ex,st,da,ops⟩) (hm : ∀ (bx n0:Nat) (hne:bx≠ro) (hn:ro<n0),RdL Tryz.prog (RLb ro bx n0 hne hn) (.func g [.ptr bx 0]) [] jch (qD (RLb ro bx n0 hne hn) index))
  (herr : ∀ e,many most index b a = .error e -> ∀ T,Kept S [ro] T->E (jY 46 e) T) :
  VCallsX Tryz.prog 100 [.ptr ro 0,bH most, .func g [.ptr (lid S.nx 0) 0]] (St S [(ro,some (12,[vl vb b,bI a,ty,im,fu,pg,mo,gl,ex,st,da,bI ops]))] [some (1,[.ptr ro 0])]) (fun r T => ∃ xs a',many most index b a = .ok (xs,a')/\a'<=b.length/\r = .slice (lid S.nx 1) 0 xs.length/\T=St S [(ro,some (12,[vl vb b,bI a',ty,im,fu,pg,mo,gl,ex,st,da,bI ops]))] [some (1,[.ptr ro 0]),some (3,jF jch xs)]) E:=by
 have hl:=jx hw hs;have hne:lid S.nx 0≠ro:=by simp [lid]; omega
 have hn1:ro<lid S.nx 1:=by simp [lid]; omega
 have hold0:OldRS (lid S.nx 1) ⟨b,a,ty,im,fu,pg,mo,gl,ex,st,da,ops⟩:=OldRS.mono (n:=S.nx) (Ya hw hs) (by simp [lid]);have h:=ase (RLb ro (lid S.nx 0) (lid S.nx 1) hne hn1) (.func g [.ptr (lid S.nx 0) 0]) jch (qD _ index) most hmost (fun _=>rfl) (fun _=>rfl) (hm _ _ hne hn1) (Yy (n:=lid S.nx 1) (by simp [lid])) ⟨b,a,ty,im,fu,pg,mo,gl,ex,st,da,ops⟩ (St S [(ro,some (12,[vl vb b,bI a,ty,im,fu,pg,mo,gl,ex,st,da,bI ops]))] [some (1,[.ptr ro 0])]) E ⟨hok,hold0⟩
  (by
   intro q hq;rcases aE.1 hq with rfl | hq
   .exact old1 hl _ _
   .rcases aE.1 hq with rfl | hq
    .simp
    .cases hq)
  (by rw [jH]; exact aT _)
  (by
   intro e T he hk;rw [Jb] at he;exact herr e (jdx he) T (hk.up (by simp) (by intro k hk; exact .inl hk)))
 refine h.mono ?_ fun _ _ h=>h;rintro r T ⟨xs,s',hp,hi,rfl,rfl⟩;rw [Jb] at hp;obtain ⟨a',hp',rfl⟩:=jfO hp;refine ⟨xs,a',hp',hi.1.1,by rw [jH]; rfl, ?_⟩;show (((St S _ _).upd ro _).upd (lid S.nx 0) _).add _=_;rw [oldU hl,Yn (by simp),qT]
 rfl
theorem as3 (ro:Nat) (es:Ups):SecVC NilC NilC Tryz.prog ro (.meth 38 (.ptr ro 0)) [] es jdE:=by
 intro fo m S E _ hi he hE;refine ⟨rfl, ?_⟩;refine jc (c:=jf Tryz.f38) Tryz.func38 rfl rfl (by simp [Tryz.ntmps38]) ?_;rw [Tryz.ntmps38];intro hwf;have hl:=jx hwf hi.get;have hg := @old1 S ro hl;have hu := @oldU S ro hl;obtain ⟨b,a,ty,im,fs,pg,mo,gl,ex,st,da,ops⟩:=m;have ⟨h1,h2,h3,h4,h5,h6,h7⟩:=hi.ok;simp only at h1 h2 h3 h4 h5 h6 h7;have h4':ops<=1000:=by omega
 have w1:IntKind.i64.wrap (32-(im.length:Int))=((32-im.length:Nat):Int):=by rw [wrap_i64 (by omega) (by omega)]; omega
 rw [show St S [] []=St S [(ro,some (12,[vl vb b,bI a,vl je ty,vl jp im,fuV fo fs,bH pg,bH mo,vl jv gl,vl jr ex,bH st,vl jq da,bI ops]))] [] from old0 hl hi.get];have kro:=jbq ro fo ⟨b,a,ty,im,fs,pg,mo,gl,ex,st,da,ops⟩;obtain ⟨mx,hmx⟩ : ∃ mx,32-im.length=mx:=⟨_,rfl⟩
 rw [hmx] at w1;have hfp:jdE ⟨b,a,ty,im,fs,pg,mo,gl,ex,st,da,ops⟩=match many mx index b a with
  | .error e => .error e
  | .ok (xs,a) => .ok ⟨b,a,ty,im,some (xs.map fun n:Nat=>⟨n,[],[]⟩),pg,mo,gl,ex,st,da,ops⟩:=by simp only [jdE,hmx]
 refine bk ?_;have hn0 : ∀ X,(St S [(ro,some X)] [some (1,[.ptr ro 0])]).nx=(ZR S ro b (vl je ty) (vl jp im) .junk (bH pg) (bH mo) (vl jv gl) (vl jr ex) (bH st) (vl jq da) [some (1,[.ptr ro 0])]).n0:=fun X=>by rw [jH]; rfl
 refine QT ?_;refine XD E (ZR S ro b (vl je ty) (vl jp im) .junk (bH pg) (bH mo) (vl jv gl) (vl jr ex) (bH st) (vl jq da) [some (1,[.ptr ro 0])]) [] [0,1,2,3,4,5,6,7,8,9,10,11,12,13,14] [12] (ho:=Ka _ _ _ _ _ _ _ _ _ _ _ _ _) (hz:=zo (by simp [JR]) (by simp [jW,subO,jm]) (by simp)) (r:=by conv=>lhs;simp[QV,↓ju,ZR,Zs,zz,jl,ji,V.nj,V.nj1,V.bK,hg,w1]) (k:=?_);have kx : ∀ e,many mx index b a = .error e -> ∀ T,Kept S [ro] T->E (jY 46 e) T:=fun e he T hk=>hE e (by rw [hfp,he]) T (hk.weak (by simp; exact kro));refine qM rfl rfl (hn0 _) ((an2 (most:=mx) (by omega) hwf hi.get (adq (fo:=fo) hi.ok) (ant ro) kx).mono ?_ fun _ _ h=>h);rintro r T ⟨xs,a1,hx,ha1,rfl,rfl⟩;refine ⟨zo (by simp [JR]) (by simp [jW,subO,jm]) (by simp), ?_⟩;rw [hx] at hfp;have hxl:=ZC hx;refine ZM (r:=by conv=>lhs;simp[QV,↓ju,ZR,Zs,zz,jl,ji,V.nj,V.nj1,V.bK,hg]) (k:=?_);refine jo rfl (by conv=>lhs;simp[QV,hg,hu]) ?_ ?_
 .exact zo (by simp [JR]) (by simp [jW,subO,jm]) (by simp)
 refine jy ?_;have hok:MS.ok ⟨b,a1,ty,im,some (xs.map fun n:Nat=>⟨n,[],[]⟩),pg,mo,gl,ex,st,da,ops⟩:=⟨ha1,h2,h3,h4,h5,h6,fun l hl=>by cases hl; rw [aB]; omega⟩
 refine jn ⟨_,lid S.nx 1,⟨hfp,rfl,⟨hok, ?_, ?_⟩,jaO kro _ _,fun _ => .inr (by simp [lid])⟩, ?_,rfl⟩
 .rw [hg]; simp [msR,rc,fuV]
 .intro l hl';cases hl';exact ⟨by simp [lid]; omega,_,by simp,jdD xs,Je (fun _=>rfl) _ _⟩
 .intro l hl';cases hl';refine ⟨_,by simp; rfl,fun j hj => ?_⟩;rw [aB] at hj;rw [show 3*j+1=j*3+1 by omega];exact jdG (s:=3) (fun _=>rfl) xs j 1 xs[j] .nils (aa hj) rfl
end Go.Vw
namespace Wm
def putW (ls:List Int):List Nat:=ls.map fun c=>(c % 256).toNat
def jS (n:Int):List Nat:=uW (n % 18446744073709551616)
def jeh (s:List Nat):List Nat:=jS s.length++s
end Wm
namespace Go.Vw
open Go.Proofs Go.RowKit Wm
def BC (wo bo:Nat) (cell:V) (bs:List Nat) (S:Store):Prop:=(cell = .nils/\bs=[]/\bo=wo)\/(cell = .slice bo 0 bs.length/\S.get bo=some (1,bs.map vb)/\bo≠wo)
def WI (wo bo:Nat) (tv:V) (bs:List Nat) (S:Store):Prop := ∃ cell,S.get wo=some (2,[tv,cell])/\BC wo bo cell bs S
structure EnvW (wo bo:Nat) (es:Ups) (S:Store):Prop where
 has:HasU S es
 ne : ∀ q∈es,q.1≠wo/\q.1≠bo
structure WP (wo bo:Nat) (tv:V) (bs:List Nat) (S:Store) (bo':Nat) (T:Store):Prop where
 wi:WI wo bo' tv bs T
 kept:Kept S [wo,bo] T
 own:bo'=bo\/S.nx<=bo'
def WrX (P:Program) (f:FuncId) (args:List V) (wo:Nat) (tv:V) (es:Ups) (out:List Nat):Prop :=
 ∀ (bo:Nat) (bs:List Nat) (S:Store) (E:EP),WI wo bo tv bs S->EnvW wo bo es S->bs.length+out.length<=90000000000000->VCallsX P f args S (fun r T=>(∃ bo',WP wo bo tv (bs++out) S bo' T)/\r = .tuple []) E
def WrV (P:Program) (f:V) (args:List V) (wo:Nat) (tv:V) (es:Ups) (out:List Nat):Prop :=
 ∀ (bo:Nat) (bs:List Nat) (S:Store) (E:EP),WI wo bo tv bs S->EnvW wo bo es S->bs.length+out.length<=90000000000000->zp P f args S (fun r T=>(∃ bo',WP wo bo tv (bs++out) S bo' T)/\r = .tuple []) E
theorem WI.lt {wo bo:Nat} {tv:V} {bs:List Nat} {S:Store} (h:WI wo bo tv bs S) (hw:S.Wf):wo<S.nx/\bo<S.nx:=by
 obtain ⟨cell,h1,h2⟩:=h;have:=jx hw h1;rcases h2 with ⟨_,_,rfl⟩ | ⟨_,h3,_⟩
 .exact ⟨this,this⟩
 .exact ⟨this,jx hw h3⟩
theorem WI.up {wo bo:Nat} {tv:V} {bs:List Nat} {T:Store} (h:WI wo bo tv bs T) (hw:T.Wf) (l:OL):WI wo bo tv bs (St T [] l):=by
 obtain ⟨cell,h1,h2⟩:=h;refine ⟨cell,(jk (jx hw h1)).trans h1, ?_⟩;rcases h2 with h2 | ⟨h2,h3,h4⟩
 .exact .inl h2
 .exact .inr ⟨h2,(jk (jx hw h3)).trans h3,h4⟩
theorem EnvW.up {wo bo:Nat} {es:Ups} {T:Store} (h:EnvW wo bo es T) (hw:T.Wf) (l:OL):EnvW wo bo es (St T [] l) :=
 ⟨fun q hq=>(jk (jx hw (h.has q hq))).trans (h.has q hq),h.ne⟩
theorem EnvW.go {wo bo bo':Nat} {tv:V} {bs:List Nat} {es:Ups} {S T:Store} (h:EnvW wo bo es S) (hw:S.Wf) (hp:WP wo bo tv bs S bo' T):EnvW wo bo' es T:=by
 refine ⟨fun q hq => ?_,fun q hq=>⟨(h.ne q hq).1, ?_⟩⟩
 .rw [hp.kept.2 q.1 (jx hw (h.has q hq)) (by simp only [aE,List.not_mem_nil,or_false,not_or]; exact h.ne q hq)];exact h.has q hq
 .rcases hp.own with h1 | h1
  .rw [h1]; exact (h.ne q hq).2
  .have:=jx hw (h.has q hq); omega
theorem WP.trans {wo bo bo' bo'':Nat} {tv:V} {bs bs':List Nat} {S T U:Store} (h:WP wo bo tv bs S bo' T) (k:WP wo bo' tv bs' T bo'' U):WP wo bo tv bs' S bo'' U:=by
 refine ⟨k.wi,⟨aU h.kept.1 k.kept.1,fun o ho hno => ?_⟩, ?_⟩
 .simp only [aE,List.not_mem_nil,or_false,not_or] at hno;rw [k.kept.2 o (aK ho h.kept.1) ?_]
  .exact h.kept.2 o ho (by simp only [aE,List.not_mem_nil,or_false,not_or]; exact hno)
  .simp only [aE,List.not_mem_nil,or_false,not_or];refine ⟨hno.1,fun e => ?_⟩;rcases h.own with h1 | h1
   .exact hno.2 (by rw [<-h1]; exact e)
   .omega
 .rcases k.own with h1 | h1
  .rw [h1]; exact h.own
  .exact .inr (aU h.kept.1 h1)
theorem WP.below {wo bo bo':Nat} {tv:V} {bs:List Nat} {T U:Store} {l:OL} (h:WP wo bo tv bs (St T [] l) bo' U):WP wo bo tv bs T bo' U:=by
 refine ⟨h.wi,h.kept.up (by simp) (fun k hk => .inl hk), ?_⟩;rcases h.own with h1 | h1
 .exact .inl h1
 .rw [jH] at h1; simp only [lid] at h1; exact .inr (by omega)
theorem WrX.at {P:Program} {f:FuncId} {args:List V} {wo bo:Nat} {tv:V} {es:Ups} {out bs:List Nat} {T:Store} {l:OL} {E:EP} (h:WrX P f args wo tv es out) (hw:T.Wf) (hi:WI wo bo tv bs T) (he:EnvW wo bo es (St T [] l)) (hl:bs.length+out.length<=90000000000000) :
  VCallsX P f args (St T [] l) (fun r U=>(∃ bo',WP wo bo tv (bs++out) T bo' U)/\r = .tuple []) E :=
 (h bo bs _ E (hi.up hw l) he hl).mono (fun r U ⟨⟨bo',k⟩,hr⟩=>⟨⟨bo',k.below⟩,hr⟩) fun _ _ h=>h
end Go.Vw
