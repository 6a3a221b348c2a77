import Derived.Test.YtjkfgakbijjegaaGreatC15
/- Part of the proof. -/
set_option linter.unusedVariables false
set_option linter.unusedSimpArgs false
set_option maxRecDepth 10000
set_option maxHeartbeats 4000000
namespace Wm
theorem Reads.cons {α β:Type} {p:Rd α} {f:α->Rd β} {c:Nat} {w2:List Nat} {x:α} {y:β} (h:Reads p [c] x) (k:Reads (f x) w2 y):Reads (p >>= f) (c::w2) y:=Reads.bind h k
theorem jfq {α:Type} : ∀ l:List α,(l.map fun _=>1).sum=l.length
 | []=>rfl
 | x::l=>by rw [List.map_cons,List.sum_cons,jfq l,av]; omega
theorem jJ {α β:Type} {p:Rd α} {f:α->Rd β} {b:List Nat} {a a':Nat} {y:β} (h:(p >>= f) b a = .ok (y,a')) : ∃ x a1,p b a = .ok (x,a1)/\f x b a1 = .ok (y,a'):=by
 rw [Rd.bind_apply] at h;cases hp:p b a with
 | error e=>rw [hp] at h; cases h
 | ok q=>rw [hp] at h; exact ⟨q.1,q.2,rfl,h⟩
theorem ze {α:Type} {x y:α} {b:List Nat} {a a':Nat} (h:(Pure.pure x:Rd α) b a = .ok (y,a')):y=x/\a'=a:=by
 rw [Rd.pure_apply] at h;cases h;exact ⟨rfl,rfl⟩
theorem KX {c:Bool} {e:Int} {k b a:Nat} {bs:List Nat} {x:Unit} {a':Nat} (h:zE c e k bs a = .ok (x,a')):c=false/\a'=a:=by
 unfold zE at h;cases c with
 | true=>simp [failAt] at h
 | false=>simp at h; exact ⟨rfl,h.symm⟩
theorem YG {b:List Nat} {a c a':Nat} (h:byte1 b a = .ok (c,a')):c=b.getD a 0/\a'=a+1/\a≠b.length:=by
 simp only [byte1] at h;split at h
 .cases h
 .rename_i hne; cases h; exact ⟨rfl,rfl,hne⟩
theorem byte_lt {b:List Nat} {a:Nat} (hb:bytes b):b.getD a 0<256:=by
 rw [af];cases h:b[a]? with
 | none=>simp
 | some c=>exact hb c (au h)
theorem aaf {most n:Nat} {e:Int} {b:List Nat} {a a':Nat} (h:u most e b a = .ok (n,a')):n<=most/\a<a':=by
 simp only [u] at h;split at h
 .cases h
 .rename_i n1 nx hl;split at h
  .cases h
  .rename_i hle;cases h;exact ⟨by omega,by have:=aai _ _ _ _ _ hl; omega⟩
theorem Jt {n:Nat} {b:List Nat} {a a':Nat} (h:index b a = .ok (n,a')):n<4294967296/\a<a':=by
 have:=aaf h;omega
theorem Yx {l:List Int} {c:Nat} {b:List Nat} {a a':Nat} (h:one l b a = .ok (c,a')):(c:Int)∈l/\a'=a+1:=by
 obtain ⟨x,a1,h1,h2⟩:=jJ h;obtain ⟨y,a2,h3,h4⟩:=jJ h2;obtain ⟨h5,rfl⟩:=KX h3 (b:=0);obtain ⟨rfl,rfl⟩:=ze h4;obtain ⟨_,rfl,_⟩:=YG h1;exact ⟨by simpa using h5,rfl⟩
theorem aby {α:Type} {p:Rd α} {G:α->Prop} {c:α->Nat} (hp : ∀ b a x a',bytes b->p b a = .ok (x,a')->G x/\a+c x<=a') : ∀ (n:Nat) (b:List Nat) (a:Nat) (l:List α) (a':Nat),bytes b->jag p n b a = .ok (l,a')->l.length=n/\(∀ x∈l,G x)/\a+(l.map c).sum<=a'
 | 0,b,a,l,a',hb,h=>by cases h; exact ⟨rfl,fun _ h=>(by cases h),by simp⟩
 | n+1,b,a,l,a',hb,h=>by
  obtain ⟨x,a1,h1,h2⟩:=jJ h;obtain ⟨xs,a2,h3,h4⟩:=jJ h2;obtain ⟨rfl,rfl⟩:=ze h4;obtain ⟨k1,k2⟩:=hp _ _ _ _ hb h1;obtain ⟨k3,k4,k5⟩:=aby hp n b a1 xs _ hb h3;refine ⟨by simp [k3],fun y hy => ?_,by simp; omega⟩;rcases aE.1 hy with rfl | hy
  .exact k1
  .exact k4 y hy
theorem Kj {α:Type} {p:Rd α} {G:α->Prop} {c:α->Nat} (hp : ∀ b a x a',bytes b->p b a = .ok (x,a')->G x/\a+c x<=a') {most:Nat} {b:List Nat} {a:Nat} {l:List α} {a':Nat} (hb:bytes b) (h:many most p b a = .ok (l,a')):l.length<=most/\(∀ x∈l,G x)/\a+1+(l.map c).sum<=a':=by
 obtain ⟨n,a1,h1,h2⟩:=jJ h;have h3:=aaf h1;obtain ⟨k1,k2,k3⟩:=aby hp n b a1 l a' hb h2;exact ⟨by omega,k2,by omega⟩
theorem jdc {α:Type} {p:Rd α} {f:α->List Nat} : ∀ (l:List α),(∀ x∈l,Reads p (f x) x)->Reads (jag p l.length) (l.flatMap f) l
 | [],_=>Reads.pure []
 | x::xs,h=>by
  rw [List.flatMap_cons];refine Reads.bind (h x (by simp)) ?_;exact Reads.end' (jdc xs fun y hy=>h y (by simp [hy])) (Reads.pure' _)
theorem Zv {α:Type} {p:Rd α} {f:α->List Nat} {most:Nat} (l:List α) (hm:l.length<=most) (hl:l.length<4294967296) (h : ∀ x∈l,Reads p (f x) x):Reads (many most p) (jS l.length++l.flatMap f) l:=by
 rw [qW _ (by omega)];exact Reads.bind (Zb hl hm) (jdc l h)
def isK (k:Nat):Prop:=k=127\/k=126
theorem jcF {k:Nat} {b:List Nat} {a a':Nat} (h:kind b a = .ok (k,a')):isK k/\a'=a+1:=by
 obtain ⟨c,a1,h1,h2⟩:=jJ h;obtain ⟨_,rfl,_⟩:=YG h1;split at h2
 .rename_i hc;obtain ⟨rfl,rfl⟩:=ze h2;exact ⟨hc,rfl⟩
 .split at h2<;>cases h2
theorem Yc {k:Nat} (h:isK k):Reads kind [k] k:=by
 refine Reads.end' (JI k) ?_;rw [if_pos (show k=127\/k=126 from h)];exact Reads.pure' k
theorem isK.lt {k:Nat} (h:isK k):k<256:=by rcases h with rfl | rfl<;>decide
def ints (l:List Nat):List Int:=l.map fun n:Nat=>(n:Int)
theorem jaH {l:List Nat} (h:bytes l):putW (ints l)=l:=by
 unfold putW ints;rw [List.map_map];refine (aP fun x hx => ?_).trans (List.map_id l);have:=h x hx;simp only [Function.comp_apply,id];omega
theorem jcE {l:List Nat} (h : ∀ k∈l,isK k):bytes l:=fun c hc=>(h c hc).lt
def gSig (s:Sig):Prop := ∃ a r:List Nat,s=⟨ints a,ints r⟩/\a.length<=8/\r.length<=8/\(∀ k∈a,isK k) /\ ∀ k∈r,isK k
theorem ab2 {l:List Nat} {b:List Nat} {a a':Nat} (hb:bytes b) (h:many 8 kind b a = .ok (l,a')):l.length<=8/\(∀ k∈l,isK k)/\a<=a':=by
 have:=Kj (p:=kind) (G:=isK) (c:=fun _=>0) (fun b a x a' _ h=>by have:=jcF h; exact ⟨this.1,by omega⟩) hb h;exact ⟨this.1,this.2.1,by omega⟩
theorem asx {s:Sig} {b:List Nat} {a a':Nat} (hb:bytes b) (h:sigR b a = .ok (s,a')):gSig s/\a<=a':=by
 obtain ⟨c,a1,h1,h2⟩:=jJ h;obtain ⟨x,a2,h3,h4⟩:=jJ h2;obtain ⟨y,a3,h5,h6⟩:=jJ h4;obtain ⟨rfl,rfl⟩:=ze h6;have k1:=ab2 hb h3;have k2:=ab2 hb h5;have k3:=Yx h1;exact ⟨⟨x,y,rfl,k1.1,k2.1,k1.2.1,k2.2.1⟩,by omega⟩
theorem aqf (l:List Nat):l.flatMap (fun x=>[x])=l:=by
 induction l with
 | nil=>rfl
 | cons x l ih=>rw [List.flatMap_cons,ih]; rfl
theorem Yu {p:Rd Nat} {most:Nat} (l:List Nat) (hm:l.length<=most) (hl:l.length<4294967296) (h : ∀ x∈l,Reads p [x] x):Reads (many most p) (jS l.length++l) l:=by
 have:=Zv (f:=fun x=>[x]) l hm hl h
 rwa [aqf] at this
theorem Kk (l:List Nat):(ints l).length=l.length:=by simp [ints]
theorem ajy {s:Sig} (h:gSig s):Reads sigR (sigW s) s:=by
 obtain ⟨a,r,rfl,h1,h2,h3,h4⟩:=h;unfold sigW;simp only [Kk,jaH (jcE h3),jaH (jcE h4)];rw [<-List.append_assoc (jS _) a];refine Reads.cons (Jp (by decide)) ?_;refine Reads.bind (Yu a h1 (by omega) fun x hx=>Yc (h3 x hx)) ?_;exact Reads.end' (Yu r h2 (by omega) fun x hx=>Yc (h4 x hx)) (Reads.pure' _)
def gName (l:List Nat):Prop:=l.length<=32 /\ ∀ c∈l,32<=c/\c<=126
theorem ad3 {c:Nat} {b:List Nat} {a a':Nat} (h:Jw b a = .ok (c,a')):(32<=c/\c<=126)/\a'=a+1:=by
 obtain ⟨x,a1,h1,h2⟩:=jJ h;obtain ⟨y,a2,h3,h4⟩:=jJ h2;obtain ⟨h5,rfl⟩:=KX h3 (b:=0);obtain ⟨rfl,rfl⟩:=ze h4;obtain ⟨_,rfl,_⟩:=YG h1;simp at h5;exact ⟨by omega,rfl⟩
theorem jfL {l:List Nat} {b:List Nat} {a a':Nat} (hb:bytes b) (h:name b a = .ok (l,a')):gName l/\a<=a':=by
 have:=Kj (p:=Jw) (G:=fun c=>32<=c/\c<=126) (c:=fun _=>0) (fun b a x a' _ h=>by have:=ad3 h; exact ⟨this.1,by omega⟩) hb h;exact ⟨⟨this.1,this.2.1⟩,by omega⟩
theorem jbn {l:List Nat} (h:gName l):Reads name (jeh l) l:=by
 refine Yu l h.1 (by have:=h.1; omega) fun x hx => ?_;refine Reads.end' (JI x) ?_;refine Reads.end' (w:=[]) (Ko (by have:=h.2 x hx; simp; omega)) ?_;exact Reads.pure' x
def gImp (x:Import):Prop:=gName x.mod/\gName x.name /\ ∃ t:Nat,x.type=t/\t<4294967296
theorem aui {x:Import} {b:List Nat} {a a':Nat} (hb:bytes b) (h:importR b a = .ok (x,a')):gImp x/\a<=a':=by
 obtain ⟨m,a1,h1,h⟩:=jJ h;obtain ⟨n,a2,h2,h⟩:=jJ h;obtain ⟨k,a3,h3,h⟩:=jJ h;obtain ⟨_,a4,h4,h⟩:=jJ h;obtain ⟨t,a5,h5,h⟩:=jJ h;obtain ⟨rfl,rfl⟩:=ze h;have k1:=jfL hb h1;have k2:=jfL hb h2;have k3:=Yx h3;have k4:=KX h4 (b:=0);have k5:=Jt h5;exact ⟨⟨k1.1,k2.1,t,rfl,k5.1⟩,by omega⟩
theorem ajm {x:Import} (h:gImp x):Reads importR (Wn x) x:=by
 obtain ⟨m,n,t⟩:=x;obtain ⟨h1,h2,t,rfl,h3⟩:=h;unfold Wn;simp only at h1 h2 ⊢;rw [qW _ (by omega)];refine Reads.bind (jbn h1) ?_;refine Reads.bind (jbn h2) ?_;refine Reads.cons (Jp (by decide)) ?_;refine Reads.bind (w1:=[]) (Ko rfl) ?_;exact Reads.end' (qY h3) (Reads.pure' _)
def gExp (x:Export):Prop:=gName x.name/\(∃ k:Nat,x.kind=k/\(k=0\/k=2\/k=3)) /\ ∃ i:Nat,x.n=i/\i<4294967296
theorem ato {x:Export} {b:List Nat} {a a':Nat} (hb:bytes b) (h:exportR b a = .ok (x,a')):gExp x/\a<=a':=by
 obtain ⟨n,a1,h1,h⟩:=jJ h;obtain ⟨k,a2,h2,h⟩:=jJ h;obtain ⟨_,a3,h3,h⟩:=jJ h;obtain ⟨i,a4,h4,h⟩:=jJ h;obtain ⟨rfl,rfl⟩:=ze h;have k1:=jfL hb h1;have k2:=Yx h2;have k3:=KX h3 (b:=0);have k4:=Jt h4;have k5:=k3.1;simp at k2 k5;exact ⟨⟨k1.1,⟨k,rfl,by omega⟩,i,rfl,k4.1⟩,by omega⟩
theorem aln {x:Export} (h:gExp x):Reads exportR (Wq x) x:=by
 obtain ⟨n,k,i⟩:=x;obtain ⟨h1,⟨k,rfl,h2⟩,i,rfl,h3⟩:=h;unfold Wq;simp only at h1 ⊢;have e:putW [(k:Int)]=[k]:=by simp [putW]; omega
 rw [e,qW _ (by omega)];refine Reads.bind (jbn h1) ?_;refine Reads.bind (w1:=[k]) (Jp (by simp; omega)) ?_;refine Reads.bind (w1:=[]) (Ko (by simp; omega)) ?_;exact Reads.end' (qY h3) (Reads.pure' _)
def maxN (t:Int):Nat:=if t=127 then 4294967296 else 18446744073709551616
theorem aje {n:Nat} {V:Int} {b:List Nat} {a a':Nat} (h:sInt n b a = .ok (V,a')):a<a':=by
 simp only [sInt,lebS] at h;split at h
 .cases h
 .rename_i hl;cases h;have:=aai _ _ _ _ _ hl;omega
theorem Zz {t:Int} {n:Nat} {b:List Nat} {a a':Nat} (h:Ja t b a = .ok (n,a')):n<maxN t/\a<a':=by
 unfold Ja at h;unfold maxN;split at h
 .obtain ⟨V,a1,h1,h2⟩:=jJ h;obtain ⟨rfl,rfl⟩:=ze h2;have:=aje h1;simp only [low32];rw [if_pos (by assumption)];omega
 .obtain ⟨V,a1,h1,h2⟩:=jJ h;obtain ⟨rfl,rfl⟩:=ze h2;have:=aje h1;simp only [low64];rw [if_neg (by assumption)];omega
theorem arf (n:Int):Go.IntKind.i32.wrap n=(n+2147483648) % 4294967296-2147483648:=by
 simp only [Go.IntKind.wrap,Go.IntKind.bits,Go.IntKind.signed];simp;split<;>omega
theorem jfU (n:Int):Go.IntKind.i64.wrap n=(n+9223372036854775808) % 18446744073709551616-9223372036854775808:=by
 simp only [Go.IntKind.wrap,Go.IntKind.bits,Go.IntKind.signed];simp;split<;>omega
def numW (t:Int) (n:Nat):List Nat:=sW (if t=127 then Go.IntKind.i64.wrap (Go.IntKind.i32.wrap n) else Go.IntKind.i64.wrap n)
theorem WB {t:Int} {n:Nat} (h:n<maxN t):Reads (Ja t) (numW t n) n:=by
 unfold Ja numW;unfold maxN at h;by_cases ht:t=127
 .rw [if_pos ht] at h;simp only [if_pos ht];rw [arf,jfU];refine Reads.end' (aay (.inl ⟨rfl,by omega,by omega⟩)) ?_;have e:low32 (((n:Int)+2147483648) % 4294967296-2147483648+9223372036854775808-9223372036854775808)=n:=by
   simp only [low32]; omega
  have e2:(((n:Int)+2147483648) % 4294967296-2147483648+9223372036854775808) % 18446744073709551616-9223372036854775808=((n:Int)+2147483648) % 4294967296-2147483648+9223372036854775808-9223372036854775808:=by omega
  rw [e2,e];exact Reads.pure' n
 .rw [if_neg ht] at h;simp only [if_neg ht];rw [jfU];refine Reads.end' (aay (.inr ⟨rfl,by omega,by omega⟩)) ?_;have e:low64 (((n:Int)+9223372036854775808) % 18446744073709551616-9223372036854775808)=n:=by
   simp only [low64]; omega
  rw [e];exact Reads.pure' n
theorem jcT (t:Int) (n:Nat):KC t n=(if t=127 then 65 else 66)::(numW t n++[11]):=by
 unfold KC numW;split<;>rfl
def gGlo (g:Global):Prop := ∃ t:Nat,g.type=t/\isK t/\g.n<maxN t
theorem auc {g:Global} {b:List Nat} {a a':Nat} (hb:bytes b) (h:globalR b a = .ok (g,a')):gGlo g/\a<=a':=by
 obtain ⟨t,a1,h1,h⟩:=jJ h;obtain ⟨w,a2,h2,h⟩:=jJ h;obtain ⟨c,a3,h3,h⟩:=jJ h;obtain ⟨_,a4,h4,h⟩:=jJ h;obtain ⟨n,a5,h5,h⟩:=jJ h;obtain ⟨_,a6,h6,h⟩:=jJ h;obtain ⟨rfl,rfl⟩:=ze h;have k1:=jcF h1;have k2:=Yx h2;have k3:=Yx h3;have k4:=KX h4 (b:=0);have k5:=Zz h5;have k6:=Yx h6;exact ⟨⟨t,rfl,k1.1,k5.1⟩,by omega⟩
theorem amq {g:Global} (h:gGlo g):Reads globalR (KA g) g:=by
 obtain ⟨t,w,n⟩:=g;obtain ⟨t,rfl,h1,h2⟩:=h;have ht:=h1.lt;have e:putW [(t:Int),if w=true then 1 else 0]=[t,if w=true then 1 else 0]:=by
  cases w<;>simp [putW]<;>omega
 unfold KA;rw [jcT];simp only [e];refine Reads.cons (Yc h1) ?_;refine Reads.cons (Jp (by cases w<;>simp)) ?_;obtain ⟨c,hc⟩ : ∃ c,(if (t:Int)=127 then 65 else 66:Nat)=c:=⟨_,rfl⟩
 rw [hc];refine Reads.cons (Jp (by rw [<-hc]; split<;>simp)) ?_;refine Reads.bind (w1:=[]) (Ko (by rw [<-hc]; rcases h1 with rfl | rfl<;>rfl)) ?_;refine Reads.bind (WB h2) ?_;refine Reads.end' (w:=[11]) (Jp (by decide)) ?_;have:decide ((if w=true then 1 else 0:Nat)=1)=w:=by cases w<;>rfl
 rw [this];exact Reads.pure' _
def gDat (d:Data):Prop:=(∃ n:Nat,d.at'=n/\n<4294967296)/\d.bytes.length<=4096/\bytes d.bytes
theorem at4 {d:Data} {b:List Nat} {a a':Nat} (hb:bytes b) (h:dataR b a = .ok (d,a')):gDat d/\a+d.bytes.length<=a':=by
 obtain ⟨z,a1,h1,h⟩:=jJ h;obtain ⟨c,a2,h2,h⟩:=jJ h;obtain ⟨n,a3,h3,h⟩:=jJ h;obtain ⟨e,a4,h4,h⟩:=jJ h;obtain ⟨l,a5,h5,h⟩:=jJ h;obtain ⟨rfl,rfl⟩:=ze h;have k1:=aaf h1;have k2:=Yx h2;have k3:=Zz h3;have k4:=Yx h4;have k5:=Kj (p:=byte1) (G:=fun c=>c<256) (c:=fun _=>1) (fun b a x a' hb h=>by
  obtain ⟨rfl,rfl,_⟩:=YG h;exact ⟨byte_lt hb,by omega⟩) hb h5
 have e:=jfq l;rw [e] at k5;have k6:n<4294967296:=k3.1;have q:i64 n=(n:Int):=by
  simp only [i64];omega
 refine ⟨⟨⟨n,q,k6⟩,k5.1,k5.2.1⟩, ?_⟩;simp only;omega
theorem ajt {d:Data} (h:gDat d):Reads dataR (jcp d) d:=by
 obtain ⟨p,l⟩:=d;obtain ⟨⟨n,rfl,h1⟩,h2,h3⟩:=h;unfold jcp;rw [jcT];simp only at h2 h3 ⊢;have e:((n:Int) % 18446744073709551616).toNat=n:=by omega
 rw [e,if_pos trivial];rw [aY,List.append_assoc];refine Reads.cons (Zb (x:=0) (by omega) (by omega)) ?_;refine Reads.cons (Jp (by decide)) ?_;refine Reads.bind (WB (t:=127) h1) ?_;refine Reads.cons (Jp (by decide)) ?_;refine Reads.end' (Yu l h2 (by omega) fun x hx=>JI x) ?_;have e2:i64 n=n:=by simp only [i64]; omega
 rw [e2];exact Reads.pure' _
def jdZ {α:Type} (p:Rt α) (ts:List Sig) (o:Nat) (w:List Nat) (x:α) (o':Nat):Prop := ∀ pre post:List Nat,p ts (pre++(w++post)) pre.length o = .ok (x,pre.length+w.length,o')
def gTs (ts:List Sig):Prop:=ts.length<=32 /\ ∀ s∈ts,gSig s
def gBt (ts:List Sig) (s:Sig):Prop:=s=⟨[],[]⟩\/(∃ k:Nat,isK k/\s=⟨[],[(k:Int)]⟩)\/s∈ts
theorem au7 {ts:List Sig} {s:Sig} {b:List Nat} {a o a' o':Nat} (h:blockTypeR ts b a o = .ok (s,a',o')):gBt ts s/\a<a'/\o'=o:=by
 unfold blockTypeR at h;split at h
 .cases h; exact ⟨.inl rfl,by omega,rfl⟩
 .split at h
  .split at h
   .cases h
   .rename_i k a1 hk;cases h;have:=jcF hk;exact ⟨.inr (.inl ⟨k,this.1,rfl⟩),by omega,rfl⟩
  .split at h
   .cases h
   .rename_i n a1 hn;split at h
    .cases h
    .rename_i hr;cases h;have:=aje hn;refine ⟨.inr (.inr ?_),this,rfl⟩;have hlt:n.toNat<ts.length:=by omega
     rw [af,aa hlt];exact ah hlt
theorem aez {α:Type} {p:α->Bool} : ∀ (l:List α) (k:Nat) (x:α),x∈l->p x=true -> ∃ i:Nat,Go.Vw.findI p l k=((k+i:Nat):Int) /\ ∃ h:i<l.length,p l[i]=true
 | [],k,x,hx,_=>by cases hx
 | y::ys,k,x,hx,hp=>by
  simp only [Go.Vw.findI];by_cases hy:p y=true
  .exact ⟨0,by rw [if_pos hy]; rfl,by simp,hy⟩
  .have hx':x∈ys:=by
    rcases aE.1 hx with rfl | h
    .exact absurd hp hy
    .exact h
   obtain ⟨i,h1,h2,h3⟩:=aez ys (k+1) x hx' hp;refine ⟨i+1,by rw [if_neg hy,h1]; omega,by simpa using h2,by simpa using h3⟩
theorem adj {n:Int} (h:0<=n) (h2:n<64):sW n=[n.toNat]:=by
 have hl:Wl n=true:=by simp [Wl]; omega
 unfold sW;rw [Yh,if_pos hl]
 congr 1
 omega
theorem ad9 {ts:List Sig} {s:Sig} {o:Nat} (ht:gTs ts) (h:gBt ts s):jdZ blockTypeR ts o (btW ts s) s o/\(btW ts s).length=1:=by
 have k1 : ∀ k:Nat,isK k->jdZ blockTypeR ts o [k] ⟨[],[(k:Int)]⟩ o:=by
  intro k hk pre post;have hg:(pre++([k]++post)).getD pre.length 0=k:=by simp [af]
  have hl:pre.length<(pre++([k]++post)).length:=by simp
  unfold blockTypeR;rw [hg,if_neg (by rintro ⟨_,h⟩; rcases hk with rfl | rfl<;>cases h),if_pos ⟨hl,by rcases hk with rfl | rfl<;>simp⟩,Yc hk pre post]
 have k2:jdZ blockTypeR ts o [64] ⟨[],[]⟩ o:=by
  intro pre post;have hg:(pre++([64]++post)).getD pre.length 0=64:=by simp [af]
  have hl:pre.length<(pre++([64]++post)).length:=by simp
  unfold blockTypeR;rw [hg,if_pos ⟨hl,rfl⟩]
  rfl
 have put1 : ∀ k:Nat,isK k->putW [(k:Int)]=[k]:=fun k hk=>by
  have:=hk.lt;simp [putW]; omega
 rcases h with rfl | ⟨k,hk,rfl⟩ | hm
 .have e:btW ts ⟨[],[]⟩=[64]:=by simp [btW]
  rw [e]; exact ⟨k2,rfl⟩
 .have e:btW ts ⟨[],[(k:Int)]⟩=[k]:=by
   have:=put1 k hk;simp only [btW,aF,List.length_singleton,and_self,if_true];simpa using this
  rw [e]; exact ⟨k1 k hk,rfl⟩
 .obtain ⟨a,r,rfl,h1,h2,h3,h4⟩:=ht.2 s hm;unfold btW;simp only [Kk];by_cases c1:a.length=0/\r.length=1
  .rw [if_pos c1];have e1:a=[]:=List.length_eq_zero_iff.1 c1.1;obtain ⟨k,rfl⟩:=List.length_eq_one_iff.1 c1.2;subst e1;have hk:=h4 k (by simp);have e:(ints [k]).getD 0 0=(k:Int):=rfl;rw [e,put1 k hk];exact ⟨k1 k hk,rfl⟩
  .rw [if_neg c1];by_cases c2:a.length+r.length=0
   .rw [if_pos (.inl c2)];have e1:a=[]:=List.length_eq_zero_iff.1 (by omega);have e2:r=[]:=List.length_eq_zero_iff.1 (by omega);subst e1 e2;exact ⟨k2,rfl⟩
   .obtain ⟨i,hi,hlt,hp⟩:=aez (p:=fun t=>decide (t=(⟨ints a,ints r⟩:Sig))) ts 0 _ hm (by simp);have hb:btI ts ⟨ints a,ints r⟩=(i:Int):=by unfold btI; rw [hi]; omega
    have h32:=ht.1;rw [if_neg (by rw [hb]; omega),hb,adj (by omega) (by omega)];refine ⟨fun pre post => ?_,rfl⟩;have hg:(pre++([(i:Int).toNat]++post)).getD pre.length 0=i:=by simp [af]
    have hrd:=aay (size:=64) (V:=(i:Int)) (.inr ⟨rfl,by omega,by omega⟩) pre post;rw [adj (by omega) (by omega)] at hrd;unfold blockTypeR;rw [hg,if_neg (by omega),if_neg (by omega),hrd];simp only;rw [if_neg (by omega)];have e:ts.getD (i:Int).toNat default=ts[i]:=by
     rw [ba,af,aa hlt]; rfl
    rw [e];simp at hp;rw [hp]
def jab (op:Int) (n m:Nat) (ts:List Int):List Nat:=if (Ss.accOf op).isSome=true then uW m++uW n
  else if op=12\/op=13\/op=16\/op=32\/op=33\/op=34\/op=35\/op=36 then uW n
  else if op=14 then jS (Go.IntKind.i64.wrap (ts.length-1))++ts.flatMap jS
  else if op=63\/op=64 then [0]
  else if op=65 then numW 127 n
  else if op=66 then numW 126 n else []
theorem abv (tys:List Sig) (c n m:Nat) (ty:Sig) (b e:List Ins) (he:Bool) (ts:List Int) (hc:c<256) (h : ¬ (c=2\/c=3\/c=4)):insW tys (.mk c n m ty b e he ts)=c::jab c n m ts:=by
 have h' : ¬ ((c:Int)=2\/(c:Int)=3\/(c:Int)=4):=by omega
 have hp:putW [(c:Int)]=[c]:=by simp [putW]; omega
 rw [insW,hp,if_neg h']
 rfl
theorem jeL : ∀ (g f x:Nat),x<128^(g+1)->(lebZ jai f (x:Int)).length<=g+1
 | g,0,x,h=>by simp [lebZ]
 | 0,f+1,x,h=>by
  have hl:jai (x:Int)=true:=by simp [jai]; omega
  rw [Yh,if_pos hl]; simp
 | g+1,f+1,x,h=>by
  rw [Yh];split
  .simp
  .rw [av,show (x:Int) / 128=((x / 128:Nat):Int) by omega];have:=jeL g f (x / 128) (by rw [Nat.pow_succ] at h; omega);omega
theorem uW5 {x:Nat} (h:x<4294967296):(uW (x:Int)).length<=5:=jeL 4 9 x (by omega)
theorem JC {x:Nat} (h:x<4294967296):(jS (x:Int)).length<=5:=by rw [qW _ (by omega)]; exact uW5 h
theorem ail {c n m:Nat} {ts:List Int} (h:Ss.accOf c=none) (h2 : ¬ (c=12\/c=13\/c=16\/c=32\/c=33\/c=34\/c=35\/c=36)) (h3 : ¬ c=14) (h4 : ¬ (c=63\/c=64)) (h5 : ¬ c=65) (h6 : ¬ c=66):jab c n m ts=[]:=by
 unfold jab;rw [h,if_neg (by simp),if_neg (by omega),if_neg (by omega),if_neg (by omega),if_neg (by omega),if_neg (by omega)]
structure OpOk (c n m:Nat) (tg:List Int):Prop where
 lc:c<256
 n5:c≠5
 n11:c≠11
 ln:n<18446744073709551616
 lm:m<18446744073709551616
 lt:tg.length<=65
 rd:Reads (opR c) (jab c n m tg) (.mk c n m ⟨[],[]⟩ [] [] false tg)
theorem amj:opR 5=failAt 6 1/\opR 11=failAt 6 1:=⟨rfl,rfl⟩
theorem awe {c:Nat} (hc:c<256) {x:Ins} {b:List Nat} {a a':Nat} (hb:bytes b) (h:opR c b a = .ok (x,a')) : ∃ n m tg,x = .mk c n m ⟨[],[]⟩ [] [] false tg/\OpOk c n m tg/\a<=a'/\1+(jab c n m tg).length<=6*(a'-a+1):=by
 have n5:c≠5:=by rintro rfl; rw [amj.1] at h; cases h
 have n11:c≠11:=by rintro rfl; rw [amj.2] at h; cases h
 have h0:=h;unfold opR at h;split at h
 .rename_i hk;obtain ⟨rfl,rfl⟩:=ze (α:=Ins) h;have ht:jab c 0 0 []=[]:=by
   rcases hk with rfl | rfl | rfl | rfl | rfl<;>rfl
  refine ⟨0,0,[],rfl,⟨hc,n5,n11,by omega,by omega,by simp, ?_⟩,by omega,by rw [ht]; simp⟩;rw [ht];have:opR c=Rd.pure (plain c):=by unfold opR; rw [if_pos hk]
  rw [this]; exact Reads.pure _
 rename_i hk1;split at h
 .rename_i hk;obtain ⟨n,a1,h1,h2⟩:=jJ (p:=index) (f:=fun n=>Rd.pure (JY c n 0)) h;obtain ⟨rfl,rfl⟩:=ze (α:=Ins) h2;have hn:=Jt h1;have ht:jab c n 0 []=uW n:=by
   rcases hk with rfl | rfl | rfl | rfl | rfl | rfl | rfl | rfl<;>rfl
  refine ⟨n,0,[],rfl,⟨hc,n5,n11,by omega,by omega,by simp, ?_⟩,by omega,by rw [ht]; have:=uW5 hn.1; omega⟩;rw [ht];have:opR c=Rd.bind index fun n=>Rd.pure (JY c n 0):=by unfold opR; rw [if_neg hk1,if_pos hk]
  rw [this];have:=Reads.bind' (f:=fun n=>Rd.pure (JY c n 0)) (qY hn.1) (Reads.pure (JY c n 0))
  rwa [List.append_nil] at this
 rename_i hk2;split at h
 .rename_i hk;subst hk;unfold tabR at h;split at h
  .cases h
  rename_i ts a1 h1;split at h
  .cases h
  rename_i t a2 h2;cases h;obtain ⟨k1,k2,k3⟩:=Kj (p:=index) (G:=fun n=>n<4294967296) (c:=fun _=>1) (fun b a x a' _ h=>by have:=Jt h; exact ⟨this.1,by omega⟩) hb h1;have k4:=Jt h2;have e:=jfq ts;rw [e] at k3;obtain ⟨tg,htg⟩ : ∃ tg,((ts++[t]).map fun n:Nat=>(n:Int))=tg:=⟨_,rfl⟩
  have hlen:tg.length=ts.length+1:=by rw [<-htg]; simp
  have ht:jab (14:Nat) 0 0 tg=jS ts.length++(ts.flatMap (fun n:Nat=>uW n)++uW t):=by
   have e1:Go.IntKind.i64.wrap ((tg.length:Int)-1)=(ts.length:Int):=by rw [jfU,hlen]; omega
   have e2:tg.flatMap jS=ts.flatMap (fun n:Nat=>uW n)++uW t:=by
    rw [<-htg,List.flatMap_map,List.flatMap_append,List.flatMap_singleton,qW t (by omega)]
    congr 1
    have : ∀ l:List Nat,(∀ x∈l,x<4294967296)->l.flatMap (fun n:Nat=>jS (n:Int))=l.flatMap (fun n:Nat=>uW (n:Int)):=by
     intro l
     induction l with
     | nil=>intro _; rfl
     | cons y l ih =>
      intro hl;rw [List.flatMap_cons,List.flatMap_cons,ih (fun x hx=>hl x (by simp [hx])),qW y (by have:=hl y (by simp); omega)]
    exact this ts k2
   show jS (Go.IntKind.i64.wrap ((tg.length:Int)-1))++tg.flatMap jS=_;rw [e1,e2]
  have hfl : ∀ l:List Nat,(∀ x∈l,x<4294967296)->(l.flatMap (fun n:Nat=>uW (n:Int))).length<=5*l.length:=by
   intro l
   induction l with
   | nil=>intro _; simp
   | cons y l ih =>
    intro hl;have:=uW5 (hl y (by simp));have:=ih (fun x hx=>hl x (by simp [hx]));rw [List.flatMap_cons,List.length_append,av];omega
  refine ⟨0,0,tg,by rw [htg],⟨hc,n5,n11,by omega,by omega,by omega, ?_⟩,by omega, ?_⟩
  .rw [ht];have:opR 14=tabR 14:=rfl;rw [this];intro pre post;have q1:=Zv (f:=fun n:Nat=>uW (n:Int)) (most:=64) ts k1 (by omega) (fun x hx=>qY (k2 x hx));have r1:=q1 pre (uW t++post);have r2:=qY k4.1 (pre++(jS ts.length++ts.flatMap fun n:Nat=>uW (n:Int))) post;unfold tabR;simp only [List.append_assoc,List.length_append] at r1 r2 ⊢;rw [r1];simp only;rw [r2];simp only [htg];refine congrArg _ (Prod.ext rfl ?_);show _=_;omega
  .rw [ht];have q1:=hfl ts k2;have q2:=JC (x:=ts.length) (by omega);have q3:=uW5 k4.1;simp only [List.length_append];omega
 rename_i hk3;split at h
 .rename_i hk;obtain ⟨z,a1,h1,h2⟩:=jJ (p:=one [0]) (f:=fun _=>Rd.pure (plain c)) h;obtain ⟨rfl,rfl⟩:=ze (α:=Ins) h2;have ho:=Yx h1;have ht:jab c 0 0 []=[0]:=by rcases hk with rfl | rfl<;>rfl
  refine ⟨0,0,[],rfl,⟨hc,n5,n11,by omega,by omega,by simp, ?_⟩,by omega,by rw [ht]; simp; omega⟩;rw [ht];have:opR c=Rd.bind (one [0]) fun _=>Rd.pure (plain c):=by unfold opR; rw [if_neg hk1,if_neg hk2,if_neg hk3,if_pos hk]
  rw [this];exact Reads.bind' (w1:=[0]) (f:=fun _=>Rd.pure (plain c)) (Jp (c:=0) (by decide)) (Reads.pure (plain c))
 rename_i hk4;split at h
 .rename_i hk;subst hk;obtain ⟨n,a1,h1,h2⟩:=jJ (p:=Ja 127) (f:=fun n=>Rd.pure (JY 65 n 0)) h;obtain ⟨rfl,rfl⟩:=ze (α:=Ins) h2;have hn:=Zz h1;have hm:maxN 127=4294967296:=rfl;have ht:jab (65:Nat) n 0 []=numW 127 n:=rfl;have hl:=YA Wl 9 (if (127:Int)=127 then Go.IntKind.i64.wrap (Go.IntKind.i32.wrap n) else Go.IntKind.i64.wrap n);refine ⟨n,0,[],rfl,⟨hc,n5,n11,by omega,by omega,by simp, ?_⟩,by omega,by rw [ht]; unfold numW sW; omega⟩;rw [ht];have:=Reads.bind' (f:=fun n=>Rd.pure (JY 65 n 0)) (WB hn.1) (Reads.pure (JY 65 n 0))
  rwa [List.append_nil] at this
 rename_i hk5;split at h
 .rename_i hk;subst hk;obtain ⟨n,a1,h1,h2⟩:=jJ (p:=Ja 126) (f:=fun n=>Rd.pure (JY 66 n 0)) h;obtain ⟨rfl,rfl⟩:=ze (α:=Ins) h2;have hn:=Zz h1;have hm:maxN 126=18446744073709551616:=rfl;have ht:jab (66:Nat) n 0 []=numW 126 n:=rfl;have hl:=YA Wl 9 (if (126:Int)=127 then Go.IntKind.i64.wrap (Go.IntKind.i32.wrap n) else Go.IntKind.i64.wrap n);refine ⟨n,0,[],rfl,⟨hc,n5,n11,by omega,by omega,by simp, ?_⟩,by omega,by rw [ht]; unfold numW sW; omega⟩;rw [ht];have:=Reads.bind' (f:=fun n=>Rd.pure (JY 66 n 0)) (WB hn.1) (Reads.pure (JY 66 n 0))
  rwa [List.append_nil] at this
 rename_i hk6;cases hacc:Ss.accOf (c:Int) with
 | some acc =>
  rw [hacc] at h;simp only at h;have hop:opR c=accR c acc.width:=by unfold opR; rw [if_neg hk1,if_neg hk2,if_neg hk3,if_neg hk4,if_neg hk5,if_neg hk6]; simp only [hacc]
  unfold accR at h;split at h
  .cases h
  rename_i m a1 h1;split at h
  .cases h
  rename_i hr;split at h
  .cases h
  rename_i n a2 h2;cases h;have k1:=Jt h1;have k2:=Jt h2;have ht:jab c n m []=uW m++uW n:=by unfold jab; rw [hacc]; rfl
  refine ⟨n,m,[],rfl,⟨hc,n5,n11,by omega,by omega,by simp, ?_⟩,by omega,by rw [ht,List.length_append]; have:=uW5 k1.1; have:=uW5 k2.1; omega⟩;rw [ht,hop];intro pre post;have r1:=qY k1.1 pre (uW n++post);have r2:=qY k2.1 (pre++uW m) post;unfold accR;simp only [List.append_assoc,List.length_append] at r1 r2 ⊢;rw [r1];simp only;rw [if_neg hr,r2];simp only;rw [Nat.add_assoc]
  rfl
 | none =>
  rw [hacc] at h;simp only at h;split at h
  .rename_i hs;obtain ⟨rfl,rfl⟩:=ze (α:=Ins) h;have ht:jab c 0 0 []=[]:=ail hacc hk2 hk3 hk4 hk5 hk6;refine ⟨0,0,[],rfl,⟨hc,n5,n11,by omega,by omega,by simp, ?_⟩,by omega,by rw [ht]; simp⟩;rw [ht];have:opR c=Rd.pure (plain c):=by unfold opR; rw [if_neg hk1,if_neg hk2,if_neg hk3,if_neg hk4,if_neg hk5,if_neg hk6]; simp only [hacc]; rw [if_pos hs]
   rw [this]; exact Reads.pure _
  .split at h<;>cases h
mutual
def gI (ts:List Sig):Ins->Nat->Prop
 | .mk op n m ty body els he tg,d => ∃ c:Nat,op=c /\
  (((c=2\/c=3\/c=4)/\n=0/\m=0/\tg=[]/\gBt ts ty/\0<d/\gL ts body (d-1)/\gL ts els (d-1)/\(he=true->c=4)/\(he=false->els=[]))
  \/ (¬ (c=2\/c=3\/c=4)/\ty=⟨[],[]⟩/\body=[]/\els=[]/\he=false/\OpOk c n m tg))
def gL (ts:List Sig):List Ins->Nat->Prop
 | [],_=>True
 | x::xs,d=>gI ts x d/\gL ts xs d
end
mutual
def cI:Ins->Nat
 | .mk _ _ _ _ body els _ _=>1+(cL body+cL els)
def cL:List Ins->Nat
 | []=>0
 | x::xs=>cI x+cL xs
end
theorem aj7 (x:Ins):0<cI x:=by
 cases x
 simp only [cI];omega
def InvI (ts:List Sig) (d:Nat) (ri:Nat->Rt Ins):Prop := ∀ (c:Nat) (b:List Nat) (a o:Nat) (x:Ins) (a' o':Nat),bytes b->c<256->ri c ts b a o = .ok (x,a',o') ->
 c≠5/\gI ts x d/\o'+1=o+cI x/\(o<=512->o'<=512)/\a<=a'/\(insW ts x).length<=6*(a'-a+1)
def InvB (ts:List Sig) (d:Nat) (rb:Bool->Rt (List Ins × Bool)):Prop := ∀ (e:Bool) (b:List Nat) (a o:Nat) (l:List Ins) (el:Bool) (a' o':Nat),bytes b->rb e ts b a o = .ok ((l,el),a',o') ->
 gL ts l d/\o'=o+cL l/\(o<=512->o'<=512)/\(el=true->e=true)/\(zg ts l).length+6<=6*(a'-a)/\a<a'
theorem aec {ts:List Sig} {d:Nat} {ri:Nat->Rt Ins} (hi:InvI ts d ri) (e:Bool) : ∀ (n:Nat) (acc:List Ins) (b:List Nat) (a o:Nat) (l:List Ins) (el:Bool) (a' o':Nat),bytes b->jbz ri e n acc ts b a o = .ok ((l,el),a',o') ->
  ∃ l',l=acc++l'/\gL ts l' d/\o'=o+cL l'/\(o<=512->o'<=512)/\(el=true->e=true)/\(zg ts l').length+6<=6*(a'-a)/\a<a'
 | 0,acc,b,a,o,l,el,a',o',hb,h=>by cases h
 | n+1,acc,b,a,o,l,el,a',o',hb,h=>by
  simp only [jbz] at h;split at h
  .cases h
  rename_i c a1 h1;obtain ⟨rfl,rfl,_⟩:=YG h1;split at h
  .cases h
   exact ⟨[],by simp,trivial,rfl,id,(fun h=>by cases h),by simp [zg],by omega⟩
  .split at h
   .rename_i hc;cases h;exact ⟨[],by simp,trivial,rfl,id,fun _=>hc.2,by simp [zg],by omega⟩
   .obtain ⟨o1,ho1⟩ : ∃ o1,(if b.getD a 0=5 then o else o+1)=o1:=⟨_,rfl⟩
    rw [ho1] at h;by_cases ho:512<o1
    .rw [if_pos ho] at h; cases h
    rw [if_neg ho] at h;split at h
    .cases h
    rename_i x a2 o2 h2;obtain ⟨k1,k2,k3,k4,k5,k6⟩:=hi _ _ _ _ _ _ _ hb (byte_lt hb) h2;rw [if_neg k1] at ho1;obtain ⟨l',rfl,j1,j2,j3,j4,j5,j6⟩:=aec hi e n _ b a2 o2 l el a' o' hb h;refine ⟨x::l',by simp,⟨k2,j1⟩,by simp only [cL]; omega,fun _=>j3 (k4 (by omega)),j4, ?_,by omega⟩;rw [zg,List.length_append];omega
theorem InvB.run {ts:List Sig} {d:Nat} {ri:Nat->Rt Ins} (hi:InvI ts d ri):InvB ts d (runR ri):=by
 intro e b a o l el a' o' hb h;obtain ⟨l',rfl,k⟩:=aec hi e _ [] b a o l el a' o' hb h;simpa using k
theorem aqn {c:Nat} (h:c<256):putW [(c:Int)]=[c]:=by simp [putW]; omega
theorem InvI.flat {ts:List Sig} {d c:Nat} {b:List Nat} {a o a' o':Nat} {x:Ins} (hb:bytes b) (hc:c<256) (hk : ¬ (c=2\/c=3\/c=4)) (h:ofR (opR c) ts b a o = .ok (x,a',o')) :
  c≠5/\gI ts x d/\o'+1=o+cI x/\(o<=512->o'<=512)/\a<=a'/\(insW ts x).length<=6*(a'-a+1):=by
 rw [aa9] at h;split at h
 .cases h
 rename_i x1 a1 h1;cases h;obtain ⟨n,m,tg,rfl,k1,k2,k3⟩:=awe hc hb h1;refine ⟨k1.n5, ?_,by simp [cI,cL],id,k2,by rw [abv ts c n m _ _ _ _ _ hc hk,av]; omega⟩;simp only [gI];exact ⟨c,rfl, .inr ⟨hk,by simp,trivial,trivial,trivial,k1⟩⟩
theorem jbG (tys:List Sig) {c:Nat} (hc:c=2\/c=3\/c=4) (n m:Nat) (ty:Sig) (b e:List Ins) (he:Bool) (ts:List Int):insW tys (.mk c n m ty b e he ts)=c::(btW tys ty++(zg tys b++((if he=true then 5::zg tys e else [])++[11]))):=by
 have hp:putW [(c:Int)]=[c]:=aqn (by omega);have ha:(Ss.accOf (c:Int)).isSome=false:=by rcases hc with rfl | rfl | rfl<;>rfl
 rw [insW,hp,ha,if_neg (by simp),if_pos (by omega)]
 rfl
theorem InvI.instr {ts:List Sig} (ht:gTs ts) {d:Nat} {rb:Bool->Rt (List Ins × Bool)} (h:InvB ts d rb):InvI ts (d+1) (zt rb false):=by
 intro c b a o x a' o' hb hc hr;unfold zt at hr;split at hr
 .rename_i hk;unfold brR at hr;rw [if_neg (by simp)] at hr;split at hr
  .cases hr
  rename_i ty a1 o1 h1;obtain ⟨q1,q2,rfl⟩:=au7 h1;have q3:=(ad9 (o:=0) ht q1).2;split at hr
  .cases hr
  .rename_i l a2 o2 h2;cases hr;obtain ⟨k1,k2,k3,k4,k5,k6⟩:=h _ _ _ _ _ _ _ _ hb h2;refine ⟨by omega, ?_,by simp [cI,cL]; omega,k3,by omega, ?_⟩
   .simp only [gI];exact ⟨c,rfl, .inl ⟨hk,trivial,trivial,trivial,q1,by omega,k1,trivial,(by simp),by simp⟩⟩
   .rw [jbG ts hk];simp only [av,List.length_append,aF];simp;omega
  .rename_i l a2 o2 h2;obtain ⟨k1,k2,k3,k4,k5,k6⟩:=h _ _ _ _ _ _ _ _ hb h2;split at hr
   .cases hr
   rename_i l2 el a3 o3 h3;cases hr;obtain ⟨j1,j2,j3,j4,j5,j6⟩:=h _ _ _ _ _ _ _ _ hb h3;have hc4:c=4:=by simpa using k4 rfl
   refine ⟨by omega, ?_,by simp [cI,cL]; omega,fun ho=>j3 (k3 ho),by omega, ?_⟩
   .simp only [gI];exact ⟨c,rfl, .inl ⟨hk,trivial,trivial,trivial,q1,by omega,k1,j1,(fun _=>hc4),by simp⟩⟩
   .rw [jbG ts hk];simp only [av,List.length_append,aF,if_true];omega
 .rename_i hk;exact InvI.flat hb hc hk hr
theorem InvI.last {ts:List Sig} {rb:Bool->Rt (List Ins × Bool)}:InvI ts 0 (zt rb true):=by
 intro c b a o x a' o' hb hc hr;unfold zt at hr;split at hr
 .unfold brR at hr;rw [if_pos rfl] at hr;cases hr
 .rename_i hk;exact InvI.flat hb hc hk hr
theorem ac7 {ts:List Sig} (ht:gTs ts) : ∀ d,InvB ts d (jgh d)
 | 0=>InvB.run InvI.last
 | d+1=>InvB.run (InvI.instr ht (ac7 ht d))
def RdsI (ts:List Sig) (d:Nat) (ri:Nat->Rt Ins):Prop := ∀ (x:Ins) (o:Nat),gI ts x d->o+cI x<=512 -> ∃ c w,insW ts x=c::w/\c≠5/\c≠11/\jdZ (ri c) ts (o+1) w x (o+cI x)
def RdsB (ts:List Sig) (d:Nat) (rb:Bool->Rt (List Ins × Bool)):Prop := ∀ (l:List Ins) (o:Nat),gL ts l d->o+cL l<=512->(∀ e,jdZ (rb e) ts o (zg ts l++[11]) (l,false) (o+cL l))/\jdZ (rb true) ts o (zg ts l++[5]) (l,true) (o+cL l)
theorem jby {ts:List Sig} {d:Nat} {ri:Nat->Rt Ins} (hi:RdsI ts d ri) (e:Bool) (z:Nat) (fl:Bool) (hz:z=11/\fl=false\/z=5/\fl=true/\e=true) : ∀ (l:List Ins) (n:Nat) (acc:List Ins) (o:Nat) (pre post:List Nat),gL ts l d->o+cL l<=512->(zg ts l).length+1<=n ->
  jbz ri e n acc ts (pre++(zg ts l++([z]++post))) pre.length o = .ok ((acc++l,fl),pre.length+((zg ts l).length+1),o+cL l)
 | [],n,acc,o,pre,post,hg,hc,hn=>by
  cases n with
  | zero=>simp [zg] at hn
  | succ n =>
   simp only [zg,aZ,cL,List.append_nil,aF];have:=JI z pre post;simp only [jbz,this];rcases hz with ⟨rfl,rfl⟩ | ⟨rfl,rfl,rfl⟩
   .simp
   .simp
 | x::xs,n,acc,o,pre,post,hg,hc,hn=>by
  cases n with
  | zero=>simp at hn
  | succ n =>
   simp only [gL] at hg;simp only [cL] at hc ⊢;obtain ⟨c,w,h1,h2,h3,h4⟩:=hi x o hg.1 (by omega);have hp:=aj7 x;simp only [zg,h1,List.length_append,av] at hn ⊢;have r1:=JI c pre (w++(zg ts xs++([z]++post)));have r2:=h4 (pre++[c]) (zg ts xs++([z]++post));have r3:=jby hi e z fl hz xs n (acc++[x]) (o+cI x) (pre++([c]++w)) post hg.2 (by omega) (by omega);have e1:pre++(c::w++zg ts xs++([z]++post))=pre++([c]++(w++(zg ts xs++([z]++post)))):=by simp
   have e2:pre++[c]++(w++(zg ts xs++([z]++post)))=pre++([c]++(w++(zg ts xs++([z]++post)))):=by simp
   have e3:pre++([c]++w)++(zg ts xs++([z]++post))=pre++([c]++(w++(zg ts xs++([z]++post)))):=by simp
   rw [e1];rw [e2] at r2;rw [e3] at r3;simp only [List.length_append,List.length_singleton] at r1 r2 r3;simp only [jbz,r1];rw [if_neg h3,if_neg (fun h=>h2 h.1),if_neg h2,if_neg (by omega),r2];simp only;rw [show pre.length+1+w.length=pre.length+(1+w.length) by omega,r3];refine congrArg _ (Prod.ext ?_ (Prod.ext ?_ ?_))
   .simp
   .simp only; omega
   .simp only; omega
theorem RdsB.run {ts:List Sig} {d:Nat} {ri:Nat->Rt Ins} (hi:RdsI ts d ri):RdsB ts d (runR ri):=by
 intro l o hg hc;constructor
 .intro e pre post;rw [List.append_assoc,List.length_append];refine jby hi e 11 false (.inl ⟨rfl,rfl⟩) l _ [] o pre post hg hc ?_;simp only [List.length_append,List.length_singleton];omega
 .intro pre post;rw [List.append_assoc,List.length_append];refine jby hi true 5 true (.inr ⟨rfl,rfl,rfl⟩) l _ [] o pre post hg hc ?_;simp only [List.length_append,List.length_singleton];omega
theorem RdsI.flat {ts:List Sig} {rb:Bool->Rt (List Ins × Bool)} {last:Bool} {c n m o:Nat} {tg:List Int} (hk : ¬ (c=2\/c=3\/c=4)) (h:OpOk c n m tg) : ∃ c' w,insW ts (.mk c n m ⟨[],[]⟩ [] [] false tg)=c'::w/\c'≠5/\c'≠11/\jdZ (zt rb last c') ts (o+1) w (.mk c n m ⟨[],[]⟩ [] [] false tg) (o+cI (.mk c n m ⟨[],[]⟩ [] [] false tg)):=by
 refine ⟨c,_,abv ts c n m _ _ _ _ _ h.lc hk,h.n5,h.n11,fun pre post => ?_⟩;unfold zt;rw [if_neg hk,aa9,h.rd pre post];simp [cI,cL]
theorem RdsI.instr {ts:List Sig} (ht:gTs ts) {d:Nat} {rb:Bool->Rt (List Ins × Bool)} (h:RdsB ts d rb):RdsI ts (d+1) (zt rb false):=by
 intro x o hg hc;obtain ⟨op,n,m,ty,body,els,he,tg⟩:=x;simp only [gI] at hg;obtain ⟨c,rfl,hg⟩:=hg;rcases hg with ⟨hk,rfl,rfl,rfl,hty,_,hb,hE,h4,h5⟩ | ⟨hk,rfl,rfl,rfl,rfl,hop⟩
 .refine ⟨c,_,jbG ts hk 0 0 ty body els he [],by omega,by omega,fun pre post => ?_⟩;simp only [cI] at hc ⊢;simp only [Nat.add_sub_cancel] at hb hE;obtain ⟨t1,t2⟩:=ad9 (o:=o+1) ht hty;obtain ⟨b1,b2⟩:=h body (o+1) hb (by omega);obtain ⟨e1,_⟩:=h els (o+1+cL body) hE (by omega);unfold zt;rw [if_pos hk];unfold brR;rw [if_neg (by simp)];cases he with
  | false =>
   have hnil:=h5 rfl;subst hnil;simp only [ay,if_false,aZ];have r1:=t1 pre (zg ts body++[11]++post);have r2:=b1 (decide (c=4)) (pre++btW ts ty) post;simp only [List.append_assoc,List.length_append] at r1 r2 ⊢;rw [r1];simp only;rw [r2];simp only [cL];refine congrArg _ (Prod.ext rfl (Prod.ext ?_ ?_))
   .simp only; omega
   .simp only; omega
  | true =>
   have hc4:=h4 rfl;subst hc4;simp only [if_true];have r1:=t1 pre (zg ts body++[5]++(zg ts els++[11]++post));have r2:=b2 (pre++btW ts ty) (zg ts els++[11]++post);have r3:=e1 false (pre++btW ts ty++(zg ts body++[5])) post;simp only [List.append_assoc,List.length_append,List.singleton_append,aY,aZ] at r1 r2 r3 ⊢;rw [r1];simp only [decide_true];rw [r2];simp only;rw [show pre.length+(btW ts ty).length+((zg ts body).length+[5].length)=pre.length+((btW ts ty).length+((zg ts body).length+[5].length)) by omega];simp only [Nat.add_assoc] at r3 ⊢;rw [r3];simp only [av,aF,List.length_append];refine congrArg _ (Prod.ext rfl (Prod.ext ?_ ?_))
   .simp only; omega
   .simp only
 .exact RdsI.flat hk hop
theorem RdsI.last {ts:List Sig} {rb:Bool->Rt (List Ins × Bool)}:RdsI ts 0 (zt rb true):=by
 intro x o hg hc;obtain ⟨op,n,m,ty,body,els,he,tg⟩:=x;simp only [gI] at hg;obtain ⟨c,rfl,hg⟩:=hg;rcases hg with ⟨_,_,_,_,_,h,_⟩ | ⟨hk,rfl,rfl,rfl,rfl,hop⟩
 .exact absurd h (Nat.lt_irrefl 0)
 .exact RdsI.flat hk hop
theorem jfe {ts:List Sig} (ht:gTs ts) : ∀ d,RdsB ts d (jgh d)
 | 0=>RdsB.run RdsI.last
 | d+1=>RdsB.run (RdsI.instr ht (jfe ht d))
end Wm
namespace Go.Vw
open Go.Proofs Go.RowKit Wm
def magS:ByteArray:=⟨#[0,97,115,109,1,0,0,0]⟩
theorem ahb : ∀ k:Nat,k<8->WD (.str magS) (.int .i64 (k:Int))=some (.int .u8 ((magic.getD k 0:Nat):Int))/\IntKind.i64.wrap ((magic.getD k 0:Nat):Int)=((magic.getD k 0:Nat):Int)/\magic.drop k=magic.getD k 0::magic.drop (k+1) /\ ∃ ch,Utf8.decode magS k=(ch,1)
 | 0,_=>⟨rfl,rfl,rfl,_,rfl⟩
 | 1,_=>⟨rfl,rfl,rfl,_,rfl⟩
 | 2,_=>⟨rfl,rfl,rfl,_,rfl⟩
 | 3,_=>⟨rfl,rfl,rfl,_,rfl⟩
 | 4,_=>⟨rfl,rfl,rfl,_,rfl⟩
 | 5,_=>⟨rfl,rfl,rfl,_,rfl⟩
 | 6,_=>⟨rfl,rfl,rfl,_,rfl⟩
 | 7,_=>⟨rfl,rfl,rfl,_,rfl⟩
 | n+8,h=>absurd h (by omega)
def m0c (b:List Nat) (a:Nat):List V:=[vl vb b,bI a,vl je [],vl jp [], .nils,bH (-1),bH 0,vl jv [],vl jr [],bH (-1),vl jq [],bI 0]
def secF (ro bx:Nat):Nat->V
 | 0 => .func 35 [.ptr bx 0]
 | 1 => .meth 36 (.ptr ro 0)
 | 2 => .meth 37 (.ptr ro 0)
 | 3 => .meth 38 (.ptr ro 0)
 | 5 => .meth 39 (.ptr ro 0)
 | 6 => .meth 40 (.ptr ro 0)
 | 7 => .meth 41 (.ptr ro 0)
 | 8 => .func 42 [.ptr bx 0]
 | 10 => .meth 44 (.ptr ro 0)
 | 11 => .meth 45 (.ptr ro 0)
 | _ => .nilf
def secE (ro bx id:Nat):V := .tuple [.int .i64 (id:Int),secF ro bx id]
def jaB (ro bx:Nat):List V:=[secE ro bx 0,secE ro bx 1,secE ro bx 2,secE ro bx 3,secE ro bx 5,secE ro bx 6,secE ro bx 7,secE ro bx 8,secE ro bx 10,secE ro bx 11]
theorem ab8 (ro bx id:Nat) : ∀ (l:List Nat) (i:Nat),zi (.int .i64 (id:Int)) (l.map (secE ro bx)) i=some none/\id∉l\/id∈l /\ ∃ j,zi (.int .i64 (id:Int)) (l.map (secE ro bx)) i=some (some (j,secF ro bx id))
 | [],i => .inl ⟨rfl,by simp⟩
 | x::l,i=>by
  have h0:zi (.int .i64 (id:Int)) ((x::l).map (secE ro bx)) i=if id=x then some (some (i,secF ro bx x)) else zi (.int .i64 (id:Int)) (l.map (secE ro bx)) (i+1):=by
   show (match zB (.int .i64 (id:Int)) (.int .i64 (x:Int)) with | some true=>_ | some false=>_ | none=>_)=_;by_cases e:id=x
   .subst e;simp [zB]
   .have e':((id:Int)==(x:Int))=false:=by simp; omega
    simp only [zB,if_true,e',if_neg e]
  rw [h0];by_cases e:id=x
  .subst e;rw [if_pos rfl];exact .inr ⟨by simp,i,rfl⟩
  .rw [if_neg e];rcases ab8 ro bx id l (i+1) with ⟨h1,h2⟩ | ⟨h1,h2⟩
   .exact .inl ⟨h1,by simp [e,h2]⟩
   .exact .inr ⟨by simp [h1],h2⟩
theorem arj (id:Nat):(secP id).isSome=decide (id∈[0,1,2,3,5,6,7,8,10,11])/\(id∉[0,1,2,3,5,6,7,8,10,11] -> ∀ ro bx,secF ro bx id = .nilf):=by
 match id with
 | 0 | 1 | 2 | 3 | 4 | 5 | 6 | 7 | 8 | 9 | 10 | 11=>exact ⟨rfl,fun h ro bx=>by first | rfl | exact absurd h (by simp)⟩
 | n+12=>exact ⟨by simp [secP],fun _ _ _=>rfl⟩
theorem atm {ro bx mp:Nat} {T:Store} (h:T.get mp=some (0,jaB ro bx)) (id:Nat):qQ .nilf true T (.map mp) (.int .i64 (id:Int))=some (.tuple [secF ro bx id, .bool (secP id).isSome]):=by
 have e:jaB ro bx=[0,1,2,3,5,6,7,8,10,11].map (secE ro bx):=rfl;obtain ⟨h1,h2⟩:=arj id;rw [h1];simp only [qQ,h];rcases ab8 ro bx id [0,1,2,3,5,6,7,8,10,11] 0 with ⟨k1,k2⟩ | ⟨k1,j,k2⟩
 .rw [e,k1,h2 k2];rw [bg k2]; rfl
 .rw [e,k2];rw [bf k1]; rfl
theorem ar6 (ro bx id:Nat) (p:MS->Except Flt MS) (h:secP id=some p):SecVC NilC (if id=10 then AnyC else NilC) Tryz.prog ro (secF ro bx id) [] [(bx,(1,[.ptr ro 0]))] p:=by
 match id,h with
 | 0,h=>cases h; exact (anb ro bx).c
 | 1,h=>cases h; exact (atd ro _).c
 | 2,h=>cases h; exact (aks ro _).c
 | 3,h=>cases h; exact as3 ro _
 | 5,h=>cases h; exact (aoa ro _).c
 | 6,h=>cases h; exact (alr ro _).c
 | 7,h=>cases h; exact (amg ro _).c
 | 8,h=>cases h; exact (aud ro bx).c
 | 10,h=>cases h; exact ar0 ro _
 | 11,h=>cases h; exact (ahf ro _).c
theorem abg {ro fo:Nat} {m:MS} {S T T':Store} (hk:Kept S [ro] T) (h:Kept T (ownM ro fo m) T') (hfo:m.fs.isSome=true->S.nx<=fo):Kept S [ro] T':=by
 refine ⟨aU hk.1 h.1,fun o ho hno => ?_⟩;simp only [aM] at hno;rw [h.2 o (aK ho hk.1) fun hm => ?_]
 .exact hk.2 o ho (by simpa using hno)
 .unfold ownM at hm;split at hm
  .exact hno (by simpa using hm)
  .rename_i l hl;have:=hfo (by rw [hl]; rfl);simp only [aE,List.not_mem_nil,or_false] at hm;omega
theorem agw {ro fo o:Nat} {m:MS} (h1:o≠ro) (h2:m.fs.isSome=true->o≠fo):o∉ownM ro fo m:=by
 unfold ownM;split
 .simpa using h1
 .rename_i l hl;simp only [aE,List.not_mem_nil,or_false,not_or];exact ⟨h1,h2 (by rw [hl]; rfl)⟩
theorem jdh {α:Type} {q:Rd α} {f:MS->α->MS} (hf : ∀ m x,(f m x).b=m.b) {m m1:MS} (h:putP q f m = .ok m1):m1.b=m.b:=by
 simp only [putP] at h;split at h
 .cases h
 .cases h; exact hf _ _
theorem ahs {p:MS->Except Flt MS} {m m1:MS} (h:zU p m = .ok m1):m1.b=m.b:=by
 simp only [zU] at h;split at h
 .cases h
 .split at h
  .cases h
  .split at h
   .cases h
   .split at h
    .cases h
    .cases h; rfl
theorem abq : ∀ (k i:Nat) {m m1:MS},WF k i m = .ok m1->m1.b=m.b
 | 0,i,m,m1,h=>by cases h; rfl
 | k+1,i,m,m1,h=>by
  simp only [WF] at h;split at h
  .cases h
  .rename_i h1;exact (abq k (i+1) h).trans (ahs h1)
theorem avi {id:Nat} {p:MS->Except Flt MS} (h:secP id=some p) {m m1:MS} (hp:p m = .ok m1):m1.b=m.b:=by
 match id,h with
 | 0,h=>cases h; cases hp; rfl
 | 1,h=>cases h; refine jdh ?_ hp; exact fun _ _=>rfl
 | 2,h=>cases h; refine jdh ?_ hp; exact fun _ _=>rfl
 | 3,h =>
  cases h
  simp only [jdE] at hp;split at hp
  .cases hp
  .cases hp; rfl
 | 5,h =>
  cases h
  simp only [jaf] at hp;split at hp
  .cases hp
  .split at hp
   .cases hp; rfl
   .exact (abk hp).1
 | 6,h=>cases h; refine jdh ?_ hp; exact fun _ _=>rfl
 | 7,h=>cases h; refine jdh ?_ hp; exact fun _ _=>rfl
 | 8,h =>
  cases h
  simp only [jcX] at hp;split at hp
  .cases hp
  .cases hp; rfl
 | 10,h =>
  cases h
  simp only [Ym] at hp;split at hp
  .cases hp
  .split at hp
   .cases hp
   .have:=abq _ _ hp; exact this
 | 11,h=>cases h; refine jdh ?_ hp; exact fun _ _=>rfl
theorem aj0 {p:MS->Except Flt MS} (hp : ∀ m m1,p m = .ok m1->m1.b=m.b) {m m1:MS} (hm:m.a<=m.b.length) (h:zU p m = .ok m1):m.a<=m1.a:=by
 simp only [zU] at h;split at h
 .cases h
 .rename_i n a1 hi;have hle:=Zy _ _ _ _ hi;split at h
  .cases h
  .rename_i hn;split at h
   .cases h
   .rename_i m2 h2;have hb:=hp _ _ h2;split at h
    .cases h
    .rename_i hl;cases h;rw [hb] at hl;simp only [List.length_take] at hl ⊢;omega
def CC (coded:Bool):FC:=if coded=true then AnyC else NilC
theorem CC.stable (coded:Bool) (ro:Nat):(CC coded).stable ro:=by
 cases coded
 .exact NilC.stable ro
 .exact AnyC.stable ro
theorem SecR.any {P:Program} {ro:Nat} {f:V} {args:List V} {es:Ups} {p:MS->Except Flt MS} (h:SecR P ro f args es p):SecVC AnyC AnyC P ro f args es p:=by
 intro fo m S E _ hi he hE;have key : ∀ (r:V) (T:Store),(∃ m',MR ro fo m S p m' T/\r = .tuple []) -> ∃ m' fo',MP ro fo m S p m' fo' T/\AnyC fo' m'.fs T/\r = .tuple []:=by
  rintro r T ⟨m',hm,rfl⟩;exact ⟨m',fo,hm.mp,trivial,rfl⟩
 have:=h fo m S E hi he hE;cases f<;>simp only [zp] at this ⊢ <;> first | exact ⟨this.1,this.2.mono (fun r T=>key r T) fun _ _ h=>h⟩ | exact this
theorem anc (ro bx id:Nat) (p:MS->Except Flt MS) (h:secP id=some p) (coded:Bool) (hc:coded=true->id=0\/11<=id):SecVC (CC coded) (CC (coded||decide (id=10))) Tryz.prog ro (secF ro bx id) [] [(bx,(1,[.ptr ro 0]))] p:=by
 cases coded with
 | false =>
  have:=ar6 ro bx id p h;by_cases e:id=10
  .rw [if_pos e] at this;rw [bf e]; exact this
  .rw [if_neg e] at this;rw [bg e]; exact this
 | true =>
  match id,h,hc rfl with
  | 0,h,_=>cases h; exact (anb ro bx).any
  | 11,h,_=>cases h; exact (ahf ro _).any
  | n+12,h,_=>simp [secP] at h
  | 1,h,hc | 2,h,hc | 3,h,hc | 4,h,hc | 5,h,hc | 6,h,hc | 7,h,hc | 8,h,hc | 9,h,hc | 10,h,hc=>exact absurd hc (by omega)
end Go.Vw
namespace Go.Vw
open Go.Proofs Go.RowKit Wm
attribute [-simp] List.map_set
theorem aod (ro:Nat) (b:List Nat) (S:Store) (E:EP) (hi:MI ro 0 (m0 b) S) (hE : ∀ e,Kd b = .error e -> ∀ T,Kept S [ro] T->E (jY 46 e) T) :
  VCallsX Tryz.prog 10 [.ptr ro 0] S (fun r T => ∃ m fo,Kd b = .ok m/\MI ro fo m T/\Kept S [ro] T/\(m.fs.isSome=true->S.nx<=fo)/\r = .tuple []) E:=by
 refine jc (c:=jf Tryz.f10) Tryz.func10 rfl rfl (by simp [Tryz.ntmps10]) ?_;rw [Tryz.ntmps10];intro hwf;have hl:=jx hwf hi.get;have hg := @old1 S ro hl;have hu := @oldU S ro hl;have h2:=hi.ok.b;have h3:=hi.ok.x;simp only [m0] at h2 h3;rw [show St S [] []=St S [(ro,some (12,m0c b 0))] [] from old0 hl hi.get];refine QS ?_;refine XQ E ?_;refine ja ?_;refine QS (c:=Code.snd (jf Tryz.f10)) ?_;refine QO [1] ?_;refine agk (s:=magS) (xt:=9) [1] (fun k σ T => ∃ a,a<=b.length/\k<=8/\YO magic 0 b 0=YO (magic.drop k) k b a/\σ=[(1, .ptr (lid S.nx 0) 0)]/\T=St S [(ro,some (12,m0c b a))] [some (1,[.ptr ro 0])])
  rfl rfl rfl rfl rfl rfl rfl rfl rfl rfl rfl (by decide) (by decide) Tryz.underlying9 (fun k hk=>(ahb k hk).2.2.2) rfl ⟨0,Nat.zero_le _,by decide,rfl,rfl,rfl⟩ ?_ ?_
 .rintro k σ T p ch hk ⟨a,ha,hk8,hm,rfl,rfl⟩;have hk':k<8:=hk;obtain ⟨hix,hwx,hdr,_⟩:=ahb k hk';rw [hdr] at hm;obtain ⟨x,hx⟩ : ∃ x,magic.getD k 0=x:=⟨_,rfl⟩
  rw [hx] at hix hwx hm
  conv at hix=>lhs; arg 1; reduce
  conv at hix=>lhs; arg 1; simp
  show VWp _ _ _ _ _ [(1, .ptr (lid S.nx 0) 0),(9, .raw p),(10, .tuple [.bool true,bI k, .int .i32 (ch:Int)]),(11, .bool true)] (St S [(ro,some (12,[vl vb b,bI a,vl je [],vl jp [], .nils,bH (-1),bH 0,vl jv [],vl jr [],bH (-1),vl jq [],bI 0]))] [some (1,[.ptr ro 0])]);refine bk ?_;refine QT ?_;refine XD E (ZR S ro b (vl je []) (vl jp []) .nils (bH (-1)) (bH 0) (vl jv []) (vl jr []) (bH (-1)) (vl jq []) [some (1,[.ptr ro 0])]) [] [0,2,3,4,1,5] [14] (ho:=Ka _ _ _ _ _ _ _ _ _ _ _ _ _) (hz:=zo (by simp [JR]) (by simp [jW,subO,jm]) (by simp)) (r:=by conv=>lhs;simp[QV,↓ju,ZR,Zs,zz,jl,ji,V.nj,V.nj1,V.bK,hg,hix,hwx]) (k:=?_);refine JO (hok:=⟨ha,h2,h3,Nat.zero_le _⟩) (b:=b) (a:=a) (ops:=0) rfl rfl (jao ro) hl (by simp [JR]) (by simp [jW,subO,jm]) (by simp) ?_ ?_
  .intro e he T hk;refine hE e ?_ T hk;simp only [Kd,hm,YO,he]
  intro c a1 hc ha1;by_cases hcx:c=x
  .have d1:(c:Int)=(x:Int):=by omega
   refine ZM (r:=by conv=>lhs;simp[QV,↓ju,ZR,Zs,zz,jl,ji,V.nj,V.nj1,V.bK,d1]) (k:=?_);refine jy ?_;refine bk ?_;exact ⟨rfl,_,_,Reach.refl _ _,a1,ha1,by omega,by rw [hm]; simp only [YO,hc,if_pos hcx],rfl,rfl⟩
  .have d1 : ¬ (c:Int)=(x:Int):=by omega
   refine ZM (r:=by conv=>lhs;simp[QV,↓ju,ZR,Zs,zz,jl,ji,V.nj,V.nj1,V.bK,d1]) (k:=?_);refine jy ?_;refine bk ?_;refine XQ E ?_;refine jb rfl (qI _ _ _ E (fun T hk=>hE (5,(k:Int),0) (by simp only [Kd,hm,YO,hc,if_neg hcx]) T (hk.up ?_ ?_))) ?_
   .simp
   .simp
   .rintro _ _ h; exact h.elim
 .rintro σ T p ⟨a,ha,_,hm,rfl,rfl⟩;have hm0:YO magic 0 b 0 = .ok ((),a):=by rw [hm]; rfl
  clear hm;show VWp _ _ _ _ _ [(1, .ptr (lid S.nx 0) 0),(9, .raw p),(10, .tuple [.bool false]),(11, .bool false)] (St S [(ro,some (12,[vl vb b,bI a,vl je [],vl jp [], .nils,bH (-1),bH 0,vl jv [],vl jr [],bH (-1),vl jq [],bI 0]))] [some (1,[.ptr ro 0])]);refine QO [1] ?_;refine QY ?_ (r:=by conv=>lhs;simp[QV,hg,zi,zB,qt]);refine bk ?_;obtain ⟨bx,hbx0⟩ : ∃ bx,lid S.nx 0=bx:=⟨_,rfl⟩
  obtain ⟨mp,hmp0⟩ : ∃ mp,lid S.nx 1=mp:=⟨_,rfl⟩
  have hmr:Kd b=match KD (b.length+1) 0 false { m0 b with a:=a } with
    | .error e => .error e
    | .ok (coded,m)=>if coded=false/\0<(m.fs.getD []).length then .error (6,(m.a:Int),0) else .ok m:=by simp only [Kd,hm0]; rfl
  have hgm : ∀ c c',(St S [(ro,some c)] [some (1,[.ptr ro 0]),some c']).get mp=some c':=fun c c'=>by rw [<-hmp0]; simp
  have hgb : ∀ c c',(St S [(ro,some c)] [some (1,[.ptr ro 0]),some c']).get bx=some (1,[.ptr ro 0]):=fun c c'=>by rw [<-hbx0]; simp
  have nbr:bx≠ro:=by rw [<-hbx0]; simp [lid]; omega
  have nmr:mp≠ro:=by rw [<-hmp0]; simp [lid]; omega
  have nSb:S.nx<=bx/\bx<S.nx+2:=by rw [<-hbx0]; simp [lid]
  have nSm:S.nx<=mp/\mp<S.nx+2:=by rw [<-hmp0]; simp [lid]
  rw [hbx0,hmp0];refine bB [1,3,4,5] (fun c σ' T => ∃ (k last:Nat) (coded:Bool) (m:MS) (fo:Nat),c=b.length-m.a/\b.length-m.a<k/\m.b=b/\KD (b.length+1) 0 false { m0 b with a:=a }=KD k last coded m/\MI ro fo m T/\CC coded fo m.fs T/\(coded=true->10<=last)/\T.get bx=some (1,[.ptr ro 0])/\T.get mp=some (0,jaB ro bx)/\Kept S [ro] T/\S.nx+2<=T.nx/\(m.fs.isSome=true->S.nx+2<=fo)/\last<=255/\σ'=[(1, .ptr bx 0),(3, .map mp),(4,bI last),(5, .bool coded)]) (b.length-a) ?_ ?_
  .refine ⟨b.length+1,0,false,{ m0 b with a:=a },0,rfl,by simp only; omega,rfl,rfl,⟨⟨ha,hi.ok.b,hi.ok.x,hi.ok.o,hi.ok.ty,hi.ok.im,hi.ok.fs⟩,hg _ _,fun l hl=>by cases hl⟩,fun l hl=>(by cases hl),fun h=>(by cases h),hgb _ _,hgm _ _,jN (by simp),by rw [jH]; simp [lid],fun h=>(by cases h),by omega,rfl⟩
  .rintro c σ' T ⟨k,last,coded,m,fo,rfl,hk,hmb,hpl,hmi,hncc,hcd,hbx,hmp,hkp,hnT,hfo,hl255,rfl⟩;refine jD fun hwT => ?_;have hrT:=jx hwT hmi.get;have gT := @old1 T ro hrT;have uT := @oldU T ro hrT;have gb : ∀ c l,(St T [(ro,some c)] l).get bx=some (1,[.ptr ro 0]):=jbt hwT nbr hbx;have gm : ∀ c l,(St T [(ro,some c)] l).get mp=some (0,jaB ro bx):=jbt hwT nmr hmp;have hT:T=St T [(ro,some (12,rc (msR fo m)))] []:=(jh hwT).symm.trans (old0 hrT hmi.get);rw [hT];have ⟨p1,p2,p3,p4,p5,p6,p7⟩:=hmi.ok;have hput:=fun (mx:MS)=>hmi.put (m':=mx) hwT;obtain ⟨mb,ma,ty,im,fs,pg,mo,gl,ex,st,da,ops⟩:=m;simp only at hmb p1 p2 p3 p4 p5 p6 p7;subst hmb;have p4':ops<=1000:=by omega
   show VWp _ _ _ _ _ _ (St T [(ro,some (12,[vl vb mb,bI ma,vl je ty,vl jp im,fuV fo fs,bH pg,bH mo,vl jv gl,vl jr ex,bH st,vl jq da,bI ops]))] []);obtain ⟨k',rfl⟩ : ∃ k',k=k'+1:=⟨k-1,by omega⟩
   by_cases hab:ma<mb.length
   .have d1:(ma:Int)<(mb.length:Int):=by omega
    refine bq gb gT d1 hab ?_;refine XQ E ?_ (r:=by conv=>lhs;simp[QV,gb]);refine jL (hok:=⟨p1,p2,p3,p4'⟩) rfl (jao ro) hrT ?_ ?_
    .intro e he T' hk;exact hE e (by rw [hmr,hpl]; simp only [KD,if_pos hab,he]) T' (hkp.trans hk)
    intro id a1 hid ha1;refine XN ?_;refine ja ?_;have hb1:a1=ma+1/\id<256:=by
     simp only [byte1,if_neg (Nat.ne_of_lt hab),Except.ok.injEq,Prod.mk.injEq] at hid;refine ⟨hid.2.symm, ?_⟩;rw [<-hid.1,af,aa hab];exact p3 _ (ah hab)
    have hlk:=fun c=>atm (gm c []) id;obtain ⟨fv,hfv⟩ : ∃ fv,secF ro bx id=fv:=⟨_,rfl⟩
    rw [hfv] at hlk;have w1:IntKind.i64.wrap ((a1:Int)-1)=(a1:Int)-1:=wrap_i64 (by omega) (by omega);have hstep:KD (k'+1) last coded ⟨mb,ma,ty,im,fs,pg,mo,gl,ex,st,da,ops⟩=if id=4\/id=9 then .error (11,(a1:Int)-1,0)
      else match secP id with
       | none => .error (6,(a1:Int)-1,0)
       | some p=>if id≠0/\id<=last then .error (6,(a1:Int)-1,0)
        else match zU p ⟨mb,a1,ty,im,fs,pg,mo,gl,ex,st,da,ops⟩ with
         | .error e => .error e
         | .ok m'=>KD k' (max last id) (coded||decide (id=10)) m':=by
     show (if ma<mb.length then _ else _)=_;rw [if_pos hab];simp only [hid]
     rfl
    rw [hstep] at hpl;by_cases c4:id=4\/id=9
    .rw [if_pos c4] at hpl;rw [hpl] at hmr;rcases c4 with c4 | c4
     .have e4:=eq_true (show (id:Int)=4 by omega);refine bq gb gT hlk e4 ?_;refine XQ E ?_ (r:=by conv=>lhs;simp[QV,gb,gT,w1]);refine jb rfl (qI _ _ _ E (fun T' hk=>hE _ hmr T' (hkp.trans (hk.up ?_ ?_)))) ?_
      .simp
      .simp
      .rintro _ _ h; exact h.elim
     .have e4:=eq_false (show ¬ (id:Int)=4 by omega);have e9:=eq_true (show (id:Int)=9 by omega);refine bp gb gT hlk e4 e9 ?_;refine XQ E ?_ (r:=by conv=>lhs;simp[QV,gb,gT,w1]);refine jb rfl (qI _ _ _ E (fun T' hk=>hE _ hmr T' (hkp.trans (hk.up ?_ ?_)))) ?_
      .simp
      .simp
      .rintro _ _ h; exact h.elim
    rw [if_neg c4] at hpl;have e4:=eq_false (show ¬ (id:Int)=4 by omega);have e9:=eq_false (show ¬ (id:Int)=9 by omega);cases hp:secP id with
    | none =>
     rw [hp] at hpl hlk;simp only [Option.isSome_none] at hpl hlk;rw [hpl] at hmr;refine bp gb gT hlk e4 e9 ?_;refine XQ E ?_ (r:=by conv=>lhs;simp[QV,gb,gT,w1]);refine jb rfl (qI _ _ _ E (fun T' hk=>hE _ hmr T' (hkp.trans (hk.up ?_ ?_)))) ?_
     .simp
     .simp
     .rintro _ _ h; exact h.elim
    | some p =>
     rw [hp] at hpl hlk;simp only [Option.isSome_some] at hpl hlk;by_cases c0:id≠0/\id<=last
     .rw [if_pos c0] at hpl;rw [hpl] at hmr;have e0:=c0.1;have e0' : ¬ (id:Int)=0:=by omega
      have el:=c0.2;have el':(id:Int)<=(last:Int):=by omega
      repeat first|refine QG ?_|refine QY ?_ (r:=by conv=>lhs;simp[QV,gb,gT,hlk,e4,e9,e0,e0',el,el'])
      refine XQ E ?_ (r:=by conv=>lhs;simp[QV,gb,gT,w1]);refine jb rfl (qI _ _ _ E (fun T' hk=>hE _ hmr T' (hkp.trans (hk.up ?_ ?_)))) ?_
      .simp
      .simp
      .rintro _ _ h; exact h.elim
     .rw [if_neg c0] at hpl;obtain ⟨nl',hnl⟩ : ∃ nl',max last id=nl':=⟨_,rfl⟩
      have hmx:Ye (.int .i64 (last:Int)) [.int .i64 (id:Int)]=some (.int .i64 (nl':Int)):=by
       simp only [Ye,if_true];rw [<-hnl]
       congr 2
       split<;>omega
      obtain ⟨nc,hnc⟩ : ∃ nc,(coded||decide (id=10))=nc:=⟨_,rfl⟩
      rw [hnl,hnc] at hpl;have c0':id=0\/last<id:=by
       by_cases h0:id=0
       .exact .inl h0
       .exact .inr (by have:=fun h=>c0 ⟨h0,h⟩; omega)
      have hcoded:coded=true->id=0\/11<=id:=fun h=>by have:=hcd h; omega
      have hfsne:fs.isSome=true->fo≠ro:=fun hs=>by
       cases hfs:fs with
       | none=>simp [hfs] at hs
       | some l=>exact (hmi.fu l hfs).1
      have hok1:MS.ok ⟨mb,a1,ty,im,fs,pg,mo,gl,ex,st,da,ops⟩:=⟨ha1,p2,p3,p4,p5,p6,p7⟩
      have hsec:=anc ro bx id p hp coded hcoded;rw [hnc,hfv] at hsec;have hcall:=ae3 (CC coded) (CC nc) ro (CC.stable _ _) (CC.stable _ _) fv _ p hsec fo ⟨mb,a1,ty,im,fs,pg,mo,gl,ex,st,da,ops⟩ _ E (CC.stable coded ro fo fs T (12,rc (msR fo ⟨mb,a1,ty,im,fs,pg,mo,gl,ex,st,da,ops⟩)) hwT hfsne hncc) (hput _ hok1 rfl)
       ⟨fun q hq=>by simp only [aM] at hq; subst hq; exact gb _ _,fun q hq=>by simp only [aM] at hq; subst hq; exact ⟨nbr,fun hs=>by have:=hfo hs; show bx≠fo; omega⟩⟩
       (fun e he T' hk=>hE e (by rw [hmr,hpl,he]) T' (abg (hkp.trans (jN (by simp))) hk fun hs=>by have:=hfo hs; omega))
      have five:(id=0/\coded=true/\nc=true)\/(id=0/\coded=false/\nc=false)\/(id≠0/\last<id/\coded=true/\nc=true)\/(id≠0/\last<id/\coded=false/\id=10/\nc=true)\/(id≠0/\last<id/\coded=false/\id≠10/\nc=false):=by
       by_cases h0:id=0
       .subst h0;cases coded
        .exact .inr (.inl ⟨rfl,rfl,by simpa using hnc.symm⟩)
        .exact .inl ⟨rfl,rfl,by simpa using hnc.symm⟩
       .have h1:last<id:=by omega
        cases coded
        .by_cases h10:id=10
         .exact .inr (.inr (.inr (.inl ⟨h0,h1,rfl,h10,by simpa [h10] using hnc.symm⟩)))
         .exact .inr (.inr (.inr (.inr ⟨h0,h1,rfl,h10,by simpa [h10] using hnc.symm⟩)))
        .exact .inr (.inr (.inl ⟨h0,h1,rfl,by simpa using hnc.symm⟩))
      have hfin : ∀ T' m' fo',MP ro fo ⟨mb,a1,ty,im,fs,pg,mo,gl,ex,st,da,ops⟩ (St T [(ro,some (12,rc (msR fo ⟨mb,a1,ty,im,fs,pg,mo,gl,ex,st,da,ops⟩)))] []) (zU p) m' fo' T'->mb.length-m'.a<mb.length-ma/\mb.length-m'.a<k'/\m'.b=mb/\KD (mb.length+1) 0 false { m0 mb with a:=a }=KD k' nl' nc m'/\(nc=true->10<=nl')/\T'.get bx=some (1,[.ptr ro 0])/\T'.get mp=some (0,jaB ro bx)/\Kept S [ro] T'/\S.nx+2<=T'.nx/\(m'.fs.isSome=true->S.nx+2<=fo')/\nl'<=255:=by
       intro T' m' fo' hq;have hle:a1<=m'.a:=aj0 (fun m m1 h=>avi hp h) ha1 hq.eq;have hk2:mb.length-ma<k'+1:=hk;have hla:m'.a<=m'.b.length:=hq.mi.ok.a;rw [hq.bb] at hla;have hnx:T.nx<=T'.nx:=by have:=hq.kept.1; rw [jH] at this; simpa [lid] using this
       have nbfo:fs.isSome=true->bx≠fo:=fun hs=>by have:=hfo hs; omega
       have nmfo:fs.isSome=true->mp≠fo:=fun hs=>by have:=hfo hs; omega
       refine ⟨by omega,by omega,hq.bb,by rw [hpl,hq.eq],fun h => ?_, ?_, ?_,abg (hkp.trans (jN (by simp))) hq.kept fun hs=>(by have:=hfo hs; omega),by omega,fun hs => ?_,by omega⟩
       .rw [<-hnc] at h;cases coded with
        | true=>have:=hcd rfl; omega
        | false=>simp at h; omega
       .rw [hq.kept.2 bx (by rw [jH]; simp only [lid,aF]; exact jx hwT hbx) (agw nbr nbfo)];exact gb _ _
       .rw [hq.kept.2 mp (by rw [jH]; simp only [lid,aF]; exact jx hwT hmp) (agw nmr nmfo)];exact gm _ _
       .rcases hq.own hs with ⟨h1,h2⟩ | h1
        .rw [h2]; exact hfo h1
        .rw [jH] at h1; simp only [lid,aF] at h1; omega
      have tt:True=True:=rfl;rcases five with ⟨i1,i2,i3⟩ | ⟨i1,i2,i3⟩ | ⟨i1,i4,i2,i3⟩ | ⟨i1,i4,i2,i5,i3⟩ | ⟨i1,i4,i2,i5,i3⟩
      .obtain ⟨f0,f0',fl,fl',f10⟩:(((id:Int)=0)=True)/\((id=0)=True)/\(((id:Int)<=(last:Int))=True)/\((id<=last)=True)/\(((id:Int)=10)=False):=⟨eq_true (by omega),eq_true (by omega),eq_true (by omega),eq_true (by omega),eq_false (by omega)⟩
       subst i2;subst i3
       repeat first|refine QG ?_|refine QY ?_ (r:=by conv=>lhs;simp[QV,gb,gT,hlk,e4,e9,f0,f0',fl,fl',f10,hmx])
       refine XQ E ?_ (r:=by conv=>lhs;simp[QV,gb,gT]);refine jb rfl hcall ?_;rintro _ T' ⟨m',fo',hmp',hcc',rfl⟩;obtain ⟨q1,q2,q3,q4,q5,q6,q7,q8,q9,q10,q11⟩:=hfin T' m' fo' hmp';refine ja ?_;show zI _ _ _ _ _ _ _;exact again ⟨q1,k',nl',_,m',fo',rfl,q2,q3,q4,hmp'.mi,hcc',q5,q6,q7,q8,q9,q10,q11,by simp [Fr.oy]⟩
      .obtain ⟨f0,f0',fl,fl',f10⟩:(((id:Int)=0)=True)/\((id=0)=True)/\(((id:Int)<=(last:Int))=True)/\((id<=last)=True)/\(((id:Int)=10)=False):=⟨eq_true (by omega),eq_true (by omega),eq_true (by omega),eq_true (by omega),eq_false (by omega)⟩
       subst i2;subst i3
       repeat first|refine QG ?_|refine QY ?_ (r:=by conv=>lhs;simp[QV,gb,gT,hlk,e4,e9,f0,f0',fl,fl',f10,hmx])
       refine XQ E ?_ (r:=by conv=>lhs;simp[QV,gb,gT]);refine jb rfl hcall ?_;rintro _ T' ⟨m',fo',hmp',hcc',rfl⟩;obtain ⟨q1,q2,q3,q4,q5,q6,q7,q8,q9,q10,q11⟩:=hfin T' m' fo' hmp';refine ja ?_;show zI _ _ _ _ _ _ _;exact again ⟨q1,k',nl',_,m',fo',rfl,q2,q3,q4,hmp'.mi,hcc',q5,q6,q7,q8,q9,q10,q11,by simp [Fr.oy]⟩
      .have hl10:=hcd i2;obtain ⟨f0,f0',fl,fl',f10⟩:(((id:Int)=0)=False)/\((id=0)=False)/\(((id:Int)<=(last:Int))=False)/\((id<=last)=False)/\(((id:Int)=10)=False):=⟨eq_false (by omega),eq_false (by omega),eq_false (by omega),eq_false (by omega),eq_false (by omega)⟩
       subst i2;subst i3
       repeat first|refine QG ?_|refine QY ?_ (r:=by conv=>lhs;simp[QV,gb,gT,hlk,e4,e9,f0,f0',fl,fl',f10,hmx])
       refine XQ E ?_ (r:=by conv=>lhs;simp[QV,gb,gT]);refine jb rfl hcall ?_;rintro _ T' ⟨m',fo',hmp',hcc',rfl⟩;obtain ⟨q1,q2,q3,q4,q5,q6,q7,q8,q9,q10,q11⟩:=hfin T' m' fo' hmp';refine ja ?_;show zI _ _ _ _ _ _ _;exact again ⟨q1,k',nl',_,m',fo',rfl,q2,q3,q4,hmp'.mi,hcc',q5,q6,q7,q8,q9,q10,q11,by simp [Fr.oy]⟩
      .obtain ⟨f0,f0',fl,fl',f10⟩:(((id:Int)=0)=False)/\((id=0)=False)/\(((id:Int)<=(last:Int))=False)/\((id<=last)=False)/\(((id:Int)=10)=True):=⟨eq_false (by omega),eq_false (by omega),eq_false (by omega),eq_false (by omega),eq_true (by omega)⟩
       subst i2;subst i3
       repeat first|refine QG ?_|refine QY ?_ (r:=by conv=>lhs;simp[QV,gb,gT,hlk,e4,e9,f0,f0',fl,fl',f10,hmx])
       refine XQ E ?_ (r:=by conv=>lhs;simp[QV,gb,gT]);refine jb rfl hcall ?_;rintro _ T' ⟨m',fo',hmp',hcc',rfl⟩;obtain ⟨q1,q2,q3,q4,q5,q6,q7,q8,q9,q10,q11⟩:=hfin T' m' fo' hmp';refine ja ?_;show zI _ _ _ _ _ _ _;exact again ⟨q1,k',nl',_,m',fo',rfl,q2,q3,q4,hmp'.mi,hcc',q5,q6,q7,q8,q9,q10,q11,by simp [Fr.oy]⟩
      .obtain ⟨f0,f0',fl,fl',f10⟩:(((id:Int)=0)=False)/\((id=0)=False)/\(((id:Int)<=(last:Int))=False)/\((id<=last)=False)/\(((id:Int)=10)=False):=⟨eq_false (by omega),eq_false (by omega),eq_false (by omega),eq_false (by omega),eq_false (by omega)⟩
       subst i2;subst i3
       repeat first|refine QG ?_|refine QY ?_ (r:=by conv=>lhs;simp[QV,gb,gT,hlk,e4,e9,f0,f0',fl,fl',f10,hmx])
       refine XQ E ?_ (r:=by conv=>lhs;simp[QV,gb,gT]);refine jb rfl hcall ?_;rintro _ T' ⟨m',fo',hmp',hcc',rfl⟩;obtain ⟨q1,q2,q3,q4,q5,q6,q7,q8,q9,q10,q11⟩:=hfin T' m' fo' hmp';refine ja ?_;show zI _ _ _ _ _ _ _;exact again ⟨q1,k',nl',_,m',fo',rfl,q2,q3,q4,hmp'.mi,hcc',q5,q6,q7,q8,q9,q10,q11,by simp [Fr.oy]⟩
   .have d1 : ¬ (ma:Int)<(mb.length:Int):=by omega
    refine bq gb gT d1 hab ?_;have hself:=hput ⟨mb,ma,ty,im,fs,pg,mo,gl,ex,st,da,ops⟩ hmi.ok rfl;have hkS : ∀ c,Kept S [ro] (St T [(ro,some c)] []):=fun c=>hkp.trans (jN (by simp));rw [hpl] at hmr;simp only [KD,if_neg hab] at hmr;cases coded with
    | true =>
     refine bm gb gT ?_;exact jn ⟨_,fo,by rw [hmr,if_neg (by simp)],hself,hkS _,fun hs=>aU (Nat.le_add_right _ 2) (hfo hs),rfl⟩
    | false =>
     have hfl : ∀ c,Yf (St T [(ro,some c)] []) (fuV fo fs)=some (.int .i64 ((fs.getD []).length:Int)):=fun c=>by
      cases hfs:fs with
      | none=>rfl
      | some l =>
       obtain ⟨q1,cs,q2,_⟩:=hmi.fu l hfs;simp only [fuV,Yf];rw [jk (jx hwT q2)];simp only [uGet,if_neg q1];rw [q2]
       rfl
     by_cases hz:0<(fs.getD []).length
     .have d2:((fs.getD []).length:Int) > 0:=by omega
      rw [if_pos ⟨rfl,hz⟩] at hmr;refine bp gb gT hfl d2 hz ?_;refine XQ E ?_ (r:=by conv=>lhs;simp[QV,gb,gT]);refine jb rfl (qI _ _ _ E (fun T' hk=>hE _ hmr T' (hkp.trans (hk.up ?_ ?_)))) ?_
      .simp
      .simp
      .rintro _ _ h; exact h.elim
     .have d2 : ¬ ((fs.getD []).length:Int) > 0:=by omega
      rw [if_neg (fun h=>hz h.2)] at hmr;refine bp gb gT hfl d2 hz ?_;exact jn ⟨_,fo,hmr,hself,hkS _,fun hs=>aU (Nat.le_add_right _ 2) (hfo hs),rfl⟩
theorem jed {w:World} {o:Oper} {y:Operand} {ρ:Operand->Value} (ho:o.op = .typeAssert y 20 46 true) (hy:ρ y = .nilIface):(execOp ρ o).run Tryz.prog w = .ok (.value (.tuple #[.agg #[.int .i64 0, .int .i64 0, .int .i64 0], .bool false])) w:=by
 simp [execOp,ho,hy,Instr.typeAssert,run_underlying Tryz.underlying46,Result.andThen]
theorem jfx {w:World} {o:Oper} {y:Operand} {ρ:Operand->Value} {v:Value} (ho:o.op = .typeAssert y 20 46 true) (hy:ρ y = .iface 46 v):(execOp ρ o).run Tryz.prog w = .ok (.value (.tuple #[v, .bool true])) w:=by
 simp [execOp,ho,hy,Instr.typeAssert,run_underlying Tryz.underlying46,Result.andThen]
theorem Zt {P:Program} {w:World} {o:Oper} {y:Operand} {ρ:Operand->Value} {t:TypeId} {ms:Array (String × TypeId)} {b:Bool} (hu:P.underlying t=some (.interface ms)) (ho:o.op = .binOp .neq t y (.const .nilIface) t) (hρ:ρ (.const .nilIface) = .nilIface) (hy:(ρ y = .nilIface/\b=false)\/(∃ t v,ρ y = .iface t v)/\b=true):(execOp ρ o).run P w = .ok (.value (.bool b)) w:=by
 have hd:Op.maxDepth=9999+1:=rfl;rcases hy with ⟨hy,rfl⟩ | ⟨⟨t,v,hy⟩,rfl⟩
 .simp [execOp,ho,hy,hρ,eqGuard,binOp,Op.equal,hd];unfold Op.equalIn;simp [run_underlying hu,Result.andThen]
 .simp [execOp,ho,hy,hρ,eqGuard,binOp,Op.equal,hd];unfold Op.equalIn;simp [run_underlying hu,Result.andThen]
def stopV (t:TypeId) (e:Flt):Value := .iface t (.agg #[.int .i64 e.1, .int .i64 e.2.1, .int .i64 e.2.2])
def assV:Option Flt->V
 | none => .tuple [.agg [.int .i64 0, .int .i64 0, .int .i64 0], .bool false]
 | some e => .tuple [.agg [.int .i64 e.1, .int .i64 e.2.1, .int .i64 e.2.2], .bool true]
def WA (t:TypeId):Option Flt->Value
 | none => .nilIface
 | some e=>stopV t e
theorem jcB (m:Imm) (β:Objs) (a b c:Int):Rep m β (.agg [.int .i64 a, .int .i64 b, .int .i64 c]) (.agg #[.int .i64 a, .int .i64 b, .int .i64 c]) :=
 Rep.agg [.int .i64 a, .int .i64 b, .int .i64 c] [.int .i64 a, .int .i64 b, .int .i64 c] rfl (fun i x v h1 h2=>by
  match i,h1,h2 with
  | 0,h1,h2=>cases h1; cases h2; exact .imm (.int _ _)
  | 1,h1,h2=>cases h1; cases h2; exact .imm (.int _ _)
  | 2,h1,h2=>cases h1; cases h2; exact .imm (.int _ _)) (by simp [Value.oneCell'])
theorem jcA {m:Imm} {β:Objs} {x:V} {v:Value} (b:Bool) (h:Rep m β x v):Rep m β (.tuple [x, .bool b]) (.tuple #[v, .bool b]) :=
 Rep.tuple [x, .bool b] [v, .bool b] rfl fun i x v h1 h2=>by
  match i,h1,h2 with
  | 0,h1,h2=>cases h1; cases h2; exact h
  | 1,h1,h2=>cases h1; cases h2; exact .imm (.bool _)
theorem ahx {w:World} {o:Oper} {y:Operand} {ρ:Operand->Value} (ho:o.op = .typeAssert y 20 46 true) (e:Option Flt) (hy:ρ y=WA 46 e) (m:Imm) (β:Objs) : ∃ v,(execOp ρ o).run Tryz.prog w = .ok (.value v) w/\Rep m β (assV e) v:=by
 cases e with
 | none=>exact ⟨_,jed ho hy,jcA _ (jcB _ _ _ _ _)⟩
 | some e=>exact ⟨_,jfx ho hy,jcA _ (jcB _ _ _ _ _)⟩
def decK (mo fo:Nat) (S:Store):Option Flt->Store->Prop
 | none,T => ∃ l,T=St S [] l
 | some e,T => ∃ l,T=St S [(mo,some (9,[.nils, .nils, .nils, .int .i64 0, .int .i64 0, .nils, .nils, .int .i64 0, .nils])),(fo,some (3,[.int .i64 e.1, .int .i64 e.2.1, .int .i64 e.2.2]))] l
theorem alw (mo fo:Nat) (S:Store) (c0 c1 c2 c3 c4 c5 c6 c7 c8 d0 d1 d2:V) (u u':FrameMode) (e:Option Flt) (hm:S.get mo=some (9,[c0,c1,c2,c3,c4,c5,c6,c7,c8])) (hf:S.get fo=some (3,[d0,d1,d2])) (hne:fo≠mo) (hu:Recov u (WA 46 e) u'):jgi Tryz.prog 9 [.ptr mo 0, .ptr fo 0] u u' S (decK mo fo S e):=by
 refine ahd (c:=jf Tryz.f9) Tryz.func9 rfl rfl (by simp [Tryz.ntmps9]) rfl rfl rfl rfl rfl rfl rfl rfl (by simp [Tryz.ntmps9]) hu ?_;rw [Tryz.ntmps9];intro hwf;refine aam hwf ?_;refine QS (c:=Code.snd (jf Tryz.f9)) ?_;refine KR (x:=assV e) (fun _ _=>False) (fun _ _ _ h=>h.elim) rfl rfl (l1:=[_]) rfl (by conv=>lhs; reduce) rfl rfl (fun t h=>by cases h; decide) (by conv=>lhs; simp) (fun m β w a _ hF=>ahx rfl e ?_ m β) ?_
 .exact (show Rep m β (.raw (WA 46 e)) (a.tmps.getD 7 undef) from hF.rep 7).inv_raw
 have hl:=jx hwf hm;have hlf:=jx hwf hf;cases e with
 | none =>
  simp only [assV];refine XN ?_;refine ja ?_;refine QS ?_;refine QS ?_;refine KR (x := .bool false) (fun _ _=>False) (fun _ _ _ h=>h.elim) rfl rfl (l1:=[_]) rfl (by conv=>lhs; reduce) rfl rfl (fun t h=>by cases h; decide) (by conv=>lhs; simp) ?_ ?_
  .intro m β w a _ hF;exact ⟨_,Zt Tryz.underlying20 rfl rfl (.inl ⟨(show Rep m β (.raw .nilIface) (a.tmps.getD 11 undef) from hF.rep 11).inv_raw,rfl⟩), .imm (.bool _)⟩
  refine XN ?_;refine ja ?_;refine bk ?_;exact ⟨_,rfl⟩
 | some e =>
  obtain ⟨e1,e2,e3⟩:=e;simp only [assV];have g1 := @JN S mo fo hl;have g2 := @Kh S mo fo hlf hne;have u1 := @Ww S mo fo hl;have u2 := @jav S mo fo hlf hne;rw [jfo hl hlf hm hf];refine XN ?_;refine ja ?_;refine QS ?_;refine QS ?_;refine KR (x := .bool true) (fun _ _=>False) (fun _ _ _ h=>h.elim) rfl rfl (l1:=[_]) rfl (by conv=>lhs; reduce) rfl rfl (fun t h=>by cases h; decide) (by conv=>lhs; simp) ?_ ?_
  .intro m β w a _ hF;exact ⟨_,Zt Tryz.underlying20 rfl rfl (.inr ⟨⟨_,_,(show Rep m β (.raw (WA 46 (some (e1,e2,e3)))) (a.tmps.getD 11 undef) from hF.rep 11).inv_raw⟩,rfl⟩), .imm (.bool _)⟩
  refine XN ?_;refine ja ?_;refine bk ?_;have hz : ∀ (x0 x1 x2 x3 x4 x5 x6 x7 x8 y0 y1 y2:V),(Zs S [mo,fo] [(mo,some (9,[.junk, .junk, .junk, .junk, .junk, .junk, .junk, .junk, .junk])),(fo,some (3,[.junk, .junk, .junk]))] [some (3,[.int .i64 e1, .int .i64 e2, .int .i64 e3])]).ok (St S [(mo,some (9,[x0,x1,x2,x3,x4,x5,x6,x7,x8])),(fo,some (3,[y0,y1,y2]))] [some (3,[.int .i64 e1, .int .i64 e2, .int .i64 e3])]):=fun _ _ _ _ _ _ _ _ _ _ _ _=>YI (by simp [WG,subO,jm]) (by simp [jW,subO,jm]) (by simp) (by simp);refine QT ?_;refine XD (fun _ _=>False) (Zs S [mo,fo] [(mo,some (9,[.junk, .junk, .junk, .junk, .junk, .junk, .junk, .junk, .junk])),(fo,some (3,[.junk, .junk, .junk]))] [some (3,[.int .i64 e1, .int .i64 e2, .int .i64 e3])]) [] [0,1,2,3,4] [] (ho:=KF _ _ _ _) (hz:=hz _ _ _ _ _ _ _ _ _ _ _ _) (r:=by conv=>lhs;simp[QV,↓ju,ZR,Zs,zz,jl,ji,V.nj,V.nj1,V.bK,g1,g2]) (k:=?_);refine jo rfl (by conv=>lhs; simp [g1,u1]) ?_ ?_
  .exact hz _ _ _ _ _ _ _ _ _ _ _ _
  refine ZM (r:=by conv=>lhs;simp[QV,↓ju,ZR,Zs,zz,jl,ji,V.nj,V.nj1,V.bK]) (k:=?_);refine jo rfl (by conv=>lhs; simp [g2,u2]) ?_ ?_
  .exact hz _ _ _ _ _ _ _ _ _ _ _ _
  refine ZM (r:=by conv=>lhs;simp[QV,↓ju,ZR,Zs,zz,jl,ji,V.nj,V.nj1,V.bK]) (k:=?_);refine jy ?_;exact ⟨_,rfl⟩
end Go.Vw
