import Derived.Test.YtenhhokhkkfgbaaGreatC21
/- Part of the proof. -/
set_option linter.unusedVariables false
set_option linter.unusedSimpArgs false
set_option maxRecDepth 10000
set_option maxHeartbeats 4000000
namespace Ss
structure Def where
 made:Bool
 block:Int
 pos:Int
deriving DecidableEq,Inhabited
def askOk (ts:List Int) (ds:List Def) (near:List Int) (block pos v t:Int):Bool :=
 decide (0<=v)&&decide (v<ds.length)&&decide (ts.getD v.toNat 0=t)&&(ds.getD v.toNat default).made &&
  (if (ds.getD v.toNat default).block=block then decide ((ds.getD v.toNat default).pos<pos) else Go.Vw.G.dominates near (ds.getD v.toNat default).block block)
def asks (ts:List Int) (ds:List Def) (near:List Int) (block pos:Int) (l types:List Int):Bool:=Go.Vw.eqF (askOk ts ds near block pos) l types
def typesOf (ts:List Int) (l:List Int):List Int:=l.map fun v=>ts.getD v.toNat 0
def InTs (n:Nat) (l:List Int):Prop := ∀ v∈l,0<=v/\v<n
end Ss
namespace Go.Vw
open Go.Proofs Go.RowKit
attribute [-simp] List.map_set
def qM (d:Ss.Def):V := .agg [.bool d.made,vint d.block,vint d.pos]
theorem encDef_eq (d:Ss.Def):qM d = .agg [.bool d.made,vint d.block,vint d.pos]:=nr rfl
theorem encDef_nc (d:Ss.Def):(qM d).ncells=3:=nr rfl
theorem encDef_cells (d:Ss.Def):(qM d).cells=[.bool d.made,vint d.block,vint d.pos]:=nr rfl
theorem zH (d:Ss.Def):(qM d).closed=true:=rfl
attribute [simp] encDef_eq encDef_nc
def ckC (e:Ss.Env) (f:Ss.Fn) (ds near:V):List V:=[vl jm e.sigs,vint e.imports,vl vint e.globals,vl V.bool e.muts, .bool e.mem,vl vint f.sig.inn,vl vint f.sig.out,vl vint f.types,vl je f.blocks,ds,near]
theorem ckC_eq (e:Ss.Env) (f:Ss.Fn) (ds near:V):ckC e f ds near=[vl jm e.sigs,vint e.imports,vl vint e.globals,vl V.bool e.muts, .bool e.mem,vl vint f.sig.inn,vl vint f.sig.out,vl vint f.types,vl je f.blocks,ds,near]:=nr rfl
attribute [simp] ckC_eq
abbrev ckV (e:Ss.Env) (f:Ss.Fn) (ds:List Ss.Def) (near:List Int):V := .ref (.agg (ckC e f (vl qM ds) (vl vint near)))
theorem boxSt {B:Store} {u:Upds} {l:List (Option (Nat × List V))} {k s:Nat} {x:V} (hk:k<l.length) (hc:(l[k]?).join=some (s,[x])) (h1:x.closed1=true):Ghost (.ptr (lid B.nx k) 0) (St B u l) (.ref x) (St B u (l.set k none)):=by
 rw [<-jbY hk];exact Ghost.box (by rw [jv]; exact hc) h1
theorem types_v (e:Ss.Env) (f:Ss.Fn) (ds:List Ss.Def) (near:List Int) (l:List Int) (hl:l.length<=1048576) (hv:Ss.InTs f.types.length l):bS 104 [ckV e f ds near,vl vint l] (vl vint (Ss.typesOf f.types l)):=by
 intro S;obtain ⟨⟨fi,fo⟩,ts,bs⟩:=f;simp only at hv;generalize hg:(fun v:Int=>ts.getD v.toNat 0)=g;have hX:Ss.typesOf ts l=l.map g:=by rw [Ss.typesOf,hg]
 simp only;rw [hX];refine QB (c:=jc Tryz.f104) Tryz.func104 Tryz.ntmps104 fun hwf=>?_
 refine QY ?_;refine QY ?_;refine zx 5 1 rfl (by conv=>lhs; simp [Fr.set]) ?_
 refine bw ?_
 refine QT ?_;refine jd [0,5,8,9,10] rfl (fun c σ S' => ∃ (k:Nat) (out:List Int),k<=l.length/\c=l.length-k/\out=(l.take k).map g/\out.length=k/\σ=[(0,ckV e ⟨⟨fi,fo⟩,ts,bs⟩ ds near),(5, .slice (lid S.nx 0) 0 k),(8,vl vint l),(9,vnat l.length),(10,vnat k)]/\S'=St S [] [some (1,out.map vint)]) l.length ?_ ?_
 ·exact ⟨0,[],by omega,rfl,by simp,rfl,by simp [Fr.only],by simp⟩
 ·rintro c σ T ⟨k,out,hk,rfl,ho,hlen,rfl,rfl⟩
  by_cases hkt:k<l.length
  ·have hw:=jg hkt (by omega);obtain ⟨h0,h1⟩:=hv _ (ah hkt);obtain ⟨v,hx⟩ : ∃ v,l[k]=v:=⟨_,rfl⟩
   rw [hx] at h0 h1;obtain ⟨n,rfl⟩ : ∃ n:Nat,v=n:=⟨v.toNat,by omega⟩
   have hn:n<ts.length:=by omega
   have hgn:g (n:Int)=ts[n]:=by rw [<-hg]; simp [hn]
   have htk:l.take (k+1)=l.take k++[(n:Int)]:=by rw [List.take_add_one,ac hkt,hx]; rfl
   have hb:(k+1)*8<=140737488355328:=by omega
   have hb':k+1<=140737488355328:=by omega
   refine bz hkt hx hn hlen hb hb' ?_
   refine QA [2] (h:=⟨?_,k+1,out++[ts[n]],hkt,rfl,by rw [htk,List.map_append,ho]; simp [hgn],by simp [hlen],by simp [hw],by simp⟩);omega
  ·have hke:k=l.length:=by omega
   subst hke;rw [List.take_length] at ho
   refine bx hkt ?_
   rw [<-ho];exact jf hwf ((frz1 (by simp) (by rfl) (jq vint (fun _=>rfl) _) (by simpa using hlen)).toB _) rfl
theorem asks1_v (e:Ss.Env) (f:Ss.Fn) (ds:List Ss.Def) (near:List Int) (block pos v t:Int) (hds:ds.length=f.types.length) (htl:f.types.length<2^63) (hnl:near.length<2^63) :
  bS 129 ([vint v,vint t]++[.ref (ckV e f ds near), .ref (vint block), .ref (vint pos)]) (.bool (Ss.askOk f.types ds near block pos v t)):=by
 intro S;obtain ⟨⟨fi,fo⟩,ts,bs⟩:=f;simp only at hds htl ⊢
 by_cases h0:v<0
 ·have e:Ss.askOk ts ds near block pos v t=false:=by simp [Ss.askOk]; omega
  rw [e];refine QB (c:=jc Tryz.f129) Tryz.func129 Tryz.ntmps129 fun hwf=>?_
  refine bx h0 ?_
  exact ja hwf (by simp) rfl
 obtain ⟨n,rfl⟩ : ∃ n:Nat,v=n:=⟨v.toNat,by omega⟩
 by_cases h1:n<ds.length
 case neg =>
  have h1' : ¬ (n:Int)<(ds.length:Int):=by omega
  have h1'':(ds.length:Int)<=(n:Int):=by omega
  have e:Ss.askOk ts ds near block pos n t=false:=by simp [Ss.askOk]; omega
  rw [e];refine QB (c:=jc Tryz.f129) Tryz.func129 Tryz.ntmps129 fun hwf=>?_
  refine bD h0 h1 h1' h1'' ?_
  exact ja hwf (by simp) rfl
 have hnt:n<ts.length:=by omega
 have h1'' : ¬ (ds.length:Int)<=(n:Int):=by omega
 obtain ⟨tt,htt⟩ : ∃ x,ts[n]=x:=⟨_,rfl⟩
 obtain ⟨⟨dm,db,dp⟩,hd⟩ : ∃ x,ds[n]=x:=⟨_,rfl⟩
 have hX:Ss.askOk ts ds near block pos n t=(decide (tt=t)&&(dm&&(if db=block then decide (dp<pos) else G.dominates near db block))):=by
  simp [Ss.askOk,h1,hnt,htt,hd,Bool.and_assoc]
 rw [hX]
 by_cases h2:tt=t
 case neg =>
  refine QB (c:=jc Tryz.f129) Tryz.func129 Tryz.ntmps129 fun hwf=>?_
  refine bz h0 h1 h1'' hnt htt h2 ?_
  exact ja hwf (by simp [h2]) rfl
 cases dm with
 | false =>
  refine QB (c:=jc Tryz.f129) Tryz.func129 Tryz.ntmps129 fun hwf=>?_
  repeat first|refine QG ?_|refine QY ?_ (r:=by conv=>lhs;simp[QV,h0,h1,h1'',hnt,htt,h2,hd])
  exact ja hwf (by simp) rfl
 | true =>
  by_cases h3:db=block
  ·refine QB (c:=jc Tryz.f129) Tryz.func129 Tryz.ntmps129 fun hwf=>?_
   repeat first|refine QG ?_|refine QY ?_ (r:=by conv=>lhs;simp[QV,h0,h1,h1'',hnt,htt,h2,hd,h3])
   exact ja hwf (by simp [h2,h3]) rfl
  ·have cd:=Dominates_v near db block hnl;generalize G.dominates near db block=y at *
   refine QB (c:=jc Tryz.f129) Tryz.func129 Tryz.ntmps129 fun hwf=>?_
   repeat first|refine QG ?_|refine QY ?_ (r:=by conv=>lhs;simp[QV,h0,h1,h1'',hnt,htt,h2,hd,h3])
   refine QT ?_;refine QD (r:=by conv=>lhs;simp[QV,h0,h1,h1'',hnt,htt,h2,hd,h3]) (k:=?_);refine QL (cd) ?_;refine bQ ?_
   exact ja hwf (by simp [h2,h3]) rfl
theorem asks_v (e:Ss.Env) (f:Ss.Fn) (ds:List Ss.Def) (near:List Int) (block pos:Int) (l types:List Int) (hds:ds.length=f.types.length) (htl:f.types.length<2^63) (hnl:near.length<2^63) (hl:l.length<2^63) :
  bS 106 [ckV e f ds near,vint block,vint pos,vl vint l,vl vint types] (.bool (Ss.asks f.types ds near block pos l types)):=by
 intro S;refine QB (c:=jc Tryz.f106) Tryz.func106 Tryz.ntmps106 fun hwf=>?_
 refine QY ?_;refine jt 5 rfl ((boxSt (by simp) rfl rfl)) (by conv=>lhs; simp [Fr.set]) ?_;simp only [aq,au];refine jt 6 rfl ((boxSt (by simp) rfl rfl)) (by conv=>lhs; simp [Fr.set]) ?_;simp only [aq,au];refine jt 7 rfl ((boxSt (by simp) rfl rfl)) (by conv=>lhs; simp [Fr.set]) ?_;simp only [aq,au];refine QP ?_;refine QL (EqFI_v l types (Ss.askOk f.types ds near block pos) 129 [.ref (ckV e f ds near), .ref (vint block), .ref (vint pos)] rfl hl (fun _ k h1 h2=>asks1_v e f ds near block pos _ _ hds htl hnl)) ?_;refine bQ ?_
 exact bN
end Go.Vw
namespace Ss
def put (block pos:Int):List Def->List Int->Option (List Def)
 | ds,[]=>some ds
 | ds,v::l=>if v<0\/(ds.length:Int)<=v\/(ds.getD v.toNat default).made=true then none else put block pos (ds.set v.toNat ⟨true,block,pos⟩) l
def putCode (i:Int):Nat->List Def->List Ins->Option (List Def)
 | _,ds,[]=>some ds
 | k,ds,x::r=>(put i k ds x.outs).bind fun d=>putCode i (k+1) d r
def putBlocks:Nat->List Def->List Block->Option (List Def)
 | _,ds,[]=>some ds
 | i,ds,b::bs=>((put i (-1) ds b.params).bind fun d=>putCode i 0 d b.code).bind fun d=>putBlocks (i+1) d bs
def defsOf (f:Fn):Option (List Def):=putBlocks 0 (List.replicate f.types.length ⟨false,0,0⟩) f.blocks
theorem Ys {block pos:Int} : ∀ {l:List Int} {ds d:List Def},put block pos ds l=some d->d.length=ds.length
 | [],ds,d,h=>by simp only [put,ay] at h; rw [h]
 | v::l,ds,d,h=>by
  simp only [put] at h;split at h
  ·cases h
  ·rw [Ys h]; simp
end Ss
namespace Go.Vw
open Go.Proofs Go.RowKit
attribute [-simp] List.map_set
theorem jaL {α:Type} {enc:α->V} {s:Nat} (hs : ∀ a,(enc a).cells.length=s) (a:α) : ∀ (l:List α) (n:Nat),n<l.length->ju enc (l.set n a)=(ju enc l).take (n*s)++(enc a).cells++(ju enc l).drop (n*s+s)
 | [],n,h=>by simp at h
 | x::l,0,h=>by
  simp only [au,ju,List.flatMap_cons,Nat.zero_mul,List.take_zero,List.nil_append,bd];rw [<-hs x,List.drop_left]
 | x::l,n+1,h=>by
  have ih:=jaL hs a l n (by simpa using h);simp only [aq,ju,List.flatMap_cons] at ih ⊢;have e1:(n+1)*s=(enc x).cells.length+n*s:=by rw [hs,Nat.add_mul]; omega
  have e2:(n+1)*s+s=(enc x).cells.length+(n*s+s):=by omega
  rw [ih,e2,e1,List.take_length_add_append,List.drop_length_add_append];simp [List.append_assoc]
theorem jl {S:Store} (hwf:S.Wf) {o:Nat} {c} (h:S.get o=some c):o<S.nx:=by
 rcases Nat.lt_or_ge o S.nx with h' | h'
 ·exact h'
 ·rw [hwf.gone o h'] at h; cases h
theorem define1_v (S:Store) (e:Ss.Env) (f:Ss.Fn) (nearV:V) (pc ck od:Nat) (ds:List Ss.Def) (l:List Int) (block pos:Int) (hl:l.length<2^63) (hn:ds.length<2^40) (hp:S.get pc=some (1,[.ptr ck 0]))
  (hc:S.get ck=some (11,ckC e f (.slice od 0 ds.length) nearV)) (hd:S.get od=some (3,ju qM ds)) (h1:pc≠od) (h2:ck≠od) :
  bU 98 ([vl vint l,vint block,vint pos]++[.ptr pc 0]) S (fun r T => ∃ ds',ds'.length=ds.length/\r = .bool (Ss.put block pos ds l).isSome/\(∀ d,Ss.put block pos ds l=some d->ds'=d)/\T=S.upd od (3,ju qM ds')):=by
 obtain ⟨⟨fi,fo⟩,ts,bs⟩:=f;obtain ⟨sg,im,gl,mu,me⟩:=e;refine QB (c:=jc Tryz.f98) Tryz.func98 Tryz.ntmps98 fun hwf=>?_
 have hpn:=jl hwf hp;have hcn:=jl hwf hc;have hdn:=jl hwf hd;have op:=fun u l => @jh S u l pc hpn
 have oc:=fun u l => @jh S u l ck hcn
 have od':=fun u l => @jh S u l od hdn
 have hupd:=fun u l c => @jP S u l c od hdn
 have fin : ∀ (X:Bool) (d:List Ss.Def),d.length=ds.length->(Ss.put block pos ds l).isSome=X->(∀ d',Ss.put block pos ds l=some d'->d=d') -> ∀ r:V,r = .bool X ->
   Ja S.nx (fun r T => ∃ ds',ds'.length=ds.length/\r = .bool (Ss.put block pos ds l).isSome/\(∀ d,Ss.put block pos ds l=some d->ds'=d)/\T=S.upd od (3,ju qM ds')) r (St S [(od,some (3,ju qM d))] []):=by
  intro X d k1 k2 k3 r k4;refine Jp (X := .bool X) (S':=S.upd od (3,ju qM d)) hwf k4 rfl (by simp [JX,jaJ,WR zH]) ?_ ⟨d,k1,by rw [k2],k3,rfl⟩;simp only [gcU,gcE,bl,WQ zH];exact KF hwf hdn
 rw [Kb hd]
 refine bw ?_
 refine QT ?_;refine jd [1,2,3,10,11,12] rfl (fun c σ S' => ∃ (k:Nat) (d:List Ss.Def),k<=l.length/\c=l.length-k/\d.length=ds.length/\Ss.put block pos d (l.drop k)=Ss.put block pos ds l/\σ=[(1,vint block),(2,vint pos),(3, .ptr pc 0),(10,vl vint l),(11,vnat l.length),(12,vnat k)]/\S'=St S [(od,some (3,ju qM d))] []) l.length ?_ ?_
 ·exact ⟨0,ds,by omega,rfl,rfl,rfl,by simp [Fr.only],rfl⟩
 ·rintro c σ T ⟨k,d,hk,rfl,hdl,hpd,rfl,rfl⟩
  by_cases hkt:k<l.length
  ·have hw:=jg hkt hl;have hst:Ss.put block pos d (l.drop k)=if l[k]<0\/(d.length:Int)<=l[k]\/(d.getD l[k].toNat default).made=true then none else Ss.put block pos (d.set l[k].toNat ⟨true,block,pos⟩) (l.drop (k+1)):=by rw [am hkt,Ss.put]
   obtain ⟨v,hx⟩ : ∃ v,l[k]=v:=⟨_,rfl⟩
   rw [hx] at hst;have bad:(v<0\/(d.length:Int)<=v\/(d.getD v.toNat default).made=true)->Ss.put block pos ds l=none:=fun hb=>by rw [<-hpd,hst,if_pos hb]
   by_cases q1:v<0
   ·refine bv hkt hx q1 ?_
    have hb:=bad (.inl q1);exact fin false d hdl (by rw [hb]; rfl) (by rw [hb]; simp) _ (by simp)
   obtain ⟨n,rfl⟩ : ∃ n:Nat,v=n:=⟨v.toNat,by omega⟩
   by_cases q2:n<d.length
   case neg =>
    have q2':(ds.length:Int)<=(n:Int):=by omega
    have hb:=bad (.inr (.inl (by omega)))
    repeat first|refine QG ?_|refine QY ?_ (r:=by conv=>lhs;simp[QV,hkt,hx,q1,q2,q2',op,oc,od',hp,hc,h1,h2])
    exact fin false d hdl (by rw [hb]; rfl) (by rw [hb]; simp) _ (by simp)
   have q2' : ¬ (ds.length:Int)<=(n:Int):=by omega
   obtain ⟨⟨dm,db,dp⟩,hdx⟩ : ∃ x,d[n]=x:=⟨_,rfl⟩
   have hdg:d.getD (n:Int).toNat default=⟨dm,db,dp⟩:=by simp [q2,hdx]
   have hcell:(ju qM d)[n*3]? = some (.bool dm):=WT (enc:=qM) (s:=3) (fun _=>rfl) d n 0 ⟨dm,db,dp⟩ (.bool dm) (by rw [<-hdx]; exact ac q2) rfl;have hfl:(ju qM d).length=d.length*3:=Kz (enc:=qM) (s:=3) (fun _=>rfl) d;have hn2:n<ds.length:=by omega
   by_cases q3:dm=true
   ·have hb:=bad (.inr (.inr (by rw [hdg]; exact q3)))
    repeat first|refine QG ?_|refine QY ?_ (r:=by conv=>lhs;simp[QV,hkt,hx,q1,q2,q2',op,oc,od',hp,hc,h1,h2,hcell,hn2,q3])
    exact fin false d hdl (by rw [hb]; rfl) (by rw [hb]; simp) _ (by simp)
   ·have q3':dm=false:=by simpa using q3
    have hfit:n*3+3<=(ju qM d).length:=by omega
    rw [if_neg (by rw [hdg]; rintro (h | h | h)<;>first | exact q1 h | exact q3 h | omega)] at hst;have hfs:=jaL (enc:=qM) (s:=3) (fun _=>rfl) ⟨true,block,pos⟩ d n q2
    repeat first|refine QG ?_|refine QY ?_ (r:=by conv=>lhs;simp[QV,hkt,hx,q1,q2,q2',op,oc,od',hp,hc,h1,h2,hcell,hn2,q3',hfit,hupd])
    show js _ _ _ _ _ _ _;exact again ⟨ao hkt (aY k),k+1,d.set n ⟨true,block,pos⟩,hkt,rfl,by simp [hdl],by rw [<-hpd,hst]; rfl,by simp [Fr.only,hw],by rw [hfs]; simp [encDef_cells]⟩
  ·have e1:l.drop k=[]:=by rw [aH]; omega
   rw [e1] at hpd;have hpe:Ss.put block pos ds l=some d:=by rw [<-hpd]; rfl
   refine bx hkt ?_
   exact fin true d hdl (by rw [hpe]; rfl) (by rw [hpe]; simp) _ (by simp)
theorem WG {i:Nat} {ds:List Ss.Def} {bs:List Ss.Block} (h:i<bs.length):Ss.putBlocks i ds (bs.drop i)=((Ss.put i (-1) ds bs[i].params).bind fun d=>Ss.putCode i 0 d bs[i].code).bind fun d=>Ss.putBlocks (i+1) d (bs.drop (i+1)):=by
 rw [am h,Ss.putBlocks]
theorem putCode_one {i:Int} {k:Nat} {ds:List Ss.Def} {l:List Ss.Ins} (h:k<l.length):Ss.putCode i k ds (l.drop k)=(Ss.put i k ds l[k].outs).bind fun d=>Ss.putCode i (k+1) d (l.drop (k+1)):=by
 rw [am h,Ss.putCode]
theorem flatC_rep0 (n:Nat):(List.replicate n [V.bool false, .int .i64 0, .int .i64 0]).flatten=ju qM (List.replicate n ⟨false,0,0⟩):=by
 induction n with
 | zero=>rfl
 | succ n ih=>rw [List.replicate_succ,List.replicate_succ,List.flatten_cons,ih]; rfl
theorem qO (f:Nat->Nat) (l:List Ss.Def):V.renL f (ju qM l)=ju qM l:=WQ zH f l
theorem qR (p:Nat->Bool) (l:List Ss.Def):V.idsL p (ju qM l)=true:=WR zH p l
theorem define_v (S:Store) (e:Ss.Env) (f:Ss.Fn) (ck:Nat) (hf:f.Fits) (hts:f.types.length<=1048576) (hc:S.get ck=some (11,ckC e f .nils .nils)) :
  bU 63 [.ptr ck 0] S (fun r T => ∃ ds',ds'.length=f.types.length/\r = .bool (Ss.defsOf f).isSome/\(∀ d,Ss.defsOf f=some d->ds'=d)/\T=St S [(ck,some (11,ckC e f (.slice (lid S.nx 0) 0 f.types.length) .nils))] [some (3,ju qM ds')]):=by
 obtain ⟨_,_,⟨hbl0,hbf⟩⟩:=hf;obtain ⟨⟨fi,fo⟩,ts,bs⟩:=f;obtain ⟨sg,im,gl,mu,me⟩:=e;simp only at hts hbl0 hbf hc ⊢;have hbl:bs.length<2^63:=by omega
 generalize hD:Ss.defsOf ⟨⟨fi,fo⟩,ts,bs⟩=D;refine QB (c:=jc Tryz.f63) Tryz.func63 Tryz.ntmps63 fun hwf=>?_
 have hcn:=jl hwf hc;have oc:=fun u l => @jh S u l ck hcn
 have hupd:=fun u l c => @jP S u l c ck hcn
 have gp:=fun ks=>qv (n:=S.nx) ks hcn
 have gt:=fun ks=>jZ (n:=S.nx) ks hcn
 have hb24:ts.length*24<=140737488355328:=by omega
 have hb0:ts.length<=140737488355328:=by omega
 rw [Kb hc];refine QY ?_;refine QT ?_;refine QJ (St S [(ck,none)] [some (1,[.ptr ck 0])]) (St S [(ck,some (11,ckC ⟨sg,im,gl,mu,me⟩ ⟨⟨fi,fo⟩,ts,bs⟩ .nils .nils))] [some (1,[.ptr ck 0])]) [13] ?_ (r:=by conv=>lhs; simp [QV,oc,hc]);refine QI ?_ (r:=by conv=>lhs;simp[QV,hb24,hb0]);refine bF oc hc ?_;refine QI ?_ (r:=by conv=>lhs;simp[QV,oc,hc,hupd]);refine QN ?_;have hr0:rep0 [V.bool false, .int .i64 0, .int .i64 0] ts.length=ju qM (List.replicate ts.length ⟨false,0,0⟩):=flatC_rep0 _
 refine bt oc hupd ?_
 refine QT ?_;refine jd [3,23,24,25] rfl (fun c σ S' => ∃ (k:Nat) (d:List Ss.Def),k<=bs.length/\c=bs.length-k/\d.length=ts.length/\Ss.putBlocks k d (bs.drop k)=D/\σ=[(3, .func 98 [.ptr (lid S.nx 0) 0]),(23,vl je bs),(24,vnat bs.length),(25,vnat k)]/\S'=St S [(ck,some (11,ckC ⟨sg,im,gl,mu,me⟩ ⟨⟨fi,fo⟩,ts,bs⟩ (.slice (lid S.nx 1) 0 ts.length) .nils))] [some (1,[.ptr ck 0]),some (3,ju qM d)]) bs.length ?_ ?_
 ·exact ⟨0,List.replicate ts.length ⟨false,0,0⟩,by omega,rfl,by simp,by rw [<-hD]; rfl,by simp [Fr.only],by simp [hr0]⟩
 ·rintro c σ T ⟨k,d,hk,rfl,hdl,hpd,rfl,rfl⟩
  by_cases hkt:k<bs.length
  ·have hw:=jg hkt hbl;have hst:=WG (ds:=d) hkt;have hbk:=hbf _ (ah hkt);obtain ⟨⟨ps,code,⟨tk,ta,to,az⟩⟩,hx⟩ : ∃ b,bs[k]=b:=⟨_,rfl⟩
   rw [hx] at hst hbk;obtain ⟨⟨hpl,_⟩,⟨hcl,hcf⟩,_⟩:=hbk;simp only at hst hpl hcl hcf
   refine bt hkt hx ?_
   refine bK hkt hx ?_;refine ql rfl rfl rfl (define1_v _ ⟨sg,im,gl,mu,me⟩ ⟨⟨fi,fo⟩,ts,bs⟩ .nils (lid S.nx 0) ck (lid S.nx 1) d ps k (-1) (by omega) (by omega) (by simp) (by rw [oc]; simp [uGet,hdl]) (by simp) (by simp [lid]) (by simp [lid]; omega)) ?_;rintro X S2 ⟨d1,hd1,rfl,hp1,rfl⟩;rw [JO (by simp)];simp only [aq,au];obtain ⟨z,hz⟩ : ∃ z,(Ss.put k (-1) d ps).isSome=z:=⟨_,rfl⟩
   rw [hz]
   by_cases hz1:z=true
   case neg =>
    have hz2:z=false:=by simpa using hz1
    have hD2:D=none:=by
     rw [<-hpd,hst];have:Ss.put k (-1) d ps=none:=by rw [hz2] at hz; simpa using hz
     rw [this]; rfl
    refine bB hz2 ?_;refine QN ?_;refine QO [35] ?_;refine ZR [1] hwf (by decide) (by simp [qR,gp]) (by conv=>lhs; simp) (by conv=>lhs; simp [qO,gt]) (by conv=>lhs; simp) ?_
    refine bw ?_
    exact zi ⟨d1,by omega,by simp [hD2],by simp [hD2],by simp⟩
   obtain ⟨d2,hq1⟩ : ∃ d2,Ss.put k (-1) d ps=some d2:=by rw [hz1] at hz; exact Option.isSome_iff_exists.1 hz
   obtain rfl:=hp1 _ hq1;rw [hq1] at hst;have hst1:Ss.putBlocks k d (bs.drop k)=(Ss.putCode k 0 d1 code).bind fun d=>Ss.putBlocks (k+1) d (bs.drop (k+1)):=hst
   refine bB hz1 ?_;refine bR ?_
   refine QO [3,4,23,24,25,37,38,39] ?_;refine ZR [0,1] hwf (by decide) (by simp [qR,gp]) (by conv=>lhs; simp) (by conv=>lhs; simp [qO,gt]) (by conv=>lhs; simp) ?_;refine QT ?_;refine jd [3,4,23,24,25,37,38,39] rfl (fun c σ S' => ∃ (j:Nat) (d:List Ss.Def),j<=code.length/\c=code.length-j/\d.length=ts.length/\Ss.putCode k j d (code.drop j)=Ss.putCode k 0 d1 code/\σ=[(3, .func 98 [.ptr (lid S.nx 0) 0]),(4,vnat k),(23,vl je bs),(24,vnat bs.length),(25,vnat k),(37,vl jp code),(38,vnat code.length),(39,vnat j)]/\S'=St S [(ck,some (11,ckC ⟨sg,im,gl,mu,me⟩ ⟨⟨fi,fo⟩,ts,bs⟩ (.slice (lid S.nx 1) 0 ts.length) .nils))] [some (1,[.ptr ck 0]),some (3,ju qM d)]) code.length ?_ ?_
   ·exact ⟨0,d1,by omega,rfl,by omega,rfl,by simp [Fr.only],by simp⟩
   ·rintro c σ T ⟨j,d3,hj,rfl,hdl3,hpc,rfl,rfl⟩
    by_cases hjt:j<code.length
    ·have hwj:=jg hjt (by omega);have hsc:=putCode_one (i:=k) (ds:=d3) hjt;have hif:=hcf _ (ah hjt);obtain ⟨⟨xo,xn,xa,xu⟩,hx2⟩ : ∃ b,code[j]=b:=⟨_,rfl⟩
     rw [hx2] at hsc hif;obtain ⟨_,_,_,⟨hul,_⟩⟩:=hif;simp only at hsc hul
     refine bt hjt hx2 ?_
     refine bK hjt hx2 ?_;refine ql rfl rfl rfl (define1_v _ ⟨sg,im,gl,mu,me⟩ ⟨⟨fi,fo⟩,ts,bs⟩ .nils (lid S.nx 0) ck (lid S.nx 1) d3 xu k j (by omega) (by omega) (by simp) (by rw [oc]; simp [uGet,hdl3]) (by simp) (by simp [lid]) (by simp [lid]; omega)) ?_;rintro X S2 ⟨d4,hd4,rfl,hp4,rfl⟩;rw [JO (by simp)];simp only [aq,au];obtain ⟨z2,hz2⟩ : ∃ z,(Ss.put k j d3 xu).isSome=z:=⟨_,rfl⟩
     rw [hz2]
     by_cases hz3:z2=true
     case neg =>
      have hz4:z2=false:=by simpa using hz3
      have hD2:D=none:=by
       have:Ss.put k j d3 xu=none:=by rw [hz4] at hz2; simpa using hz2
       rw [<-hpd,hst1, <-hpc,hsc,this]; rfl
      refine bB hz4 ?_;refine QN ?_;refine QO [50] ?_;refine ZR [1] hwf (by decide) (by simp [qR,gp]) (by conv=>lhs; simp) (by conv=>lhs; simp [qO,gt]) (by conv=>lhs; simp) ?_
      refine bw ?_
      exact zi ⟨d4,by omega,by simp [hD2],by simp [hD2],by simp⟩
     obtain ⟨d5,hq5⟩ : ∃ d5,Ss.put k j d3 xu=some d5:=by rw [hz3] at hz2; exact Option.isSome_iff_exists.1 hz2
     obtain rfl:=hp4 _ hq5;rw [hq5] at hsc;have hsc1:Ss.putCode k j d3 (code.drop j)=Ss.putCode k (j+1) d4 (code.drop (j+1)):=hsc;refine bB hz3 ?_;refine bR ?_
     refine jT [0,1] (by conv=>lhs; simp [Fr.only]) hwf (by decide) (by simp [qO,qR,gp,gt]) (by conv=>lhs; simp [qO,qR,gp,gt]) (by conv=>lhs; simp [qO,qR,gp,gt]) (by conv=>lhs; simp [qO,qR,gp,gt]) ⟨?_,j+1,d4,hjt,rfl,by omega,by rw [<-hpc,hsc1],by simp [hwj],by simp⟩;omega
    ·have e1:code.drop j=[]:=by rw [aH]; omega
     rw [e1] at hpc;have hpc1:Ss.putCode k 0 d1 code=some d3:=by rw [<-hpc]; rfl
     rw [hpc1] at hst1
     refine bx hjt ?_
     refine jT [0,1] (by conv=>lhs; simp [Fr.only]) hwf (by decide) (by simp [qO,qR,gp,gt]) (by conv=>lhs; simp [qO,qR,gp,gt]) (by conv=>lhs; simp [qO,qR,gp,gt]) (by conv=>lhs; simp [qO,qR,gp,gt]) ⟨?_,k+1,d3,hkt,rfl,by omega,by rw [<-hpd,hst1]; rfl,by simp [hw],by simp⟩;omega
  ·have e1:bs.drop k=[]:=by rw [aH]; omega
   rw [e1] at hpd;have hD2:D=some d:=by rw [<-hpd]; rfl
   refine bM hkt ?_;refine QT ?_;refine jG rfl rfl rfl ?_;refine QT ?_;refine qb 0 rfl rfl ?_;refine QO [25] ?_;refine ZR [1] hwf (by decide) (by simp [qR,gp]) (by conv=>lhs; simp) (by conv=>lhs; simp [qO,gt]) (by conv=>lhs; simp) ?_
   refine bw ?_
   exact zi ⟨d,hdl,by simp [hD2],by simp [hD2],by simp⟩
theorem rings11_v (x:Ss.Ins):bS 122 ([jp x]++[]) (.bool (decide (x.op=258))):=by
 intro S;obtain ⟨o,n,a,u⟩:=x;refine QB (c:=jc Tryz.f122) Tryz.func122 Tryz.ntmps122 fun hwf=>?_
 refine bw ?_
 exact ja hwf (by simp) rfl
theorem tick_v (l:List Ss.Ins) (hl:l.length<2^63):bS 121 [vl jp l, .func 122 []] (.bool (l.any fun x=>decide (x.op=258))) :=
 AnyN_v l (fun x=>decide (x.op=258)) _ [] rfl hl (fun x _=>rings11_v x)
theorem rings1_v (f:Ss.Fn) (g:List (List Nat)) (hgl:g.length=f.blocks.length) (hgb:g.length<2^62) (hrow : ∀ r∈g,r.length<2^62 /\ ∀ k∈r,k<g.length) (hcode : ∀ b∈f.blocks,b.code.length<2^63) :
  ∀ (fuel n:Nat) (st:List Nat) (r:Bool) (s:List Nat) (S:Store) (ps os pw:Nat),n<g.length->st.length=g.length->S.get ps=some (1,[.slice os 0 g.length])->S.get os=some (1,st.map vnat) ->
   S.get pw=some (1,[.func 120 [.ref (jI f), .ptr ps 0, .ref (vl (vl vnat) g), .ptr pw 0]])->ps≠os->pw≠os->Ss.ringW (f.blocks.map Ss.tickB) g fuel n st=some (r,s) ->
   bU 120 [vnat n, .ref (jI f), .ptr ps 0, .ref (vl (vl vnat) g), .ptr pw 0] S (fun x T=>x = .bool r/\T=S.upd os (1,s.map vnat)):=by
 intro fuel
 induction fuel with
 | zero=>intro n st r s S ps os pw _ _ _ _ _ _ _ h; rw [Ss.ringW] at h; cases h
 | succ fuel ih =>
  intro n st r s S ps os pw hn hsl hps hos hpw h1 h2 hr;obtain ⟨⟨fi,fo⟩,ts,bs⟩:=f;simp only at hgl hcode hr;have hnb:n<bs.length:=by omega
  have hns:n<st.length:=by omega
  have hct:=tick_v _ (hcode _ (ah hnb));obtain ⟨⟨bp,bc,⟨tk,ta,to,az⟩⟩,hx⟩ : ∃ b,bs[n]=b:=⟨_,rfl⟩
  have htk:(bs.map Ss.tickB).getD n false=bc.any fun x=>decide (x.op=258):=by simp [hnb,hx,Ss.tickB]
  rw [hx] at hct;simp only at hct;rw [Ss.ringW,htk] at hr;generalize (bc.any fun x=>decide (x.op=258))=tb at *
  refine QB (c:=jc Tryz.f120) Tryz.func120 Tryz.ntmps120 fun hwf=>?_
  have psn:=jl hwf hps;have osn:=jl hwf hos;have pwn:=jl hwf hpw;have ops:=fun u l => @jh S u l ps psn
  have oos:=fun u l => @jh S u l os osn
  have opw:=fun u l => @jh S u l pw pwn
  have hupd:=fun u l c => @jP S u l c os osn
  rw [Kb hos];have fin : ∀ (b:Bool) (d:List Nat) (v:V),v = .bool b->r=b->s=d->Ja S.nx (fun x T=>x = .bool r/\T=S.upd os (1,s.map vnat)) v (St S [(os,some (1,d.map vnat))] []):=by
   rintro b d v rfl rfl rfl;refine Jp (X := .bool r) (S':=S.upd os (1,s.map vnat)) hwf rfl rfl (by simp [JX,jaJ,jaH]) ?_ ⟨rfl,rfl⟩;simp only [gcU,gcE,bl,jai];exact KF hwf osn
  refine QY ?_;refine bK hnb hx ?_;refine QL (hct) ?_
  by_cases ht:tb=true
  ·rw [if_pos ht] at hr
   cases hr
   refine bB ht ?_;refine bR ?_
   exact fin _ _ _ (by simp) rfl rfl
  have ht':tb=false:=by simpa using ht
  rw [if_neg ht] at hr;have hgd:g.getD n []=g[n]:=by simp [hn]
  rw [hgd] at hr;obtain ⟨hrl,hrk⟩:=hrow _ (ah hn);obtain ⟨row,hrow'⟩ : ∃ row,g[n]=row:=⟨_,rfl⟩
  rw [hrow'] at hr hrl hrk;refine bB ht' ?_;refine QN ?_
  repeat first|refine QG ?_|refine QY ?_ (r:=by conv=>lhs;simp[QV,ops,oos,opw,hps,hos,hpw,h1,h2,hn,hns,hupd,hrow'])
  obtain ⟨q,hq⟩ : ∃ q,Ss.ringL (bs.map Ss.tickB) g fuel row (st.set n 1)=some q:=by
   cases hz:Ss.ringL (bs.map Ss.tickB) g fuel row (st.set n 1) with
   | none=>rw [hz] at hr; cases hr
   | some q=>exact ⟨q,rfl⟩
  rw [hq] at hr;refine QT ?_;refine jd [0,2,4,22,23,24] rfl (fun c σ S' => ∃ (k:Nat) (d:List Nat),k<=row.length/\c=row.length-k/\d.length=g.length/\Ss.ringL (bs.map Ss.tickB) g fuel (row.drop k) d=some q/\σ=[(0,vnat n),(2, .ptr ps 0),(4, .ptr pw 0),(22,vl vnat row),(23,vnat row.length),(24,vnat k)]/\S'=St S [(os,some (1,d.map vnat))] []) row.length ?_ ?_
  ·exact ⟨0,st.set n 1,by omega,rfl,by simpa using hsl,hq,by simp [Fr.only],by simp [List.map_set]⟩
  ·rintro c σ T ⟨k,d,hk,rfl,hdl,hql,rfl,rfl⟩
   by_cases hkt:k<row.length
   ·have hw:=jg hkt (by omega);rw [am hkt,Ss.ringL] at hql;have hkk:=hrk _ (ah hkt);obtain ⟨m,hm⟩ : ∃ m,row[k]=m:=⟨_,rfl⟩
    rw [hm] at hql hkk;have hmd:m<d.length:=by omega
    obtain ⟨x,hxd⟩ : ∃ x,d[m]=x:=⟨_,rfl⟩
    have hgd2:d.getD m 0=x:=by simp [hmd,hxd]
    rw [hgd2] at hql
    by_cases x1:x=1
    ·rw [if_pos x1] at hql
     cases hql
     simp only at hr
     cases hr
     repeat first|refine QG ?_|refine QY ?_ (r:=by conv=>lhs;simp[QV,hkt,hm,ops,oos,hps,hos,h1,hkk,hmd,hxd,x1])
     exact fin _ _ _ (by simp) rfl rfl
    have x1' : ¬ (x:Int)=1:=by omega
    rw [if_neg x1] at hql
    by_cases x0:x=0
    ·rw [if_pos x0] at hql;obtain ⟨⟨b2,s2⟩,hw2⟩ : ∃ p,Ss.ringW (bs.map Ss.tickB) g fuel m d=some p:=by
      cases hz:Ss.ringW (bs.map Ss.tickB) g fuel m d with
      | none=>rw [hz] at hql; cases hql
      | some q=>exact ⟨q,rfl⟩
     rw [hw2] at hql;have hs2:=Ss.ringW_len _ _ _ _ _ hw2;have x0':(x:Int)=0:=by omega
     repeat first|refine QG ?_|refine QY ?_ (r:=by conv=>lhs;simp[QV,hkt,hm,ops,oos,hps,hos,h1,hkk,hmd,hxd,x1,x1',x0,x0'])
     refine QP ?_ (r:=by conv=>lhs;simp[QV,hkt,hm,ops,oos,opw,hps,hos,hpw,h1,h2,hkk,hmd,hxd,x1,x1',x0,x0']);refine ql rfl rfl rfl (ih m d b2 s2 _ ps os pw hkk hdl (by rw [ops]; simp [uGet,h1,hps]) (by rw [oos]; simp [uGet]) (by rw [opw]; simp [uGet,h2,hpw]) h1 h2 hw2) ?_;rintro X S2 ⟨rfl,rfl⟩;rw [hupd];simp only [uSet,if_true]
     by_cases hb2:b2=true
     ·rw [hb2] at hql;simp only at hql
      cases hql
      simp only at hr
      cases hr
      refine bB hb2 ?_;refine bR ?_
      exact fin _ _ _ (by simp) rfl rfl
     ·have hb2':b2=false:=by simpa using hb2
      rw [hb2'] at hql;simp only at hql;refine bB hb2' ?_;refine bR ?_
      show js _ _ _ _ _ _ _;exact again ⟨ao hkt (aY k),k+1,s2,hkt,rfl,by omega,hql,by simp [Fr.only,hw],rfl⟩
    ·rw [if_neg x0] at hql;have x0' : ¬ (x:Int)=0:=by omega
     repeat first|refine QG ?_|refine QY ?_ (r:=by conv=>lhs;simp[QV,hkt,hm,ops,oos,hps,hos,h1,hkk,hmd,hxd,x1,x1',x0,x0'])
     show js _ _ _ _ _ _ _;exact again ⟨ao hkt (aY k),k+1,d,hkt,rfl,hdl,hql,by simp [Fr.only,hw],rfl⟩
   ·have e1:row.drop k=[]:=by rw [aH]; omega
    rw [e1,Ss.ringL] at hql
    cases hql
    simp only at hr
    cases hr
    have hnd:n<d.length:=by omega
    have e2:(d.map vnat).set n (.int .i64 2)=(d.set n 2).map vnat:=by simp [List.map_set,vnat]
    repeat first|refine QG ?_|refine QY ?_ (r:=by conv=>lhs;simp[QV,hkt,ops,oos,hps,hos,h1,hn,hnd,hupd])
    rw [e2];exact fin _ _ _ (by simp) rfl rfl
theorem WE (f:Nat->Nat) (n:Nat) (k:IntKind) (x:Int):V.renL f (List.replicate n (V.int k x))=List.replicate n (V.int k x):=by
 rw [qi]; simp [V.ren]
theorem WN (p:Nat->Bool) (n:Nat) (k:IntKind) (x:Int):V.idsL p (List.replicate n (V.int k x))=true:=by
 rw [qr]; simp [V.ids]
theorem rings_v (f:Ss.Fn) (g:List (List Nat)) (hgl:g.length=f.blocks.length) (hgb:g.length<=4096) (hrow : ∀ r∈g,r.length<2^62 /\ ∀ k∈r,k<g.length) (hcode : ∀ b∈f.blocks,b.code.length<2^63) :
  bS 101 [jI f,vl (vl vnat) g] (.bool (Ss.rings f.blocks g)):=by
 intro S;have hg0 : ∀ n, ∀ k∈g.getD n [],k<g.length:=by
  intro n k hk
  by_cases h:n<g.length
  ·rw [ag,ac h] at hk;exact (hrow _ (ah h)).2 k hk
  ·rw [ag,aJ (by omega)] at hk;simp at hk
 obtain ⟨q,hq⟩:=Ss.ringM_ends (tick:=f.blocks.map Ss.tickB) (fuel:=g.length+1) hg0 (by omega) (List.range g.length) (List.replicate g.length 0) (by simp) (by simp);have hX:Ss.rings f.blocks g=q:=by simp [Ss.rings,hq]
 rw [hX];have cw:=rings1_v f g hgl (by omega) hrow hcode;obtain ⟨⟨fi,fo⟩,ts,bs⟩:=f;simp only at hq cw;have hb8:g.length*8<=140737488355328:=by omega
 have hb0:g.length<=140737488355328:=by omega
 refine QB (c:=jc Tryz.f101) Tryz.func101 Tryz.ntmps101 fun hwf=>?_
 refine QY ?_;refine QH 2 0 ?_;refine jt 3 rfl ((boxSt (k:=1) (by simp) (by rfl) (by rfl))) (by conv=>lhs; simp [Fr.set]) ?_;simp only [aq,au]
 refine bt hb8 hb0 ?_
 refine QO [5,6,13,14] ?_;refine ZR [2,3,4] hwf (by decide) (by simp [WN,WE]) (by conv=>lhs; simp [WN,WE]) (by conv=>lhs; simp [WN,WE]) (by conv=>lhs; simp [WN,WE]) ?_;refine QT ?_;refine jd [5,6,13,14] rfl (fun c σ S' => ∃ (k:Nat) (st:List Nat),k<=g.length/\c=g.length-k/\st.length=g.length/\Ss.ringM (bs.map Ss.tickB) g (g.length+1) ((List.range g.length).drop k) st=some q/\σ=[(5, .ptr (lid S.nx 1) 0),(6, .ptr (lid S.nx 2) 0),(13,vnat g.length),(14,vnat k)]/\S'=St S [] [some (1,st.map vnat),some (1,[.slice (lid S.nx 0) 0 g.length]),some (1,[.func 120 [.ref (.agg [vl vint fi,vl vint fo,vl vint ts,vl je bs]), .ptr (lid S.nx 1) 0, .ref (vl (vl vnat) g), .ptr (lid S.nx 2) 0]])]) g.length ?_ ?_
 ·exact ⟨0,List.replicate g.length 0,by omega,rfl,by simp,hq,by simp [Fr.only],by simp [vnat]⟩
 ·rintro c σ T ⟨k,st,hk,rfl,hsl,hm,rfl,rfl⟩
  by_cases hkt:k<g.length
  ·have hw:=jg hkt (by omega);rw [am (by simpa using hkt),List.getElem_range,Ss.ringM] at hm;have hks:k<st.length:=by omega
   obtain ⟨x,hx⟩ : ∃ x,st[k]=x:=⟨_,rfl⟩
   have hgd:st.getD k 0=x:=by simp [hks,hx]
   rw [hgd] at hm
   by_cases x0:x=0
   ·rw [if_pos x0] at hm;have x0':(x:Int)=0:=by omega
    obtain ⟨⟨b,s⟩,hwk⟩ : ∃ p,Ss.ringW (bs.map Ss.tickB) g (g.length+1) k st=some p:=by
     cases hz:Ss.ringW (bs.map Ss.tickB) g (g.length+1) k st with
     | none=>rw [hz] at hm; cases hm
     | some p=>exact ⟨p,rfl⟩
    rw [hwk] at hm;have hs2:=Ss.ringW_len _ _ _ _ _ hwk
    refine bJ hkt hks hx x0 x0' ?_
    refine QP ?_ (r:=by conv=>lhs;simp[QV,hkt,hks,hx,x0,x0']);refine ql rfl rfl rfl (cw (g.length+1) k st b s _ (lid S.nx 1) (lid S.nx 0) (lid S.nx 2) hkt hsl (by simp) (by simp) (by simp) (by simp [lid]) (by simp [lid]) hwk) ?_;rintro X S2 ⟨rfl,rfl⟩;rw [JO (by simp)];simp only [aq,au]
    by_cases hb:b=true
    ·rw [hb] at hm;simp only [ay] at hm;refine bB hb ?_;refine bR ?_
     exact ja hwf (by simp [<-hm]) rfl
    ·have hb':b=false:=by simpa using hb
     rw [hb'] at hm;simp only at hm;refine bB hb' ?_;refine bR ?_
     show js _ _ _ _ _ _ _;exact again ⟨ao hkt (aY k),k+1,s,hkt,rfl,by omega,hm,by simp [Fr.only,hw],rfl⟩
   ·rw [if_neg x0] at hm;have x0' : ¬ (x:Int)=0:=by omega
    refine bJ hkt hks hx x0 x0' ?_
    show js _ _ _ _ _ _ _;exact again ⟨ao hkt (aY k),k+1,st,hkt,rfl,hsl,hm,by simp [Fr.only,hw],rfl⟩
  ·have e1:(List.range g.length).drop k=[]:=by rw [aH]; simp; omega
   rw [e1,Ss.ringM] at hm
   cases hm
   refine bx hkt ?_
   exact bN
theorem eqF_dec {α:Type} [DecidableEq α] (l m:List α):eqF (fun x y=>decide (x=y)) l m=decide (l=m):=eqF_eq (fun _ _=>rfl) l m
theorem Equal_v (l m:List Int) (hl:l.length<2^63):bS 103 [vl vint l,vl vint m] (.bool (decide (l=m))):=by
 intro S;rw [<-eqF_dec];generalize hp:(fun x y:Int=>decide (x=y))=p
 by_cases hlm:l.length=m.length
 ·have hlm':(l.length:Int)=(m.length:Int):=by omega
  refine QB (c:=jc Tryz.f103) Tryz.func103 Tryz.ntmps103 fun hwf=>?_
  refine bt hlm hlm' ?_
  refine QT ?_;refine jd [0,1,12,13] rfl (fun c σ S' => ∃ (k:Nat),k<=l.length/\c=l.length-k/\eqF p (l.drop k) (m.drop k)=eqF p l m/\σ=[(0,vl vint l),(1,vl vint m),(12,vnat m.length),(13,vnat k)]/\S'=St S [] []) l.length ?_ ?_
  ·exact ⟨0,by omega,rfl,rfl,by simp [Fr.only,hlm],rfl⟩
  ·rintro c σ T ⟨k,hk,rfl,hd,rfl,rfl⟩
   by_cases hkt:k<l.length
   ·have hkm:k<m.length:=by omega
    have hw:=jg hkt hl;have hst:eqF p (l.drop k) (m.drop k)=(p l[k] m[k]&&eqF p (l.drop (k+1)) (m.drop (k+1))):=by rw [am hkt,am hkm,eqF]
    obtain ⟨x,hx⟩ : ∃ x,l[k]=x:=⟨_,rfl⟩
    obtain ⟨y,hy⟩ : ∃ y,m[k]=y:=⟨_,rfl⟩
    rw [hx,hy] at hst
    by_cases hxy:x=y
    ·rw [show p x y=true by rw [<-hp]; simp [hxy]] at hst
     refine bJ hkt hkm hx hy hxy ?_
     show js _ _ _ _ _ _ _;exact again ⟨ao hkt (aY k),k+1,hkt,rfl,by rw [<-hd,hst]; rfl,by simp [Fr.only,hw],rfl⟩
    ·rw [show p x y=false by rw [<-hp]; simp [hxy]] at hst
     refine bJ hkt hkm hx hy hxy ?_
     exact ja hwf (by rw [<-hd,hst]; rfl) rfl
   ·have e:l.drop k=[]:=by rw [aH]; omega
    have e':m.drop k=[]:=by rw [aH]; omega
    rw [e,e'] at hd;have hkm : ¬ k<m.length:=by omega
    refine bt hkt hkm ?_
    exact ja hwf (by rw [<-hd]; rfl) rfl
 ·have hlm' : ¬ (l.length:Int)=(m.length:Int):=by omega
  have e:eqF p l m=false:=eqF_len hlm;rw [e];refine QB (c:=jc Tryz.f103) Tryz.func103 Tryz.ntmps103 fun hwf=>?_
  refine bt hlm hlm' ?_
  exact bN
end Go.Vw
