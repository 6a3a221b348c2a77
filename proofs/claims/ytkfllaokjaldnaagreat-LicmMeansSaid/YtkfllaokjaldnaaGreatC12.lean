import Derived.Test.YtkfllaokjaldnaaGreatC11
/- Part of the proof. -/
set_option linter.unusedVariables false
set_option linter.unusedSimpArgs false
set_option maxRecDepth 10000
set_option maxHeartbeats 4000000
namespace Ss
def put (block pos:Int):List Def->List Int->Option (List Def)
 | ds,[]=>some ds
 | ds,v::l=>if v<0\/(ds.length:Int)<=v\/(ds.getD v.toNat default).made=true then none else put block pos (ds.set v.toNat ⟨true,block,pos⟩) l
def putCode (i:Int):Nat->List Def->List Ins->Option (List Def)
 | _,ds,[]=>some ds
 | k,ds,x::r=>(put i k ds x.outs).bind fun d=>putCode i (k+1) d r
def cI:Nat->List Def->List Block->Option (List Def)
 | _,ds,[]=>some ds
 | i,ds,b::bs=>((put i (-1) ds b.params).bind fun d=>putCode i 0 d b.code).bind fun d=>cI (i+1) d bs
def defsOf (f:Fn):Option (List Def):=cI 0 (List.replicate f.types.length ⟨false,0,0⟩) f.blocks
theorem YC {block pos:Int} : ∀ {l:List Int} {ds d:List Def},put block pos ds l=some d->d.length=ds.length
 | [],ds,d,h=>by simp only [put,ay] at h; rw [h]
 | v::l,ds,d,h=>by
  simp only [put] at h;split at h
  .cases h
  .rw [YC h]; simp
end Ss
namespace Go.Vw
open Go.Proofs Go.RowKit
attribute [-simp] List.map_set
theorem jaW {α:Type} {enc:α->V} {s:Nat} (hs : ∀ a,(enc a).cells.length=s) (a:α) : ∀ (l:List α) (n:Nat),n<l.length->jq enc (l.set n a)=(jq enc l).take (n*s)++(enc a).cells++(jq enc l).drop (n*s+s)
 | [],n,h=>by simp at h
 | x::l,0,h=>by
  simp only [au,jq,List.flatMap_cons,Nat.zero_mul,List.take_zero,bm,a8];rw [<-hs x,List.drop_left]
 | x::l,n+1,h=>by
  have ih:=jaW hs a l n (by simpa using h);simp only [aq,jq,List.flatMap_cons] at ih ⊢;have e1:(n+1)*s=(enc x).cells.length+n*s:=by rw [hs,Nat.add_mul]; omega
  have e2:(n+1)*s+s=(enc x).cells.length+(n*s+s):=by omega
  rw [ih,e2,e1,List.take_length_add_append,List.drop_length_add_append];simp [List.append_assoc]
theorem ju {S:Store} (hwf:S.Wf) {o:Nat} {c} (h:S.get o=some c):o<S.nx:=by
 rcases bt o S.nx with h' | h'
 .exact h'
 .rw [hwf.gone o h'] at h; cases h
theorem ad8 (S:Store) (e:Ss.Env) (f:Ss.Fn) (nearV:V) (pc ck od:Nat) (ds:List Ss.Def) (l:List Int) (block pos:Int) (hl:l.length<2^63) (hn:ds.length<2^40) (hp:S.get pc=some (1,[.ptr ck 0]))
  (hc:S.get ck=some (11,ckC e f (.slice od 0 ds.length) nearV)) (hd:S.get od=some (3,jq qL ds)) (h1:pc≠od) (h2:ck≠od) :
  b9 103 ([vl cj l,cj block,cj pos]++[.ptr pc 0]) S (fun r T => ∃ ds',ds'.length=ds.length/\r = .bool (Ss.put block pos ds l).isSome/\(∀ d,Ss.put block pos ds l=some d->ds'=d)/\T=S.upd od (3,jq qL ds')):=by
 obtain ⟨⟨fi,fo⟩,ts,bs⟩:=f;obtain ⟨sg,im,gl,mu,me⟩:=e;refine b7 Tryz.func103 Tryz.ntmps103 fun hwf=>?_
 have hpn:=ju hwf hp;have hcn:=ju hwf hc;have hdn:=ju hwf hd;have op:=fun u l => @jk S u l pc hpn
 have oc:=fun u l => @jk S u l ck hcn
 have od':=fun u l => @jk S u l od hdn
 have hupd:=fun u l c => @qS S u l c od hdn
 have fin : ∀ (X:Bool) (d:List Ss.Def),d.length=ds.length->(Ss.put block pos ds l).isSome=X->(∀ d',Ss.put block pos ds l=some d'->d=d') -> ∀ r:V,r = .bool X ->
   Jb S.nx (fun r T => ∃ ds',ds'.length=ds.length/\r = .bool (Ss.put block pos ds l).isSome/\(∀ d,Ss.put block pos ds l=some d->ds'=d)/\T=S.upd od (3,jq qL ds')) r (St S [(od,some (3,jq qL d))] []):=by
  intro X d k1 k2 k3 r k4;refine Ka (X := .bool X) (S':=S.upd od (3,jq qL d)) hwf k4 rfl (by simp [Km,jbz,KD zC]) ?_ ⟨d,k1,by rw [k2],k3,rfl⟩;simp only [gcU,gcE,bj,KC zC];exact jdq hwf hdn
 rw [Kd hd]
 refine bz ?_
 refine bX [1,2,3,10,11,12] (fun c σ S' => ∃ (k:Nat) (d:List Ss.Def),k<=l.length/\c=l.length-k/\d.length=ds.length/\Ss.put block pos d (l.drop k)=Ss.put block pos ds l/\σ=[(1,cj block),(2,cj pos),(3, .ptr pc 0),(10,vl cj l),(11,cu l.length),(12,cu k)]/\S'=St S [(od,some (3,jq qL d))] []) l.length ?_ ?_
 .exact ⟨0,ds,by omega,rfl,rfl,rfl,by simp [Fr.oy],rfl⟩
 .rintro c σ T ⟨k,d,hk,rfl,hdl,hpd,rfl,rfl⟩
  by_cases hkt:k<l.length
  .have hw:=jg hkt hl;have hst:Ss.put block pos d (l.drop k)=if l[k]<0\/(d.length:Int)<=l[k]\/(d.getD l[k].toNat default).made=true then none else Ss.put block pos (d.set l[k].toNat ⟨true,block,pos⟩) (l.drop (k+1)):=by rw [am hkt,Ss.put]
   obtain ⟨v,hx⟩ : ∃ v,l[k]=v:=⟨_,rfl⟩
   rw [hx] at hst;have bad:(v<0\/(d.length:Int)<=v\/(d.getD v.toNat default).made=true)->Ss.put block pos ds l=none:=fun hb=>by rw [<-hpd,hst,if_pos hb]
   by_cases q1:v<0
   .refine bG hkt hx q1 ?_
    have hb:=bad (.inl q1);exact fin false d hdl (by rw [hb]; rfl) (by rw [hb]; simp) _ (by simp)
   obtain ⟨n,rfl⟩ : ∃ n:Nat,v=n:=⟨v.toNat,by omega⟩
   by_cases q2:n<d.length
   case neg =>
    have q2':(ds.length:Int)<=(n:Int):=by omega
    have hb:=bad (.inr (.inl (by omega)))
    repeat first|refine QG ?_|refine QY ?_ (r:=by conv=>lhs;simp[QV,hkt,hx,q1,q2,q2',op,oc,od',hp,hc,h1,h2])
    exact fin false d hdl (by rw [hb]; rfl) (by rw [hb]; simp) _ (by simp)
   have q2' : ¬ (ds.length:Int)<=(n:Int):=by omega
   obtain ⟨⟨dm,db,dp⟩,hdx⟩ : ∃ x,d[n]=x:=⟨_,rfl⟩
   have hdg:d.getD (n:Int).toNat default=⟨dm,db,dp⟩:=by simp [q2,hdx]
   have hcell:(jq qL d)[n*3]? = some (.bool dm):=WZ (enc:=qL) (s:=3) (fun _=>rfl) d n 0 ⟨dm,db,dp⟩ (.bool dm) (by rw [<-hdx]; exact ac q2) rfl;have hfl:(jq qL d).length=d.length*3:=JK (enc:=qL) (s:=3) (fun _=>rfl) d;have hn2:n<ds.length:=by omega
   by_cases q3:dm=true
   .have hb:=bad (.inr (.inr (by rw [hdg]; exact q3)))
    repeat first|refine QG ?_|refine QY ?_ (r:=by conv=>lhs;simp[QV,hkt,hx,q1,q2,q2',op,oc,od',hp,hc,h1,h2,hcell,hn2,q3])
    exact fin false d hdl (by rw [hb]; rfl) (by rw [hb]; simp) _ (by simp)
   .have q3':dm=false:=by simpa using q3
    have hfit:n*3+3<=(jq qL d).length:=by omega
    rw [if_neg (by rw [hdg]; rintro (h | h | h)<;>first | exact q1 h | exact q3 h | omega)] at hst;have hfs:=jaW (enc:=qL) (s:=3) (fun _=>rfl) ⟨true,block,pos⟩ d n q2
    repeat first|refine QG ?_|refine QY ?_ (r:=by conv=>lhs;simp[QV,hkt,hx,q1,q2,q2',op,oc,od',hp,hc,h1,h2,hcell,hn2,q3',hfit,hupd])
    show jx _ _ _ _ _ _ _;exact again ⟨ao hkt (aW k),k+1,d.set n ⟨true,block,pos⟩,hkt,rfl,by simp [hdl],by rw [<-hpd,hst]; rfl,by simp [Fr.oy,hw],by rw [hfs]; simp [afd]⟩
  .have e1:l.drop k=[]:=by rw [aH]; omega
   rw [e1] at hpd;have hpe:Ss.put block pos ds l=some d:=by rw [<-hpd]; rfl
   refine bD hkt ?_
   exact fin true d hdl (by rw [hpe]; rfl) (by rw [hpe]; simp) _ (by simp)
theorem WM {i:Nat} {ds:List Ss.Def} {bs:List Ss.Block} (h:i<bs.length):Ss.cI i ds (bs.drop i)=((Ss.put i (-1) ds bs[i].params).bind fun d=>Ss.putCode i 0 d bs[i].code).bind fun d=>Ss.cI (i+1) d (bs.drop (i+1)):=by
 rw [am h,Ss.cI]
theorem aim {i:Int} {k:Nat} {ds:List Ss.Def} {l:List Ss.Ins} (h:k<l.length):Ss.putCode i k ds (l.drop k)=(Ss.put i k ds l[k].outs).bind fun d=>Ss.putCode i (k+1) d (l.drop (k+1)):=by
 rw [am h,Ss.putCode]
theorem alz (n:Nat):(List.replicate n [V.bool false, .int .i64 0, .int .i64 0]).flatten=jq qL (List.replicate n ⟨false,0,0⟩):=by
 induction n with
 | zero=>rfl
 | succ n ih=>rw [List.replicate_succ,List.replicate_succ,List.flatten_cons,ih]; rfl
theorem qN (f:Nat->Nat) (l:List Ss.Def):V.renL f (jq qL l)=jq qL l:=KC zC f l
theorem qP (p:Nat->Bool) (l:List Ss.Def):V.idsL p (jq qL l)=true:=KD zC p l
theorem arf (S:Store) (e:Ss.Env) (f:Ss.Fn) (ck:Nat) (hf:f.Fits) (hts:f.types.length<=1048576) (hc:S.get ck=some (11,ckC e f .nils .nils)) :
  b9 69 [.ptr ck 0] S (fun r T => ∃ ds',ds'.length=f.types.length/\r = .bool (Ss.defsOf f).isSome/\(∀ d,Ss.defsOf f=some d->ds'=d)/\T=St S [(ck,some (11,ckC e f (.slice (lid S.nx 0) 0 f.types.length) .nils))] [some (3,jq qL ds')]):=by
 obtain ⟨_,_,⟨hbl0,hbf⟩⟩:=hf;obtain ⟨⟨fi,fo⟩,ts,bs⟩:=f;obtain ⟨sg,im,gl,mu,me⟩:=e;simp only at hts hbl0 hbf hc ⊢;have hbl:bs.length<2^63:=by omega
 generalize hD:Ss.defsOf ⟨⟨fi,fo⟩,ts,bs⟩=D;refine b7 Tryz.func69 Tryz.ntmps69 fun hwf=>?_
 have hcn:=ju hwf hc;have oc:=fun u l => @jk S u l ck hcn
 have hupd:=fun u l c => @qS S u l c ck hcn
 have gp:=fun ks=>qW (n:=S.nx) ks hcn
 have gt:=fun ks=>qu (n:=S.nx) ks hcn
 have hb24:ts.length*24<=140737488355328:=by omega
 have hb0:ts.length<=140737488355328:=by omega
 rw [Kd hc];refine QY ?_;refine bZ (St S [(ck,none)] [some (1,[.ptr ck 0])]) (St S [(ck,some (11,ckC ⟨sg,im,gl,mu,me⟩ ⟨⟨fi,fo⟩,ts,bs⟩ .nils .nils))] [some (1,[.ptr ck 0])]) [13] ?_ (r:=by conv=>lhs; simp [QV,oc,hc]);refine QI ?_ (r:=by conv=>lhs;simp[QV,hb24,hb0]);refine bK oc hc ?_;refine QI ?_ (r:=by conv=>lhs;simp[QV,oc,hc,hupd]);refine QN ?_;have hr0:rep0 [V.bool false, .int .i64 0, .int .i64 0] ts.length=jq qL (List.replicate ts.length ⟨false,0,0⟩):=alz _
 refine bF oc hupd ?_
 refine bX [3,23,24,25] (fun c σ S' => ∃ (k:Nat) (d:List Ss.Def),k<=bs.length/\c=bs.length-k/\d.length=ts.length/\Ss.cI k d (bs.drop k)=D/\σ=[(3, .func 103 [.ptr (lid S.nx 0) 0]),(23,vl je bs),(24,cu bs.length),(25,cu k)]/\S'=St S [(ck,some (11,ckC ⟨sg,im,gl,mu,me⟩ ⟨⟨fi,fo⟩,ts,bs⟩ (.slice (lid S.nx 1) 0 ts.length) .nils))] [some (1,[.ptr ck 0]),some (3,jq qL d)]) bs.length ?_ ?_
 .exact ⟨0,List.replicate ts.length ⟨false,0,0⟩,by omega,rfl,by simp,by rw [<-hD]; rfl,by simp [Fr.oy],by simp [hr0]⟩
 .rintro c σ T ⟨k,d,hk,rfl,hdl,hpd,rfl,rfl⟩
  by_cases hkt:k<bs.length
  .have hw:=jg hkt hbl;have hst:=WM (ds:=d) hkt;have hbk:=hbf _ (ah hkt);obtain ⟨⟨ps,code,⟨tk,ta,to,az⟩⟩,hx⟩ : ∃ b,bs[k]=b:=⟨_,rfl⟩
   rw [hx] at hst hbk;obtain ⟨⟨hpl,_⟩,⟨hcl,hcf⟩,_⟩:=hbk;simp only at hst hpl hcl hcf
   refine bF hkt hx ?_
   refine bQ hkt hx ?_;refine zH rfl rfl rfl (ad8 _ ⟨sg,im,gl,mu,me⟩ ⟨⟨fi,fo⟩,ts,bs⟩ .nils (lid S.nx 0) ck (lid S.nx 1) d ps k (-1) (by omega) (by omega) (by simp) (by rw [oc]; simp [uGet,hdl]) (by simp) (by simp [lid]) (by simp [lid]; omega)) ?_;rintro X S2 ⟨d1,hd1,rfl,hp1,rfl⟩;rw [JM (by simp)];simp only [aq,au];obtain ⟨z,hz⟩ : ∃ z,(Ss.put k (-1) d ps).isSome=z:=⟨_,rfl⟩
   rw [hz]
   by_cases hz1:z=true
   case neg =>
    have hz2:z=false:=by simpa using hz1
    have hD2:D=none:=by
     rw [<-hpd,hst];have:Ss.put k (-1) d ps=none:=by rw [hz2] at hz; simpa using hz
     rw [this]; rfl
    refine bJ hz2 ?_;refine QN ?_;refine QO [35] ?_;refine Yq [1] hwf (by decide) (by simp [qP,gp]) (by conv=>lhs; simp) (by conv=>lhs; simp [qN,gt]) (by conv=>lhs; simp) ?_
    refine bz ?_
    exact zM ⟨d1,by omega,by simp [hD2],by simp [hD2],by simp⟩
   obtain ⟨d2,hq1⟩ : ∃ d2,Ss.put k (-1) d ps=some d2:=by rw [hz1] at hz; exact Option.isSome_iff_exists.1 hz
   obtain rfl:=hp1 _ hq1;rw [hq1] at hst;have hst1:Ss.cI k d (bs.drop k)=(Ss.putCode k 0 d1 code).bind fun d=>Ss.cI (k+1) d (bs.drop (k+1)):=hst
   refine bJ hz1 ?_;refine bW ?_
   refine QO [3,4,23,24,25,37,38,39] ?_;refine Yq [0,1] hwf (by decide) (by simp [qP,gp]) (by conv=>lhs; simp) (by conv=>lhs; simp [qN,gt]) (by conv=>lhs; simp) ?_;refine bX [3,4,23,24,25,37,38,39] (fun c σ S' => ∃ (j:Nat) (d:List Ss.Def),j<=code.length/\c=code.length-j/\d.length=ts.length/\Ss.putCode k j d (code.drop j)=Ss.putCode k 0 d1 code/\σ=[(3, .func 103 [.ptr (lid S.nx 0) 0]),(4,cu k),(23,vl je bs),(24,cu bs.length),(25,cu k),(37,vl js code),(38,cu code.length),(39,cu j)]/\S'=St S [(ck,some (11,ckC ⟨sg,im,gl,mu,me⟩ ⟨⟨fi,fo⟩,ts,bs⟩ (.slice (lid S.nx 1) 0 ts.length) .nils))] [some (1,[.ptr ck 0]),some (3,jq qL d)]) code.length ?_ ?_
   .exact ⟨0,d1,by omega,rfl,by omega,rfl,by simp [Fr.oy],by simp⟩
   .rintro c σ T ⟨j,d3,hj,rfl,hdl3,hpc,rfl,rfl⟩
    by_cases hjt:j<code.length
    .have hwj:=jg hjt (by omega);have hsc:=aim (i:=k) (ds:=d3) hjt;have hif:=hcf _ (ah hjt);obtain ⟨⟨xo,xn,xa,xu⟩,hx2⟩ : ∃ b,code[j]=b:=⟨_,rfl⟩
     rw [hx2] at hsc hif;obtain ⟨_,_,_,⟨hul,_⟩⟩:=hif;simp only at hsc hul
     refine bF hjt hx2 ?_
     refine bQ hjt hx2 ?_;refine zH rfl rfl rfl (ad8 _ ⟨sg,im,gl,mu,me⟩ ⟨⟨fi,fo⟩,ts,bs⟩ .nils (lid S.nx 0) ck (lid S.nx 1) d3 xu k j (by omega) (by omega) (by simp) (by rw [oc]; simp [uGet,hdl3]) (by simp) (by simp [lid]) (by simp [lid]; omega)) ?_;rintro X S2 ⟨d4,hd4,rfl,hp4,rfl⟩;rw [JM (by simp)];simp only [aq,au];obtain ⟨z2,hz2⟩ : ∃ z,(Ss.put k j d3 xu).isSome=z:=⟨_,rfl⟩
     rw [hz2]
     by_cases hz3:z2=true
     case neg =>
      have hz4:z2=false:=by simpa using hz3
      have hD2:D=none:=by
       have:Ss.put k j d3 xu=none:=by rw [hz4] at hz2; simpa using hz2
       rw [<-hpd,hst1, <-hpc,hsc,this]; rfl
      refine bJ hz4 ?_;refine QN ?_;refine QO [50] ?_;refine Yq [1] hwf (by decide) (by simp [qP,gp]) (by conv=>lhs; simp) (by conv=>lhs; simp [qN,gt]) (by conv=>lhs; simp) ?_
      refine bz ?_
      exact zM ⟨d4,by omega,by simp [hD2],by simp [hD2],by simp⟩
     obtain ⟨d5,hq5⟩ : ∃ d5,Ss.put k j d3 xu=some d5:=by rw [hz3] at hz2; exact Option.isSome_iff_exists.1 hz2
     obtain rfl:=hp4 _ hq5;rw [hq5] at hsc;have hsc1:Ss.putCode k j d3 (code.drop j)=Ss.putCode k (j+1) d4 (code.drop (j+1)):=hsc;refine bJ hz3 ?_;refine bW ?_
     refine qh [0,1] (by conv=>lhs; simp [Fr.oy]) hwf (by decide) (by simp [qN,qP,gp,gt]) (by conv=>lhs; simp [qN,qP,gp,gt]) (by conv=>lhs; simp [qN,qP,gp,gt]) (by conv=>lhs; simp [qN,qP,gp,gt]) ⟨?_,j+1,d4,hjt,rfl,by omega,by rw [<-hpc,hsc1],by simp [hwj],by simp⟩;omega
    .have e1:code.drop j=[]:=by rw [aH]; omega
     rw [e1] at hpc;have hpc1:Ss.putCode k 0 d1 code=some d3:=by rw [<-hpc]; rfl
     rw [hpc1] at hst1
     refine bD hjt ?_
     refine qh [0,1] (by conv=>lhs; simp [Fr.oy]) hwf (by decide) (by simp [qN,qP,gp,gt]) (by conv=>lhs; simp [qN,qP,gp,gt]) (by conv=>lhs; simp [qN,qP,gp,gt]) (by conv=>lhs; simp [qN,qP,gp,gt]) ⟨?_,k+1,d3,hkt,rfl,by omega,by rw [<-hpd,hst1]; rfl,by simp [hw],by simp⟩;omega
  .have e1:bs.drop k=[]:=by rw [aH]; omega
   rw [e1] at hpd;have hD2:D=some d:=by rw [<-hpd]; rfl
   refine bR hkt ?_;refine QT ?_;refine jD rfl rfl rfl ?_;refine QT ?_;refine jP 0 rfl rfl ?_;refine QO [25] ?_;refine Yq [1] hwf (by decide) (by simp [qP,gp]) (by conv=>lhs; simp) (by conv=>lhs; simp [qN,gt]) (by conv=>lhs; simp) ?_
   refine bz ?_
   exact zM ⟨d,hdl,by simp [hD2],by simp [hD2],by simp⟩
theorem am9 (x:Ss.Ins):b8 132 ([js x]++[]) (.bool (decide (x.op=258))):=by
 intro S;obtain ⟨o,n,a,u⟩:=x;refine b7 Tryz.func132 Tryz.ntmps132 fun hwf=>?_
 refine bz ?_
 exact ja hwf (by simp) rfl
theorem ayx (l:List Ss.Ins) (hl:l.length<2^63):b8 131 [vl js l, .func 132 []] (.bool (l.any fun x=>decide (x.op=258))) :=
 axf l (fun x=>decide (x.op=258)) _ [] rfl hl (fun x _=>am9 x)
theorem auf (f:Ss.Fn) (g:List (List Nat)) (hgl:g.length=f.blocks.length) (hgb:g.length<2^62) (hrow : ∀ r∈g,r.length<2^62 /\ ∀ k∈r,k<g.length) (hcode : ∀ b∈f.blocks,b.code.length<2^63) :
  ∀ (fuel n:Nat) (st:List Nat) (r:Bool) (s:List Nat) (S:Store) (ps os pw:Nat),n<g.length->st.length=g.length->S.get ps=some (1,[.slice os 0 g.length])->S.get os=some (1,st.map cu) ->
   S.get pw=some (1,[.func 130 [.ref (jM f), .ptr ps 0, .ref (vl (vl cu) g), .ptr pw 0]])->ps≠os->pw≠os->Ss.ringW (f.blocks.map Ss.tickB) g fuel n st=some (r,s) ->
   b9 130 [cu n, .ref (jM f), .ptr ps 0, .ref (vl (vl cu) g), .ptr pw 0] S (fun x T=>x = .bool r/\T=S.upd os (1,s.map cu)):=by
 intro fuel
 induction fuel with
 | zero=>intro n st r s S ps os pw _ _ _ _ _ _ _ h; rw [Ss.ringW] at h; cases h
 | succ fuel ih =>
  intro n st r s S ps os pw hn hsl hps hos hpw h1 h2 hr;obtain ⟨⟨fi,fo⟩,ts,bs⟩:=f;simp only at hgl hcode hr;have hnb:n<bs.length:=by omega
  have hns:n<st.length:=by omega
  have hct:=ayx _ (hcode _ (ah hnb));obtain ⟨⟨bp,bc,⟨tk,ta,to,az⟩⟩,hx⟩ : ∃ b,bs[n]=b:=⟨_,rfl⟩
  have htk:(bs.map Ss.tickB).getD n false=bc.any fun x=>decide (x.op=258):=by simp [hnb,hx,Ss.tickB]
  rw [hx] at hct;simp only at hct;rw [Ss.ringW,htk] at hr;generalize (bc.any fun x=>decide (x.op=258))=tb at *
  refine b7 Tryz.func130 Tryz.ntmps130 fun hwf=>?_
  have psn:=ju hwf hps;have osn:=ju hwf hos;have pwn:=ju hwf hpw;have ops:=fun u l => @jk S u l ps psn
  have oos:=fun u l => @jk S u l os osn
  have opw:=fun u l => @jk S u l pw pwn
  have hupd:=fun u l c => @qS S u l c os osn
  rw [Kd hos];have fin : ∀ (b:Bool) (d:List Nat) (v:V),v = .bool b->r=b->s=d->Jb S.nx (fun x T=>x = .bool r/\T=S.upd os (1,s.map cu)) v (St S [(os,some (1,d.map cu))] []):=by
   rintro b d v rfl rfl rfl;refine Ka (X := .bool r) (S':=S.upd os (1,s.map cu)) hwf rfl rfl (by simp [Km,jbz,jaU]) ?_ ⟨rfl,rfl⟩;simp only [gcU,gcE,bj,jay];exact jdq hwf osn
  refine QY ?_;refine bQ hnb hx ?_;refine QL (hct) ?_
  by_cases ht:tb=true
  .rw [if_pos ht] at hr
   cases hr
   refine bJ ht ?_;refine bW ?_
   exact fin _ _ _ (by simp) rfl rfl
  have ht':tb=false:=by simpa using ht
  rw [if_neg ht] at hr;have hgd:g.getD n []=g[n]:=by simp [hn]
  rw [hgd] at hr;obtain ⟨hrl,hrk⟩:=hrow _ (ah hn);obtain ⟨row,hrow'⟩ : ∃ row,g[n]=row:=⟨_,rfl⟩
  rw [hrow'] at hr hrl hrk;refine bJ ht' ?_;refine QN ?_
  repeat first|refine QG ?_|refine QY ?_ (r:=by conv=>lhs;simp[QV,ops,oos,opw,hps,hos,hpw,h1,h2,hn,hns,hupd,hrow'])
  obtain ⟨q,hq⟩ : ∃ q,Ss.ringL (bs.map Ss.tickB) g fuel row (st.set n 1)=some q:=by
   cases hz:Ss.ringL (bs.map Ss.tickB) g fuel row (st.set n 1) with
   | none=>rw [hz] at hr; cases hr
   | some q=>exact ⟨q,rfl⟩
  rw [hq] at hr;refine bX [0,2,4,22,23,24] (fun c σ S' => ∃ (k:Nat) (d:List Nat),k<=row.length/\c=row.length-k/\d.length=g.length/\Ss.ringL (bs.map Ss.tickB) g fuel (row.drop k) d=some q/\σ=[(0,cu n),(2, .ptr ps 0),(4, .ptr pw 0),(22,vl cu row),(23,cu row.length),(24,cu k)]/\S'=St S [(os,some (1,d.map cu))] []) row.length ?_ ?_
  .exact ⟨0,st.set n 1,by omega,rfl,by simpa using hsl,hq,by simp [Fr.oy],by simp [List.map_set]⟩
  .rintro c σ T ⟨k,d,hk,rfl,hdl,hql,rfl,rfl⟩
   by_cases hkt:k<row.length
   .have hw:=jg hkt (by omega);rw [am hkt,Ss.ringL] at hql;have hkk:=hrk _ (ah hkt);obtain ⟨m,hm⟩ : ∃ m,row[k]=m:=⟨_,rfl⟩
    rw [hm] at hql hkk;have hmd:m<d.length:=by omega
    obtain ⟨x,hxd⟩ : ∃ x,d[m]=x:=⟨_,rfl⟩
    have hgd2:d.getD m 0=x:=by simp [hmd,hxd]
    rw [hgd2] at hql
    by_cases x1:x=1
    .rw [if_pos x1] at hql
     cases hql
     simp only at hr
     cases hr
     repeat first|refine QG ?_|refine QY ?_ (r:=by conv=>lhs;simp[QV,hkt,hm,ops,oos,hps,hos,h1,hkk,hmd,hxd,x1])
     exact fin _ _ _ (by simp) rfl rfl
    have x1' : ¬ (x:Int)=1:=by omega
    rw [if_neg x1] at hql
    by_cases x0:x=0
    .rw [if_pos x0] at hql;obtain ⟨⟨b2,s2⟩,hw2⟩ : ∃ p,Ss.ringW (bs.map Ss.tickB) g fuel m d=some p:=by
      cases hz:Ss.ringW (bs.map Ss.tickB) g fuel m d with
      | none=>rw [hz] at hql; cases hql
      | some q=>exact ⟨q,rfl⟩
     rw [hw2] at hql;have hs2:=Ss.aax _ _ _ _ _ hw2;have x0':(x:Int)=0:=by omega
     repeat first|refine QG ?_|refine QY ?_ (r:=by conv=>lhs;simp[QV,hkt,hm,ops,oos,hps,hos,h1,hkk,hmd,hxd,x1,x1',x0,x0'])
     refine QP ?_ (r:=by conv=>lhs;simp[QV,hkt,hm,ops,oos,opw,hps,hos,hpw,h1,h2,hkk,hmd,hxd,x1,x1',x0,x0']);refine zH rfl rfl rfl (ih m d b2 s2 _ ps os pw hkk hdl (by rw [ops]; simp [uGet,h1,hps]) (by rw [oos]; simp [uGet]) (by rw [opw]; simp [uGet,h2,hpw]) h1 h2 hw2) ?_;rintro X S2 ⟨rfl,rfl⟩;rw [hupd];simp only [uSet,if_true]
     by_cases hb2:b2=true
     .rw [hb2] at hql;simp only at hql
      cases hql
      simp only at hr
      cases hr
      refine bJ hb2 ?_;refine bW ?_
      exact fin _ _ _ (by simp) rfl rfl
     .have hb2':b2=false:=by simpa using hb2
      rw [hb2'] at hql;simp only at hql;refine bJ hb2' ?_;refine bW ?_
      show jx _ _ _ _ _ _ _;exact again ⟨ao hkt (aW k),k+1,s2,hkt,rfl,by omega,hql,by simp [Fr.oy,hw],rfl⟩
    .rw [if_neg x0] at hql;have x0' : ¬ (x:Int)=0:=by omega
     repeat first|refine QG ?_|refine QY ?_ (r:=by conv=>lhs;simp[QV,hkt,hm,ops,oos,hps,hos,h1,hkk,hmd,hxd,x1,x1',x0,x0'])
     show jx _ _ _ _ _ _ _;exact again ⟨ao hkt (aW k),k+1,d,hkt,rfl,hdl,hql,by simp [Fr.oy,hw],rfl⟩
   .have e1:row.drop k=[]:=by rw [aH]; omega
    rw [e1,Ss.ringL] at hql
    cases hql
    simp only at hr
    cases hr
    have hnd:n<d.length:=by omega
    have e2:(d.map cu).set n (.int .i64 2)=(d.set n 2).map cu:=by simp [List.map_set,cu]
    repeat first|refine QG ?_|refine QY ?_ (r:=by conv=>lhs;simp[QV,hkt,ops,oos,hps,hos,h1,hn,hnd,hupd])
    rw [e2];exact fin _ _ _ (by simp) rfl rfl
theorem WK (f:Nat->Nat) (n:Nat) (k:IntKind) (x:Int):V.renL f (List.replicate n (V.int k x))=List.replicate n (V.int k x):=by
 rw [qi]; simp [V.ren]
theorem WW (p:Nat->Bool) (n:Nat) (k:IntKind) (x:Int):V.idsL p (List.replicate n (V.int k x))=true:=by
 rw [qF]; simp [V.ids]
theorem awh (f:Ss.Fn) (g:List (List Nat)) (hgl:g.length=f.blocks.length) (hgb:g.length<=4096) (hrow : ∀ r∈g,r.length<2^62 /\ ∀ k∈r,k<g.length) (hcode : ∀ b∈f.blocks,b.code.length<2^63) :
  b8 105 [jM f,vl (vl cu) g] (.bool (Ss.rings f.blocks g)):=by
 intro S;have hg0 : ∀ n, ∀ k∈g.getD n [],k<g.length:=by
  intro n k hk
  by_cases h:n<g.length
  .rw [ag,ac h] at hk;exact (hrow _ (ah h)).2 k hk
  .rw [ag,aJ (by omega)] at hk;simp at hk
 obtain ⟨q,hq⟩:=Ss.abc (tick:=f.blocks.map Ss.tickB) (fuel:=g.length+1) hg0 (by omega) (List.range g.length) (List.replicate g.length 0) (by simp) (by simp);have hX:Ss.rings f.blocks g=q:=by simp [Ss.rings,hq]
 rw [hX];have cw:=auf f g hgl (by omega) hrow hcode;obtain ⟨⟨fi,fo⟩,ts,bs⟩:=f;simp only at hq cw;have hb8:g.length*8<=140737488355328:=by omega
 have hb0:g.length<=140737488355328:=by omega
 refine b7 Tryz.func105 Tryz.ntmps105 fun hwf=>?_
 refine QY ?_;refine QH 2 0 ?_;refine jy 3 rfl ((acr (k:=1) (by simp) (by rfl) (by rfl))) (by conv=>lhs; simp [Fr.set]) ?_;simp only [aq,au]
 refine bF hb8 hb0 ?_
 refine QO [5,6,13,14] ?_;refine Yq [2,3,4] hwf (by decide) (by simp [WW,WK]) (by conv=>lhs; simp [WW,WK]) (by conv=>lhs; simp [WW,WK]) (by conv=>lhs; simp [WW,WK]) ?_;refine bX [5,6,13,14] (fun c σ S' => ∃ (k:Nat) (st:List Nat),k<=g.length/\c=g.length-k/\st.length=g.length/\Ss.ringM (bs.map Ss.tickB) g (g.length+1) ((List.range g.length).drop k) st=some q/\σ=[(5, .ptr (lid S.nx 1) 0),(6, .ptr (lid S.nx 2) 0),(13,cu g.length),(14,cu k)]/\S'=St S [] [some (1,st.map cu),some (1,[.slice (lid S.nx 0) 0 g.length]),some (1,[.func 130 [.ref (.agg [vl cj fi,vl cj fo,vl cj ts,vl je bs]), .ptr (lid S.nx 1) 0, .ref (vl (vl cu) g), .ptr (lid S.nx 2) 0]])]) g.length ?_ ?_
 .exact ⟨0,List.replicate g.length 0,by omega,rfl,by simp,hq,by simp [Fr.oy],by simp [cu]⟩
 .rintro c σ T ⟨k,st,hk,rfl,hsl,hm,rfl,rfl⟩
  by_cases hkt:k<g.length
  .have hw:=jg hkt (by omega);rw [am (by simpa using hkt),List.getElem_range,Ss.ringM] at hm;have hks:k<st.length:=by omega
   obtain ⟨x,hx⟩ : ∃ x,st[k]=x:=⟨_,rfl⟩
   have hgd:st.getD k 0=x:=by simp [hks,hx]
   rw [hgd] at hm
   by_cases x0:x=0
   .rw [if_pos x0] at hm;have x0':(x:Int)=0:=by omega
    obtain ⟨⟨b,s⟩,hwk⟩ : ∃ p,Ss.ringW (bs.map Ss.tickB) g (g.length+1) k st=some p:=by
     cases hz:Ss.ringW (bs.map Ss.tickB) g (g.length+1) k st with
     | none=>rw [hz] at hm; cases hm
     | some p=>exact ⟨p,rfl⟩
    rw [hwk] at hm;have hs2:=Ss.aax _ _ _ _ _ hwk
    refine bO hkt hks hx x0 x0' ?_
    refine QP ?_ (r:=by conv=>lhs;simp[QV,hkt,hks,hx,x0,x0']);refine zH rfl rfl rfl (cw (g.length+1) k st b s _ (lid S.nx 1) (lid S.nx 0) (lid S.nx 2) hkt hsl (by simp) (by simp) (by simp) (by simp [lid]) (by simp [lid]) hwk) ?_;rintro X S2 ⟨rfl,rfl⟩;rw [JM (by simp)];simp only [aq,au]
    by_cases hb:b=true
    .rw [hb] at hm;simp only [ay] at hm;refine bJ hb ?_;refine bW ?_
     exact ja hwf (by simp [<-hm]) rfl
    .have hb':b=false:=by simpa using hb
     rw [hb'] at hm;simp only at hm;refine bJ hb' ?_;refine bW ?_
     show jx _ _ _ _ _ _ _;exact again ⟨ao hkt (aW k),k+1,s,hkt,rfl,by omega,hm,by simp [Fr.oy,hw],rfl⟩
   .rw [if_neg x0] at hm;have x0' : ¬ (x:Int)=0:=by omega
    refine bO hkt hks hx x0 x0' ?_
    show jx _ _ _ _ _ _ _;exact again ⟨ao hkt (aW k),k+1,st,hkt,rfl,hsl,hm,by simp [Fr.oy,hw],rfl⟩
  .have e1:(List.range g.length).drop k=[]:=by rw [aH]; simp; omega
   rw [e1,Ss.ringM] at hm
   cases hm
   refine bD hkt ?_
   exact bS
theorem aj5 {α:Type} [DecidableEq α] (l m:List α):eqF (fun x y=>decide (x=y)) l m=decide (l=m):=anh (fun _ _=>rfl) l m
theorem ajz (l m:List Int) (hl:l.length<2^63):b8 106 [vl cj l,vl cj m] (.bool (decide (l=m))):=by
 intro S;rw [<-aj5];generalize hp:(fun x y:Int=>decide (x=y))=p
 by_cases hlm:l.length=m.length
 .have hlm':(l.length:Int)=(m.length:Int):=by omega
  refine b7 Tryz.func106 Tryz.ntmps106 fun hwf=>?_
  refine bF hlm hlm' ?_
  refine bX [0,1,12,13] (fun c σ S' => ∃ (k:Nat),k<=l.length/\c=l.length-k/\eqF p (l.drop k) (m.drop k)=eqF p l m/\σ=[(0,vl cj l),(1,vl cj m),(12,cu m.length),(13,cu k)]/\S'=St S [] []) l.length ?_ ?_
  .exact ⟨0,by omega,rfl,rfl,by simp [Fr.oy,hlm],rfl⟩
  .rintro c σ T ⟨k,hk,rfl,hd,rfl,rfl⟩
   by_cases hkt:k<l.length
   .have hkm:k<m.length:=by omega
    have hw:=jg hkt hl;have hst:eqF p (l.drop k) (m.drop k)=(p l[k] m[k]&&eqF p (l.drop (k+1)) (m.drop (k+1))):=by rw [am hkt,am hkm,eqF]
    obtain ⟨x,hx⟩ : ∃ x,l[k]=x:=⟨_,rfl⟩
    obtain ⟨y,hy⟩ : ∃ y,m[k]=y:=⟨_,rfl⟩
    rw [hx,hy] at hst
    by_cases hxy:x=y
    .rw [show p x y=true by rw [<-hp]; simp [hxy]] at hst
     refine bO hkt hkm hx hy hxy ?_
     show jx _ _ _ _ _ _ _;exact again ⟨ao hkt (aW k),k+1,hkt,rfl,by rw [<-hd,hst]; rfl,by simp [Fr.oy,hw],rfl⟩
    .rw [show p x y=false by rw [<-hp]; simp [hxy]] at hst
     refine bO hkt hkm hx hy hxy ?_
     exact ja hwf (by rw [<-hd,hst]; rfl) rfl
   .have e:l.drop k=[]:=by rw [aH]; omega
    have e':m.drop k=[]:=by rw [aH]; omega
    rw [e,e'] at hd;have hkm : ¬ k<m.length:=by omega
    refine bF hkt hkm ?_
    exact ja hwf (by rw [<-hd]; rfl) rfl
 .have hlm' : ¬ (l.length:Int)=(m.length:Int):=by omega
  have e:eqF p l m=false:=eqF_len hlm;rw [e];refine b7 Tryz.func106 Tryz.ntmps106 fun hwf=>?_
  refine bF hlm hlm' ?_
  exact bS
end Go.Vw
namespace Ss
open Go.Vw in
/-- Are a function's blocks all reached, and is there no circle without a tick? -/
def shapeOk (f:Fn):Bool :=
 G.right (succs f.blocks)&&decide ((G.ordI (succs f.blocks)).length=f.blocks.length) && !rings f.blocks (G.nats (succs f.blocks))&&decide (cv f.types (f.blocks.getD 0 default).params=f.sig.inn) &&
  match (f.blocks.getD 0 default).code with
  | x::_=>decide (x.op=258)
  | []=>false
end Ss
namespace Go.Vw
open Go.Proofs Go.RowKit
attribute [-simp] List.map_set
theorem arv (S:Store) (e:Ss.Env) (f:Ss.Fn) (dv nv:V) (ck:Nat) (l:List Int) (hc:S.get ck=some (11,ckC e f dv nv)) (hl:l.length<=1048576) (hv:Ss.InTs f.types.length l) :
  b9 107 [.ptr ck 0,vl cj l] S (fun r T=>r=vl cj (Ss.cv f.types l)/\T=S):=by
 obtain ⟨⟨fi,fo⟩,ts,bs⟩:=f;simp only at hv ⊢;generalize hg:(fun v:Int=>ts.getD v.toNat 0)=g;have hX:Ss.cv ts l=l.map g:=by rw [Ss.cv,hg]
 rw [hX];refine b7 Tryz.func107 Tryz.ntmps107 fun hwf=>?_
 have hcn:=ju hwf hc;have oc:=fun u l => @jk S u l ck hcn
 have gp:=fun ks=>qW (n:=S.nx) ks hcn
 have gt:=fun ks=>qu (n:=S.nx) ks hcn
 refine QY ?_;refine QY ?_;refine qZ 5 1 rfl (by conv=>lhs; simp [Fr.set]) ?_
 refine bz ?_
 refine bX [0,5,8,9,10] (fun c σ S' => ∃ (k:Nat) (out:List Int),k<=l.length/\c=l.length-k/\out=(l.take k).map g/\out.length=k/\σ=[(0, .ptr ck 0),(5, .slice (lid S.nx 0) 0 k),(8,vl cj l),(9,cu l.length),(10,cu k)]/\S'=St S [] [some (1,out.map cj)]) l.length ?_ ?_
 .exact ⟨0,[],by omega,rfl,by simp,rfl,by simp [Fr.oy],by simp⟩
 .rintro c σ T ⟨k,out,hk,rfl,ho,hlen,rfl,rfl⟩
  by_cases hkt:k<l.length
  .have hw:=jg hkt (by omega);obtain ⟨h0,h1⟩:=hv _ (ah hkt);obtain ⟨v,hx⟩ : ∃ v,l[k]=v:=⟨_,rfl⟩
   rw [hx] at h0 h1;obtain ⟨n,rfl⟩ : ∃ n:Nat,v=n:=⟨v.toNat,by omega⟩
   have hn:n<ts.length:=by omega
   have hgn:g (n:Int)=ts[n]:=by rw [<-hg]; simp [hn]
   have htk:l.take (k+1)=l.take k++[(n:Int)]:=by rw [List.take_add_one,ac hkt,hx]; rfl
   have hb:(k+1)*8<=140737488355328:=by omega
   have hb':k+1<=140737488355328:=by omega
   repeat first|refine QG ?_|refine QY ?_ (r:=by conv=>lhs;simp[QV,hkt,hx,hn,hlen,hb,hb',oc,hc])
   refine qh [2] (by conv=>lhs; simp [Fr.oy]) hwf (by decide) (by simp [gp,gt]) (by conv=>lhs; simp [gp,gt]) (by conv=>lhs; simp [gp,gt]) (by conv=>lhs; simp [gp,gt]) ⟨?_,k+1,out++[ts[n]],hkt,rfl,by rw [htk,List.map_append,ho]; simp [hgn],by simp [hlen],by simp [hw],by simp⟩;omega
  .have hke:k=l.length:=by omega
   subst hke;rw [List.take_length] at ho
   refine bD hkt ?_
   rw [<-ho];exact jf hwf ((frz1 (by simp) (by rfl) (jo cj (fun _=>rfl) _) (by simpa using hlen)).toB _) rfl
theorem al0 {P:Program} {Z:Store} {σ:Fr} {S:Store} {K:Fr->Store->Prop} {d:Option Nat} {f:FuncId} {args:List Arg} {xs:List V} {r:List CO} {X:V} (h:ZA P Z f xs X) (ha:args.map (ev σ)=xs) (H:jI P (some (ZZ.plain Z)) r K (σ.put d X) S):jI P (some (ZZ.plain Z)) (⟨d,none, .call f args⟩::r) K σ S:=by
 rw [Wj,ha];have hw : ¬ wrcL (ZZ.plain Z).es d=true:=by cases d<;>simp [wrcL,ZZ.plain]
 show zU P (some (ZZ.plain Z)) d f xs S _;simp only [zU];rw [if_neg hw];refine ⟨X, ?_,H⟩;have e:(ZZ.plain Z).early d=false:=by cases d<;>simp [ZZ.early,ZZ.plain]
 rw [e];exact h
theorem au3 (S:Store) (e:Ss.Env) (f:Ss.Fn) (ck od:Nat) (hf:f.Fits) (hsm:f.small=true) (hc:S.get ck=some (11,ckC e f (.slice od 0 f.types.length) .nils)) (hod:od<S.nx)
  (hps : ∀ b∈f.blocks,Ss.InTs f.types.length b.params) :
  b9 70 [.ptr ck 0] S (fun r T => ∃ nv:V,nv.cG=true/\r = .bool (Ss.shapeOk f)/\(Ss.shapeOk f=true->nv=vl cj (G.cD (Ss.succs f.blocks)))/\T=S.upd ck (11,ckC e f (.slice od 0 f.types.length) nv)):=by
 have csu:=aom f hf;rw [if_pos hsm] at csu;obtain ⟨hst,hsb,hsf,_⟩:=qn hsm;have hcode : ∀ b∈f.blocks,b.code.length<2^63:=fun b hb=>by have:=(hsf b hb).2.2.2; omega
 have hgf:Fits (Ss.succs f.blocks):=by
  refine ⟨by simp [Ss.succs]; omega,fun l hl => ?_⟩;obtain ⟨b,hb,rfl⟩:=bi.1 hl;have:=(hsf b hb).2.1;simp [Ss.rowOf]; omega
 have hgl:(Ss.succs f.blocks).length=f.blocks.length:=by simp [Ss.succs]
 have co:=ak3 _ hgf;have cn:=KJ _ hgf;have hol:=aqs (Ss.succs f.blocks);have cr:G.right (Ss.succs f.blocks)=true->b8 105 [jM f,vl (vl cj) (Ss.succs f.blocks)] (.bool (Ss.rings f.blocks (G.nats (Ss.succs f.blocks)))):=by
  intro hr;have hok:=G.aag hr;rw [G.aan hr];have hnl:(G.nats (Ss.succs f.blocks)).length=f.blocks.length:=by rw [<-hgl]; simp [G.nats]
  exact awh f _ hnl (by have:=hok.max; omega) (fun r hr'=>⟨by have:=hok.row r hr'; omega,fun k hk=>hok.elt r hr' k hk⟩) hcode
 generalize hsu:Ss.succs f.blocks=g at *
 have hX:Ss.shapeOk f=(G.right g&&decide ((G.ordI g).length=f.blocks.length) && !Ss.rings f.blocks (G.nats g)&&decide (Ss.cv f.types (f.blocks.getD 0 default).params=f.sig.inn) &&
  match (f.blocks.getD 0 default).code with
  | x::_=>decide (x.op=258)
  | []=>false):=by rw [Ss.shapeOk,hsu]
 generalize Ss.shapeOk f=X at *
 generalize hrg:Ss.rings f.blocks (G.nats g)=rg at *
 have hil:f.sig.inn.length<2^63:=by have:=hf.1.1.1; omega
 obtain ⟨⟨fi,fo⟩,ts,bs⟩:=f;simp only at *
 have csu':b8 26 [.agg [vl cj fi,vl cj fo,vl cj ts,vl je bs]] (vl (vl cj) g):=csu;obtain ⟨sg,im,gl,mu,me⟩:=e;refine b7 Tryz.func70 Tryz.ntmps70 fun hwf=>?_
 have hcn:=ju hwf hc;have oc:=fun u l => @jk S u l ck hcn
 have hupd:=fun u l c => @qS S u l c ck hcn
 have gp:=fun ks=>qW (n:=S.nx) ks hod
 have gt:=fun ks=>qu (n:=S.nx) ks hod
 rw [Kd hc];have fin : ∀ (nv:V) (l:List (Option (Nat × List V))) (r:V),nv.cG=true->r = .bool X->(X=true->nv=vl cj (G.cD g)) ->
   Jb S.nx (fun r T => ∃ nv:V,nv.cG=true/\r = .bool X/\(X=true->nv=vl cj (G.cD g))/\T=S.upd ck (11,ckC ⟨sg,im,gl,mu,me⟩ ⟨⟨fi,fo⟩,ts,bs⟩ (.slice od 0 ts.length) nv)) r (St S [(ck,some (11,ckC ⟨sg,im,gl,mu,me⟩ ⟨⟨fi,fo⟩,ts,bs⟩ (.slice od 0 ts.length) nv))] l):=by
  rintro nv l r k1 rfl k2;have e1 : ∀ p,nv.ids p=true:=fun p=>by cases nv<;>first | rfl | (simp [V.cG] at k1; done) | (simp [V.ids]; done)
  have e2 : ∀ q,nv.ren q=nv:=fun q=>by cases nv<;>first | rfl | (simp [V.cG] at k1; done) | (simp [V.ren]; done)
  refine Ka (X := .bool X) (S':=S.upd ck (11,ckC ⟨sg,im,gl,mu,me⟩ ⟨⟨fi,fo⟩,ts,bs⟩ (.slice od 0 ts.length) nv)) hwf rfl rfl (by simp [Km,jbz,e1,gp]) ?_ ⟨nv,k1,rfl,k2,rfl⟩;simp only [gcU,gcE,bj];rw [jdq hwf hcn];simp [e2,gt]
 refine QY ?_;refine bQ oc hc ?_;refine QL (csu') ?_;refine QW ?_;refine QP ?_;refine QL (co) ?_
 by_cases hr:G.right g=true
 case neg =>
  have he:G.err g=1:=by simp [G.err,hr]
  have hX0:X=false:=by rw [hX]; simp [hr]
  refine bJ he ?_;refine QN ?_
  refine bD he ?_
  exact fin .nils _ _ rfl (by simp [hX0]) (by simp [hX0])
 have he:G.err g=0:=by simp [G.err,hr]
 have cr1:=cr hr;have cr':b8 105 [.agg [vl cj fi,vl cj fo,vl cj ts,vl je bs],vl (vl cj) g] (.bool rg):=cr1
 by_cases hl:(G.ordI g).length=g.length
 case neg =>
  have hl' : ¬ ((G.ordI g).length:Int)=(g.length:Int):=by omega
  have hX0:X=false:=by
   rw [hX,show decide ((G.ordI g).length=bs.length)=false by simp; omega]; simp
  refine bJ he ?_;refine QN ?_
  refine bG he hl hl' ?_
  exact fin .nils _ _ rfl (by simp [hX0]) (by simp [hX0])
 have hl':((G.ordI g).length:Int)=(g.length:Int):=by omega
 refine bJ he ?_;refine QN ?_
 refine bH he hl hl' oc ?_
 refine QP ?_ (r:=by conv=>lhs;simp[QV,he,hl,hl',oc]);refine QL (cr') ?_
 by_cases hrt:rg=true
 .have hX0:X=false:=by rw [hX,hrt]; simp
  refine bJ hrt ?_;refine bW ?_
  exact fin .nils _ _ rfl (by simp [hX0]) (by simp [hX0])
 have hrt':rg=false:=by simpa using hrt
 rw [hr,hrt',show decide ((G.ordI g).length=bs.length)=true by simp; omega] at hX;simp only [aE,Bool.not_false] at hX;refine bJ hrt' ?_;refine bW ?_
 refine QP ?_;refine QL (cn) ?_;refine bK oc hupd ?_;refine QN ?_;have hbp:0<bs.length:=by
  have h1:=(G.aag hr).pos;simp only [G.aa1] at h1;omega
 obtain ⟨⟨ps,code,⟨tk,ta,to,az⟩⟩,hb0⟩ : ∃ b,bs[0]? = some b:=⟨bs[0],ac hbp⟩
 have hbm:=aA hb0;have hbd:bs.getD 0 default=⟨ps,code,⟨tk,ta,to,az⟩⟩:=by rw [ag,hb0]; rfl
 have hpl:=(hsf _ hbm).1;have hpi:=hps _ hbm;rw [hbd] at hX;simp only at hX hpl hpi
 refine bF oc hb0 ?_
 have hcl:=(hsf _ hbm).2.2.2;simp only at hcl;have hZ:(St S [(ck,some (11,ckC ⟨sg,im,gl,mu,me⟩ ⟨⟨fi,fo⟩,ts,bs⟩ (.slice od 0 ts.length) (vl cj (G.cD g))))] [some (6,[vl cj ps,vl js code, .int .i64 tk, .int .i64 ta,vl ji to,vl cj az])]).get ck=some (11,ckC ⟨sg,im,gl,mu,me⟩ ⟨⟨fi,fo⟩,ts,bs⟩ (.slice od 0 ts.length) (vl cj (G.cD g))):=by rw [oc]; simp [uGet]
 have ctz:ZA Tryz.prog (St S [(ck,some (11,ckC ⟨sg,im,gl,mu,me⟩ ⟨⟨fi,fo⟩,ts,bs⟩ (.slice od 0 ts.length) (vl cj (G.cD g))))] [some (6,[vl cj ps,vl js code, .int .i64 tk, .int .i64 ta,vl ji to,vl cj az])]) 107 [.ptr ck 0,vl cj ps] (vl cj (Ss.cv ts ps)):=fun T hT=>arv T ⟨sg,im,gl,mu,me⟩ ⟨⟨fi,fo⟩,ts,bs⟩ _ _ ck ps (hT _ _ hZ) (by omega) hpi
 have ceq:=ajz (Ss.cv ts ps) fi (by simp [Ss.cv]; omega);refine bY (r:=by conv=>lhs;simp[QV,oc]) (k:=?_);refine al0 ctz (by rfl) ?_;refine bJ oc ?_;refine QL (ceq) ?_
 by_cases ht:Ss.cv ts ps=fi
 case neg =>
  have hX0:X=false:=by rw [hX]; simp [ht]
  refine bJ ht ?_;refine bW ?_
  exact fin _ _ _ rfl (by simp [hX0]) (by simp [hX0])
 rw [bv ht,aE] at hX
 cases code with
 | nil =>
  have hX0:X=false:=by rw [hX]
  refine bJ ht ?_;refine bW ?_
  exact fin _ _ _ rfl (by simp [hX0]) (by simp [hX0])
 | cons x r =>
  obtain ⟨xo,xn,xa,xu⟩:=x;have hpos:(0:Int)<(r.length:Int)+1:=by omega
  by_cases h8:xo=258
  .have hX0:X=true:=by rw [hX]; simp [h8]
   refine bM ht hpos h8 ?_;refine bW ?_
   exact fin _ _ _ rfl (by simp [hX0]) (by simp)
  .have hX0:X=false:=by rw [hX]; simp [h8]
   refine bM ht hpos h8 ?_;refine bW ?_
   exact fin _ _ _ rfl (by simp [hX0]) (by simp [hX0])
end Go.Vw
namespace Ss
def insOut (ts:List Int) (x:Ins):Int:=match x.outs with
 | []=>0
 | v::_=>ts.getD v.toNat 0
def insOk (e:Env) (f:Fn) (ds:List Def) (near:List Int) (block pos:Int) (x:Ins):Bool :=
 (form e x.op x.n (insOut f.types x)).ok&&decide (x.n<=(form e x.op x.n (insOut f.types x)).most)&&decide (cv f.types x.outs=(form e x.op x.n (insOut f.types x)).outs)&&asks f.types ds near block pos x.args (form e x.op x.n (insOut f.types x)).inn
def branches (t:Term):Bool:=decide (t.kind=2)||decide (t.kind=3)
def termHead (fo:List Int) (k:Int):Option (Nat × Nat × List Int) :=
 if k=1 then some (1,1,[]) else if k=2 then some (2,2,[]) else if k=3 then some (1,65,[]) else if k=4 then some (0,0,fo) else if k=5 then some (0,0,[]) else none
def edgeOk (f:Fn) (ds:List Def) (near:List Int) (i pos:Int) (x:Edge):Bool :=
 !decide (x.to=0)&&asks f.types ds near i pos x.args (cv f.types (f.blocks.getD x.to.toNat default).params)
def termTail (f:Fn) (ds:List Def) (near:List Int) (i pos:Int) (t:Term) (le mo:Nat) (rs:List Int):Bool :=
 (if branches t then asks f.types ds near i pos [t.arg] [127] else decide (t.arg=0))&&decide (le<=t.to.length)&&decide (t.to.length<=mo)&&asks f.types ds near i pos t.args rs&&t.to.all (edgeOk f ds near i pos)
def termOk (f:Fn) (ds:List Def) (near:List Int) (i:Int) (b:Block):Bool:=match termHead f.sig.out b.term.kind with
 | some (le,mo,rs)=>termTail f ds near i b.code.length b.term le mo rs
 | none=>false
end Ss
namespace Go.Vw
open Go.Proofs Go.RowKit
attribute [-simp] List.map_set
theorem jaj {P:Program} {N b:Nat} {Q Q2:Exit->Fr->Store->Prop} {σ:Fr} {S:Store} {c c2:Code} (Mid:Fr->Store->Prop) (ks:List Nat) (h1:VWp P N b c (JS (fun σ S=>Mid (σ.oy ks) S) Q) σ S) (h2 : ∀ σ S,Mid σ S->VWp P N b c2 Q2 σ S):VWp P N b c (JS (VWp P N b c2 Q2) Q) σ S :=
 ajk h1 fun e σ S q=>by
  cases e with
  | normal=>exact jcp ks (h2 _ _ q)
  | exit id=>exact q
  | goto l=>exact q
  | ret=>exact q
  | panic ch=>exact q
  | outgrown=>exact q
theorem as0 {P:Program} {N b:Nat} {Q Q2:Exit->Fr->Store->Prop} {σ:Fr} {S:Store} {c c2:Code} (Mid:Fr->Store->Prop) (ks:List Nat) (h1:VWp P N b c (JS (fun σ S => ∃ σc Sc,Reach N b (σ.oy ks) S σc Sc/\Mid σc Sc) Q) σ S) (h2 : ∀ σ S,Mid σ S->VWp P N b c2 Q2 σ S):VWp P N b c (JS (VWp P N b c2 Q2) Q) σ S :=
 ajk h1 fun e σ S q=>by
  cases e with
  | normal=>obtain ⟨σc,Sc,hr,hm⟩:=q; exact jcp ks (jv hr (h2 _ _ hm))
  | exit id=>exact q
  | goto l=>exact q
  | ret=>exact q
  | panic ch=>exact q
  | outgrown=>exact q
theorem anf {N:Nat} {Mid:Fr->Store->Prop} {σ σ1 σ':Fr} {B:Store} {u u':Upds} {l l':List (Option (Nat × List V))} (ks gs:List Nat) (hσ1:σ.oy ks=σ1) (hw:B.Wf) (h1:gs.Nodup)
  (h2:(Km B.nx gs u&&YU B.nx gs l gs&&idsF (gcP B.nx gs) σ1)=true) (hu:gcU B.nx gs u=u') (hl:gcL B.nx gs l gs=l') (hσ:renF (gcTo B.nx gs) σ1=σ') (h:Mid σ' (St B u' l')) :
  ∃ σc Sc,Reach N B.nx (σ.oy ks) (St B u l) σc Sc/\Mid σc Sc:=⟨σ',_,by rw [hσ1]; exact Reach.gc gs hw h1 h2 hu hl hσ,h⟩
theorem azg (e:Ss.Env) (f:Ss.Fn) (ds:List Ss.Def) (near:List Int) (block pos:Int) (x:Ss.Ins) (hsl:e.sigs.length<=140737488355328) (hgl:e.globals.length<=140737488355328) (hml:e.muts.length=e.globals.length)
  (hds:ds.length=f.types.length) (htl:f.types.length<2^63) (hnl:near.length<2^63) (hx:x.Fits) (hol:x.outs.length<=1048576) (hov:Ss.InTs f.types.length x.outs) :
  b8 71 [ckV e f ds near,cj block,cj pos,js x] (.bool (Ss.insOk e f ds near block pos x)):=by
 intro S;have cf:=ayw e x.op x.n (Ss.insOut f.types x) hsl hgl hml hx.1 hx.2.1.1;have ct:=ajr e f ds near x.outs hol hov;have hal:=hx.2.2.1.1;have ca : ∀ l:List Int,b8 109 [ckV e f ds near,cj block,cj pos,vl cj x.args,vl cj l] (.bool (Ss.asks f.types ds near block pos x.args l)):=fun l=>ann e f ds near block pos x.args l hds htl hnl (by omega)
 unfold Ss.insOk;generalize hr:Ss.form e x.op x.n (Ss.insOut f.types x)=r at *
 have hql:(Ss.cv f.types x.outs).length<2^63:=by simp [Ss.cv]; omega
 generalize htt:Ss.cv f.types x.outs=tt at *
 obtain ⟨ri,ro,rm,rk⟩:=r;have ceq:=ajz tt ro hql;obtain ⟨xo,xn,xa,xu⟩:=x;obtain ⟨⟨fi,fo⟩,ts,bs⟩:=f;obtain ⟨sg,im,gl,mu,me⟩:=e;simp only at *
 have ca':=ca ri;generalize Ss.asks ts ds near block pos xa ri=ax at ca';generalize hio:Ss.insOut ts ⟨xo,xn,xa,xu⟩=io at cf;have cf':b8 108 [.agg [vl jn sg, .int .i64 im,vl cj gl,vl V.bool mu, .bool me], .int .i64 xo, .int .u64 xn, .int .i64 io] (.tuple [vl cj ri,vl cj ro, .int .u64 rm, .bool rk]):=cf;refine b7 Tryz.func71 Tryz.ntmps71 fun hwf=>?_
 refine QY ?_;refine QY ?_;refine JO rfl ?_;refine jaj (fun σ S'=>σ=[(0,ckV ⟨sg,im,gl,mu,me⟩ ⟨⟨fi,fo⟩,ts,bs⟩ ds near),(1,cj block),(2,cj pos),(7, .ptr (lid S.nx 0) 0),(8, .bool false),(9,cj io)]/\S'=St S [] [some (4,[cj xo,vu xn,vl cj xa,vl cj xu])]) [0,1,2,7,8,9] ?_ ?_
 .cases xu with
  | nil =>
   have h0:io=0:=by rw [<-hio]; rfl
   subst h0
   refine bz ?_
   exact ⟨by simp [Fr.oy],by simp⟩
  | cons v r =>
   obtain ⟨h0,h1⟩:=hov v (by simp);obtain ⟨n,rfl⟩ : ∃ n:Nat,v=n:=⟨v.toNat,by omega⟩
   have hn:n<ts.length:=by omega
   have h2:io=ts[n]:=by rw [<-hio]; simp [Ss.insOut,hn]
   subst h2;have hpos:(0:Int)<((r.length:Int)+1):=by omega
   refine bF hn hpos ?_
   exact ⟨by simp [Fr.oy],by simp⟩
 rintro σ S' ⟨rfl,rfl⟩;refine QT ?_;refine bY (r:=by conv=>lhs;simp[QV]) (k:=?_);refine QL (cf') ?_;refine QW ?_
 by_cases h1:rk=true
 case neg =>
  have h1':rk=false:=by simpa using h1
  refine bD h1' ?_
  exact ja hwf (by simp [h1']) rfl
 by_cases h2:xn<=rm
 case neg =>
  refine bF h1 h2 ?_
  exact ja hwf (by simp [h2]) rfl
 refine bF h1 h2 ?_
 refine bQ h1 h2 ?_;refine QL (ct) ?_;refine QZ ?_;refine QL (ceq) ?_
 by_cases h3:tt=ro
 case neg =>
  refine bJ h3 ?_;refine bW ?_
  exact ja hwf (by simp [h3]) rfl
 refine bJ h3 ?_;refine QL (ca') ?_;refine bV ?_
 exact ja hwf (by simp [h1,h2,h3]) rfl
theorem jci (t:Ss.Term):b8 76 [encTerm t] (.bool (Ss.branches t)):=by
 intro S;obtain ⟨k,a,to,az⟩:=t;simp only [Ss.branches];refine b7 Tryz.func76 Tryz.ntmps76 fun hwf=>?_
 by_cases h:k=2
 .refine bD h ?_
  exact ja hwf (by simp [h]) rfl
 .refine bD h ?_
  exact ja hwf (by simp [h]) rfl
theorem axt (e:Ss.Env) (f:Ss.Fn) (ds:List Ss.Def) (near:List Int) (i:Int) (b:Ss.Block) (hds:ds.length=f.types.length) (htl:f.types.length<2^63) (hnl:near.length<2^63) (hbl:f.blocks.length<2^63) (hol:f.sig.out.length<2^63)
  (hb:b.Fits) (hto : ∀ x∈b.term.to,0<=x.to/\x.to<f.blocks.length) (hps : ∀ b∈f.blocks,b.params.length<=1048576/\Ss.InTs f.types.length b.params) :
  b8 72 [ckV e f ds near,cj i,je b] (.bool (Ss.termOk f ds near i b)):=by
 intro S;obtain ⟨_,⟨hcl,_⟩,_,_,⟨htol,htf⟩,⟨haz,_⟩⟩:=hb;have ca : ∀ l m:List Int,l.length<2^63->b8 109 [ckV e f ds near,cj i,cu b.code.length,vl cj l,vl cj m] (.bool (Ss.asks f.types ds near i b.code.length l m)):=fun l m hl=>ann e f ds near i b.code.length l m hds htl hnl hl
 have ct : ∀ b∈f.blocks,b8 107 [ckV e f ds near,vl cj b.params] (vl cj (Ss.cv f.types b.params)):=fun b hb=>ajr e f ds near b.params (hps b hb).1 (hps b hb).2
 have cb:=jci b.term;obtain ⟨ps,code,⟨tk,ta,to,az⟩⟩:=b;simp only at hcl htol htf haz hto ca;have hTT : ∀ le mo rs,Ss.termTail f ds near i code.length ⟨tk,ta,to,az⟩ le mo rs=((if Ss.branches ⟨tk,ta,to,az⟩ then Ss.asks f.types ds near i code.length [ta] [127] else decide (ta=0))&&decide (le<=to.length)&&decide (to.length<=mo)&&Ss.asks f.types ds near i code.length az rs&&to.all (Ss.edgeOk f ds near i code.length)):=fun _ _ _=>rfl
 have hX:Ss.termOk f ds near i ⟨ps,code,⟨tk,ta,to,az⟩⟩=match Ss.termHead f.sig.out tk with
  | some (le,mo,rs)=>Ss.termTail f ds near i code.length ⟨tk,ta,to,az⟩ le mo rs
  | none=>false:=rfl
 rw [hX];generalize hbr:Ss.branches ⟨tk,ta,to,az⟩=br at *
 have cb':b8 76 [.agg [.int .i64 tk, .int .i64 ta,vl ji to,vl cj az]] (.bool br):=cb;obtain ⟨⟨fi,fo⟩,ts,bs⟩:=f;simp only at *
 refine b7 Tryz.func72 Tryz.ntmps72 fun hwf=>?_
 refine QY ?_;refine bZ (St S [] [some (6,[vl cj ps,vl js code, .int .i64 tk, .int .i64 ta,vl ji to,vl cj az])]) (St S [] [some (6,[vl cj ps,vl js code, .int .i64 tk, .int .i64 ta,vl ji to,vl cj az])]) [] ?_ (r:=by conv=>lhs; simp [QV]);refine QI ?_;refine QZ ?_;refine QI ?_;refine QW ?_;refine QY ?_;refine QY ?_;refine jy 11 rfl ((Ghost.nl _)) (by conv=>lhs; simp [Fr.set]) ?_;refine JO rfl ?_;refine jaj (fun σ S' => ∃ (le mo:Nat) (rs:List Int),Ss.termHead fo tk=some (le,mo,rs)/\le<=1000/\mo<=1000/\σ=[(0,ckV e ⟨⟨fi,fo⟩,ts,bs⟩ ds near),(1,cj i),(5, .ptr (lid S.nx 0) 0),(7, .ptr (lid S.nx 1) 0),(8,cu code.length),(9,cu le),(10,cu mo),(11, .list (rs.map cj))]/\S'=St S [] [some (6,[vl cj ps,vl js code, .int .i64 tk, .int .i64 ta,vl ji to,vl cj az]),some (4,[.int .i64 tk, .int .i64 ta,vl ji to,vl cj az])]) [0,1,5,7,8,9,10,11] ?_ ?_
 .by_cases k1:tk=1
  .subst k1
   refine bz ?_
   exact ⟨1,1,[],rfl,by omega,by omega,by simp [Fr.oy],rfl⟩
  by_cases k2:tk=2
  .subst k2
   refine bz ?_
   exact ⟨2,2,[],rfl,by omega,by omega,by simp [Fr.oy],rfl⟩
  by_cases k3:tk=3
  .subst k3
   refine bz ?_
   exact ⟨1,65,[],rfl,by omega,by omega,by simp [Fr.oy],rfl⟩
  by_cases k4:tk=4
  .subst k4
   refine bz ?_
   exact ⟨0,0,fo,rfl,by omega,by omega,by simp [Fr.oy,vl],rfl⟩
  by_cases k5:tk=5
  .subst k5
   refine bz ?_
   exact ⟨0,0,[],rfl,by omega,by omega,by simp [Fr.oy],rfl⟩
  have hn:Ss.termHead fo tk=none:=by simp [Ss.termHead,k1,k2,k3,k4,k5]
  rw [hn]
  refine bO k1 k2 k3 k4 k5 ?_
  exact bS
 rintro σ S' ⟨le,mo,rs,hh,hle,hmo,rfl,rfl⟩;rw [hh];simp only;rw [hTT];generalize hA:(if br then Ss.asks ts ds near i code.length [ta] [127] else decide (ta=0))=A;refine JO rfl ?_;refine as0 (fun σ S'=>A=true/\σ=[(0,ckV e ⟨⟨fi,fo⟩,ts,bs⟩ ds near),(1,cj i),(7, .ptr (lid S.nx 1) 0),(8,cu code.length),(9,cu le),(10,cu mo),(11, .list (rs.map cj))]/\S'=St S [] [some (6,[vl cj ps,vl js code, .int .i64 tk, .int .i64 ta,vl ji to,vl cj az]),some (4,[.int .i64 tk, .int .i64 ta,vl ji to,vl cj az])]) [0,1,7,8,9,10,11] ?_ ?_
 .refine QP ?_;refine QL (cb') ?_
  by_cases h1:br=true
  .have hA':A=Ss.asks ts ds near i code.length [ta] [127]:=by rw [<-hA,if_pos h1]
   have c1:=ca [ta] [127] (by simp);rw [<-hA'] at c1;refine bJ h1 ?_;refine bW ?_
   refine QP ?_;refine zf (xs':=[ckV e ⟨⟨fi,fo⟩,ts,bs⟩ ds near,cj i,cu code.length,vl cj [ta],vl cj [127]]) rfl (GhostArgs.trans (GhostArgs.one [_,_,_] [_] (frz1 (k:=2) (len:=1) (by simp) (by rfl) (by rfl) (by rfl))) (GhostArgs.one [_,_,_,_] [] (frz1 (k:=3) (len:=1) (by simp) (by rfl) (by rfl) (by rfl)))) c1 ?_;simp only [aq,au]
   by_cases h2:A=true
   .refine bJ h2 ?_;refine bW ?_
    refine anf [0,1,7,8,9,10,11] [0,1] (by conv=>lhs; simp [Fr.oy]) hwf (by decide) (by simp) (by conv=>lhs; simp) (by conv=>lhs; simp) (by conv=>lhs; simp) (⟨h2,by simp,rfl⟩)
   .have h2':A=false:=by simpa using h2
    refine bJ h2' ?_;refine bW ?_
    exact ja hwf (by simp [h2']) rfl
  .have h1':br=false:=by simpa using h1
   by_cases h2:ta=0
   .have h2':A=true:=by rw [<-hA,if_neg h1]; simp [h2]
    refine bJ h1' ?_;refine QN ?_
    refine bD h2 ?_
    refine anf [0,1,7,8,9,10,11] [0,1] (by conv=>lhs; simp [Fr.oy]) hwf (by decide) (by simp) (by conv=>lhs; simp) (by conv=>lhs; simp) (by conv=>lhs; simp) (⟨h2',by simp,by simp [h2]⟩)
   .have h2':A=false:=by rw [<-hA,if_neg h1]; simp [h2]
    refine bJ h1' ?_;refine QN ?_
    refine bD h2 ?_
    exact ja hwf (by simp [h2']) rfl
 rintro σ S' ⟨hAt,rfl,rfl⟩;rw [hAt,aE];have c2:=ca az rs (by omega);generalize Ss.asks ts ds near i code.length az rs=B at *
 by_cases h1:(to.length:Int)<(le:Int)
 .refine bD h1 ?_
  exact ja hwf (by simp; omega) rfl
 by_cases h2:(mo:Int)<(to.length:Int)
 .refine bF h1 h2 ?_
  exact ja hwf (by simp; omega) rfl
 have hlm:(decide (le<=to.length)&&decide (to.length<=mo))=true:=by simp; omega
 rw [hlm,aE]
 refine bF h1 h2 ?_
 refine bQ h1 h2 ?_;refine QL (c2) ?_
 by_cases h3:B=true
 case neg =>
  have h3':B=false:=by simpa using h3
  refine bJ h3' ?_;refine bW ?_
  exact ja hwf (by simp [h3']) rfl
 rw [h3,aE];refine bJ h3 ?_;refine bW ?_
 refine bX [0,1,8,74,75,76] (fun c σ S' => ∃ (k:Nat),k<=to.length/\c=to.length-k/\(to.drop k).all (Ss.edgeOk ⟨⟨fi,fo⟩,ts,bs⟩ ds near i code.length)=to.all (Ss.edgeOk ⟨⟨fi,fo⟩,ts,bs⟩ ds near i code.length)/\σ=[(0,ckV e ⟨⟨fi,fo⟩,ts,bs⟩ ds near),(1,cj i),(8,cu code.length),(74,vl ji to),(75,cu to.length),(76,cu k)]/\S'=St S [] [some (6,[vl cj ps,vl js code, .int .i64 tk, .int .i64 ta,vl ji to,vl cj az]),some (4,[.int .i64 tk, .int .i64 ta,vl ji to,vl cj az])]) to.length ?_ ?_
 .exact ⟨0,by omega,rfl,rfl,by simp [Fr.oy],rfl⟩
 .rintro c σ T ⟨k,hk,rfl,hd,rfl,rfl⟩
  by_cases hkt:k<to.length
  .have hw:=jg hkt (by omega);have hst:=Ss.aas (Ss.edgeOk ⟨⟨fi,fo⟩,ts,bs⟩ ds near i code.length) hkt;obtain ⟨t0,t1⟩:=hto _ (ah hkt);have htk:=htf _ (ah hkt);obtain ⟨⟨xt,xa⟩,hx⟩ : ∃ x,to[k]=x:=⟨_,rfl⟩
   rw [hx] at hst t0 t1 htk;simp only at t0 t1;obtain ⟨_,⟨hxl,_⟩⟩:=htk;simp only at hxl
   by_cases h0:xt=0
   .have he:Ss.edgeOk ⟨⟨fi,fo⟩,ts,bs⟩ ds near i code.length ⟨xt,xa⟩=false:=by simp [Ss.edgeOk,h0]
    rw [he] at hst
    refine bG hkt hx h0 ?_
    exact ja hwf (by rw [<-hd,hst]; rfl) rfl
   obtain ⟨n,rfl⟩ : ∃ n:Nat,xt=n:=⟨xt.toNat,by omega⟩
   have hn:n<bs.length:=by omega
   have ctn:=ct _ (ah hn);obtain ⟨⟨qs,qc,⟨q1,q2,q3,q4⟩⟩,hq⟩ : ∃ b,bs[n]=b:=⟨_,rfl⟩
   rw [hq] at ctn;have ce:=ca xa (Ss.cv ts qs) (by omega);have he:Ss.edgeOk ⟨⟨fi,fo⟩,ts,bs⟩ ds near i code.length ⟨n,xa⟩=Ss.asks ts ds near i code.length xa (Ss.cv ts qs):=by
    simp only [Ss.edgeOk,h0,decide_false,Bool.not_false,aE];simp [hn,hq]
   rw [he] at hst;simp only at ctn;generalize Ss.asks ts ds near i code.length xa (Ss.cv ts qs)=C at *
   generalize Ss.cv ts qs=tq at *
   have h0' : ¬ n=0:=by omega
   refine bB hkt hx h0 h0' hn hq ?_
   refine bY (r:=by conv=>lhs;simp[QV,hkt,hx,h0,h0',hn,hq]) (k:=?_);refine QL (ctn) ?_;refine QM (by conv=>lhs;simp[QV,hkt,hx,h0,h0',hn,hq]) ?_;refine QL (ce) ?_
   by_cases h9:C=true
   .refine bJ h9 ?_;refine bW ?_
    refine QA [0,1] (h:=⟨?_,k+1,hkt,rfl,by rw [<-hd,hst,h9,aE],by simp [hw],rfl⟩);omega
   .have h9':C=false:=by simpa using h9
    refine bJ h9' ?_;refine bW ?_
    exact ja hwf (by rw [<-hd,hst,h9']; rfl) rfl
  .rw [Ss.aai _ hkt] at hd;rw [<-hd]
   refine bD hkt ?_
   exact bS
end Go.Vw
namespace Ss
def cx (e:Env) (f:Fn) (ds:List Def) (near:List Int) (i:Int):Nat->List Ins->Bool
 | _,[]=>true
 | k,x::r=>insOk e f ds near i k x&&cx e f ds near i (k+1) r
def cH (e:Env) (f:Fn) (ds:List Def) (near:List Int):Nat->List Block->Bool
 | _,[]=>true
 | i,b::bs=>cx e f ds near i 0 b.code&&termOk f ds near i b&&cH e f ds near (i+1) bs
def checkHead (e:Env) (f:Fn):Bool:=e.right&&f.small&&decide (f.blocks.length<=256)&&kinds 2048 f.types&&f.sig.right&&f.blocks.all fun b=>decide (b.params.length<=256)
def check (e:Env) (f:Fn):Bool:=checkHead e f&&match defsOf f with
 | none=>false
 | some ds=>shapeOk f&&cH e f ds (Go.Vw.G.cD (succs f.blocks)) 0 f.blocks
theorem put_in {block pos:Int} : ∀ {l:List Int} {ds d:List Def},put block pos ds l=some d->InTs ds.length l
 | [],ds,d,h=>by intro v hv; cases hv
 | v::l,ds,d,h=>by
  simp only [put] at h;split at h
  .cases h
  .rename_i hn;have h1:=put_in h;intro x hx;rcases aL.1 hx with rfl | hx
   .have k1 : ¬ x<0:=fun h=>hn (.inl h)
    have k2 : ¬ (ds.length:Int)<=x:=fun h=>hn (.inr (.inl h))
    exact ⟨by omega,by omega⟩
   .have:=h1 x hx;simpa using this
theorem YD {i:Int} : ∀ {l:List Ins} {k:Nat} {ds d:List Def},putCode i k ds l=some d->d.length=ds.length /\ ∀ x∈l,InTs ds.length x.outs
 | [],k,ds,d,h=>by simp only [putCode,ay] at h; subst h; exact ⟨rfl,by simp⟩
 | x::l,k,ds,d,h=>by
  simp only [putCode] at h;obtain ⟨d1,h1,h2⟩:=aN.1 h;obtain ⟨k1,k2⟩:=YD h2;have e1:=YC h1;refine ⟨k1.trans e1,fun y hy => ?_⟩;rcases aL.1 hy with rfl | hy
  .exact put_in h1
  .rw [<-e1]; exact k2 y hy
theorem Zq : ∀ {l:List Block} {i:Nat} {ds d:List Def},cI i ds l=some d->d.length=ds.length /\ ∀ b∈l,InTs ds.length b.params /\ ∀ x∈b.code,InTs ds.length x.outs
 | [],i,ds,d,h=>by simp only [cI,ay] at h; subst h; exact ⟨rfl,by simp⟩
 | b::l,i,ds,d,h=>by
  simp only [cI] at h;obtain ⟨d2,h1,h2⟩:=aN.1 h;obtain ⟨d1,h3,h4⟩:=aN.1 h1;have e1:=YC h3;obtain ⟨e2,k2⟩:=YD h4;obtain ⟨e3,k3⟩:=Zq h2;refine ⟨by omega,fun y hy => ?_⟩;rcases aL.1 hy with rfl | hy
  .exact ⟨put_in h3,fun x hx=>by rw [<-e1]; exact k2 x hx⟩
  .have:=k3 y hy;rw [show ds.length=d2.length by omega]; exact this
theorem defs_in {f:Fn} {ds:List Def} (h:defsOf f=some ds):ds.length=f.types.length /\ ∀ b∈f.blocks,InTs f.types.length b.params /\ ∀ x∈b.code,InTs f.types.length x.outs:=by
 have:=Zq h;simpa using this
theorem right_to {f:Fn} (h:Go.Vw.G.right (succs f.blocks)=true) : ∀ b∈f.blocks, ∀ x∈b.term.to,0<=x.to/\x.to<f.blocks.length:=by
 intro b hb x hx;simp only [Go.Vw.G.right,af,aD] at h;have h1:=h.2 (rowOf b) (bi.2 ⟨b,hb,rfl⟩);have h2:=(Go.Vw.G.ab9.1 h1).2 x.to (bi.2 ⟨x,hx,rfl⟩);simpa [succs] using h2
end Ss
namespace Go.Vw
open Go.Proofs Go.RowKit
theorem lid_lid (b j k:Nat):lid (lid b j) k=lid b (j+k):=by simp [lid]; omega
theorem St_St {B:Store} {u:Upds} {l:List (Option (Nat × List V))} {o:Nat} {c d:Nat × List V} (ho:o<(St B u l).nx):St (St B u l) [(o,some c)] [some d]=((St B u l).upd o c).add d:=by
 refine Store.ext' (funext fun o' => ?_) rfl;rw [qJ,Yl,qf]
 by_cases h:o'<(St B u l).nx
 .rw [if_pos h];have hn : ¬ o'=((St B u l).upd o c).nx:=by show ¬ o'=(St B u l).nx; omega
  rw [if_neg hn];simp only [uGet]
 .rw [if_neg h]
  by_cases e:o'=(St B u l).nx
  .subst e;have:(St B u l).nx=((St B u l).upd o c).nx:=rfl;rw [if_pos this]; simp
  .have hn : ¬ o'=((St B u l).upd o c).nx:=e;rw [if_neg hn,if_neg (by omega),qJ];have hnx:(St B u l).nx=B.nx+l.length:=by rw [jR]; rfl
   rw [if_neg (by omega),aJ (l:=l) (by omega),aJ (by rw [List.length_singleton]; omega)]
theorem Reach.frzCellS {α:Type} {enc:α->V} {s:Nat} (hs : ∀ a,(enc a).cells.length=s) (hcl : ∀ a,(enc a).closed=true) {N b0:Nat} {σ:Fr} {B:Store} {u:Upds} {l:List (Option (Nat × List V))} {k j i s':Nat} {cs:List V} (ls:List α) (hkj:k≠j) (hk:k<l.length) (hj:j<l.length) (hck:(l[k]?).join=some (s',cs)) (hi:cs[i]? = some (.slice (lid B.nx j) 0 ls.length))
  (hcj:(l[j]?).join=some (s,jq enc ls)):Reach N b0 σ (St B u l) σ (St B u ((l.set j none).set k (some (s',cs.set i (vl enc ls))))):=by
 have hg:Ghost (.slice (lid B.nx j) 0 ls.length) (St B u l) (vl enc ls) (St B u (l.set j none)):=aej hs hcl ls hj hcj;have:=Reach.cell (N:=N) (b0:=b0) (σ:=σ) (o:=lid B.nx k) (i:=i) (s:=s') (cs:=cs) hg (by simp [V.one]) (by rw [jB]; exact hck) hi (by rw [jB,aQ (Ne.symm hkj)]; exact hck);rw [JM (by simpa using hk)] at this;exact this
theorem jdl {e:Ss.Env} {f:Ss.Fn} {ds:List Ss.Def} {near:List Int} {i:Int} {k:Nat} {l:List Ss.Ins} (h:k<l.length):Ss.cx e f ds near i k (l.drop k)=(Ss.insOk e f ds near i k l[k]&&Ss.cx e f ds near i (k+1) (l.drop (k+1))):=by
 rw [am h,Ss.cx]
theorem jbh {e:Ss.Env} {f:Ss.Fn} {ds:List Ss.Def} {near:List Int} {i:Nat} {l:List Ss.Block} (h:i<l.length):Ss.cH e f ds near i (l.drop i)=(Ss.cx e f ds near i 0 l[i].code&&Ss.termOk f ds near i l[i]&&Ss.cH e f ds near (i+1) (l.drop (i+1))):=by
 rw [am h,Ss.cH]
end Go.Vw
/-
 What is owned in depth: values of one's own that read as immutable ones; stores that become the base of others.
-/
namespace Go.Vw
open Go.RowKit
section
variable {P:Program} {N b b':Nat} {Q:Exit->Fr->Store->Prop} {σ σ':Fr} {S S':Store}
theorem ExtB.weak {m m':Imm} {β β':Objs} {w w':World} (h:b<=b') (k:ExtB b' m β w m' β' w'):ExtB b m β w m' β' w' :=
 ⟨k.imm,fun o ho=>k.step o (aS ho h),k.size,k.keep,k.os,k.tape,k.output⟩
theorem jal {c:Code} (h:b<=b') (k:VWp P N b' c Q σ S):VWp P N b c Q σ S :=
 fun m β w a hS hF=>wp_mono (k m β w a hS hF) fun e a' w' ⟨σ',S',m',β',q,r1,r2,r3⟩=>⟨σ',S',m',β',q,r1,r2,r3.weak h⟩
theorem Reach.weak (h:b<=b') (k:Reach N b' σ S σ' S'):Reach N b σ S σ' S':=fun m β w a hS hF=>by
 obtain ⟨m',β',h1,h2,h3⟩:=k m β w a hS hF;exact ⟨m',β',h1,h2,h3.weak h⟩
theorem Zg {I:Nat->Fr->Store->Prop} {ks:List Nat} {n:Nat} (h:b<=b') (k:jx N b' I ks n σ S):jx N b I ks n σ S:=by
 obtain ⟨n',h1,σc,Sc,h2,h3⟩:=k;exact ⟨n',h1,σc,Sc,h2.weak h,h3⟩
end
theorem qH (b j k:Nat):lid (lid b j) k=lid b (j+k):=by simp [lid]; omega
theorem JI {B:Store} {u:Upds} {l m:List (Option (Nat × List V))}:St B u (l++m)=St (St B u l) [] m:=by
 refine Store.ext' (funext fun o => ?_) ?_
 .have e:(St B u l).nx=B.nx+l.length:=by rw [jR,lid]
  rw [qJ,qJ,e,qJ];simp only [uGet]
  by_cases h1:o<B.nx
  .rw [if_pos h1,if_pos (by omega),if_pos h1]
  .rw [if_neg h1]
   by_cases h2:o<B.nx+l.length
   .rw [if_pos h2,if_neg h1,aT (by omega)]
   .rw [if_neg h2,bf (by omega)]
    congr 2; omega
 .rw [jR,jR,jR,qH]; simp
theorem at7 {B:Store} {u:Upds} {c:Option (Nat × List V)} {m:List (Option (Nat × List V))}:St B u (c::m)=St (St B u [c]) [] m:=JI (l:=[c])
mutual
theorem ag6 {p q:Nat->Bool} (h : ∀ o,p o=true->q o=true) : ∀ x:V,x.ids p=true->x.ids q=true
 | .agg xs,hx=>by simp only [V.ids] at hx ⊢; exact WX h xs hx
 | .tuple xs,hx=>by simp only [V.ids] at hx ⊢; exact WX h xs hx
 | .func _ xs,hx=>by simp only [V.ids] at hx ⊢; exact WX h xs hx
 | .slice o _ _,hx=>by simp only [V.ids] at hx ⊢; exact h o hx
 | .ptr o _,hx=>by simp only [V.ids] at hx ⊢; exact h o hx
 | .map o,hx=>by simp only [V.ids] at hx ⊢; exact h o hx
 | .junk,_=>by simp [V.ids]
 | .bool _,_ | .int _ _,_ | .str _,_ | .nils,_ | .nilp,_ | .nilf,_ | .nilm,_ | .list _,_ | .ref _,_=>by simp [V.ids]
theorem WX {p q:Nat->Bool} (h : ∀ o,p o=true->q o=true) : ∀ xs:List V,V.idsL p xs=true->V.idsL q xs=true
 | [],_=>by simp [V.idsL]
 | x::xs,hx=>by
  simp only [V.idsL,af] at hx ⊢;exact ⟨ag6 h x hx.1,WX h xs hx.2⟩
end
theorem acp {B:Store} (hw:B.Wf) {l:List (Option (Nat × List V))} (h:l.all (fun c=>match c with | some c=>V.idsL (fun o=>decide (o<lid B.nx l.length)) c.2 | none=>true)=true):(St B [] l).Wf:=by
 refine ⟨fun o ho => ?_,fun o c hc => ?_⟩
 .rw [jR] at ho;simp only [lid] at ho;rw [qJ,if_neg (by omega),aJ (by omega)]; rfl
 .rw [qJ] at hc;rw [jR]
  by_cases h1:o<B.nx
  .rw [if_pos h1] at hc;have:=hw.ids o c hc;simp only [qF,aD] at this ⊢;intro x hx;have h2:=this x hx;have hle:B.nx<=lid B.nx l.length:=by rw [lid]; omega
   exact ag6 (fun o ho=>by rw [aj] at ho ⊢; exact aS ho hle) x h2
  .rw [if_neg h1] at hc;have hm:some c∈l:=by
    cases hl:l[o-B.nx]? with
    | none=>rw [hl] at hc; cases hc
    | some d=>rw [hl] at hc; simp only [Option.join_some] at hc; subst hc; exact aA hl
   simp only [aD] at h;exact h _ hm
/-! ### Ownership -/
inductive Ty
 | c
 | s (tys:List Ty)
def reps (n:Nat) (tys:List Ty):List Ty:=(List.replicate n tys).flatten
theorem apx (tys:List Ty):reps 0 tys=[]:=rfl
theorem Jo (n:Nat) (tys:List Ty):reps (n+1) tys=tys++reps n tys:=by simp [reps,List.replicate_succ]
theorem jax (n:Nat) (tys:List Ty):reps (n+1) tys=reps n tys++tys:=by simp [reps,List.replicate_succ',List.flatten_append]
theorem aqt (n m:Nat) (tys:List Ty):reps (n+m) tys=reps n tys++reps m tys:=by
 induction n with
 | zero=>simp [reps]
 | succ n ih=>rw [Nat.add_right_comm,Jo,Jo,ih,List.append_assoc]
theorem Jw (n:Nat) (tys:List Ty):(reps n tys).length=n*tys.length:=by
 induction n with
 | zero=>simp [reps]
 | succ n ih=>rw [Jo,List.length_append,ih,Nat.succ_mul]; omega
inductive OwL (S:Store):List Ty->List V->List V->List Nat->Prop
 | nil:OwL S [] [] [] []
 | c {ts:List Ty} {rs xs:List V} {j:List Nat} {x:V} (h:x.cG=true) (t:OwL S ts rs xs j):OwL S (.c::ts) (x::rs) (x::xs) j
 | s {tys ts:List Ty} {rs xs cells ys:List V} {i j:List Nat} {o:Nat} (h:S.get o=some (tys.length,cells)) (hs : ∀ y∈ys,y.cells.length=tys.length/\y.closed=true) (d:OwL S (reps ys.length tys) cells (ys.flatMap V.cells) i) (t:OwL S ts rs xs j) :
   OwL S (.s tys::ts) (.slice o 0 ys.length::rs) (.list ys::xs) (o::(i++j))
theorem OwL.len {S:Store} {ts:List Ty} {rs xs:List V} {ids:List Nat} (h:OwL S ts rs xs ids):rs.length=ts.length/\xs.length=ts.length:=by
 induction h with
 | nil=>exact ⟨rfl,rfl⟩
 | c _ _ ih=>simp [ih]
 | s _ _ _ _ _ ih=>simp [ih]
theorem OwL.mono {S S':Store} {ts:List Ty} {rs xs:List V} {ids:List Nat} (h:OwL S ts rs xs ids):(∀ o∈ids,S'.get o=S.get o)->OwL S' ts rs xs ids:=by
 induction h with
 | nil=>exact fun _ => .nil
 | c h _ ih=>exact fun hk => .c h (ih hk)
 | s h hs _ _ ih1 ih2=>exact fun hk => .s ((hk _ (by simp)).trans h) hs (ih1 fun o ho=>hk o (by simp [ho])) (ih2 fun o ho=>hk o (by simp [ho]))
theorem OwL.append {S:Store} {ts us:List Ty} {rs xs ps qs:List V} {i j:List Nat} (h:OwL S ts rs xs i) (k:OwL S us ps qs j):OwL S (ts++us) (rs++ps) (xs++qs) (i++j):=by
 induction h with
 | nil=>exact k
 | c h _ ih=>exact .c h ih
 | s h hs d _ _ ih=>simpa [List.append_assoc] using OwL.s h hs d ih
theorem OwL.split {S:Store} {us:List Ty} : ∀ {ts:List Ty} {rs xs:List V} {ids:List Nat},OwL S (ts++us) rs xs ids -> ∃ r1 r2 x1 x2 i1 i2,rs=r1++r2/\xs=x1++x2/\ids=i1++i2/\OwL S ts r1 x1 i1/\OwL S us r2 x2 i2
 | [],rs,xs,ids,h=>⟨[],rs,[],xs,[],ids,rfl,rfl,rfl, .nil,h⟩
 | t::ts,rs,xs,ids,h=>by
  cases h with
  | c hc k =>
   obtain ⟨r1,r2,x1,x2,i1,i2,rfl,rfl,rfl,k1,k2⟩:=OwL.split k;exact ⟨_::r1,r2,_::x1,x2,i1,i2,rfl,rfl,rfl, .c hc k1,k2⟩
  | s ho hs d k =>
   obtain ⟨r1,r2,x1,x2,i1,i2,rfl,rfl,rfl,k1,k2⟩:=OwL.split k;exact ⟨_::r1,r2,_::x1,x2,_::(_++i1),i2,rfl,rfl,by simp, .s ho hs d k1,k2⟩
theorem OwL.closed {S:Store} {ts:List Ty} {rs xs:List V} {ids:List Nat} (h:OwL S ts rs xs ids) : ∀ x∈xs,x.cG=true:=by
 induction h with
 | nil=>simp
 | c h _ ih=>intro x hx; rcases aL.1 hx with rfl | hx; exact h; exact ih x hx
 | s _ _ _ _ _ ih=>intro x hx; rcases aL.1 hx with rfl | hx; rfl; exact ih x hx
theorem OwL.alive {S:Store} {ts:List Ty} {rs xs:List V} {ids:List Nat} (h:OwL S ts rs xs ids) : ∀ o∈ids,(S.get o).isSome=true:=by
 induction h with
 | nil=>simp
 | c h _ ih=>exact ih
 | s h _ _ _ ih1 ih2 =>
  intro o ho;rcases aL.1 ho with rfl | ho
  .rw [h]; rfl
  .rcases aG.1 ho with ho | ho
   .exact ih1 o ho
   .exact ih2 o ho
theorem OwL.cells {S:Store} {ts:List Ty} {rs xs:List V} {ids:List Nat} (h:OwL S ts rs xs ids) : ∀ r∈rs,r.cG=true \/ ∃ o n,r = .slice o 0 n:=by
 induction h with
 | nil=>simp
 | c h _ ih=>intro x hx; rcases aL.1 hx with rfl | hx; exact .inl h; exact ih x hx
 | s _ _ _ _ _ ih=>intro x hx; rcases aL.1 hx with rfl | hx; exact .inr ⟨_,_,rfl⟩; exact ih x hx
theorem OwL.all_c {S:Store} : ∀ {xs:List V},(∀ x∈xs,x.cG=true)->OwL S (List.replicate xs.length .c) xs xs []
 | [],_ => .nil
 | x::xs,h => .c (h x (by simp)) (OwL.all_c fun y hy=>h y (by simp [hy]))
theorem ado {m:Imm} {β:Objs} {x:V} {xs:List V} {vs:List Value} (h:RepL m β (x::xs) vs) : ∃ v r,vs=v::r/\Rep m β x v/\RepL m β xs r:=by
 cases vs with
 | nil=>have:=h.1; simp at this
 | cons v r=>exact ⟨v,r,rfl,h.2 0 x v rfl rfl,by have:=h.1; simpa using this,fun i y u hy hu=>h.2 (i+1) y u (by simpa using hy) (by simpa using hu)⟩
theorem jdi {S:Store} {o:Nat} {i:List Nat} {c:Nat × List V}:((S.dels i).upd o c).del o=S.dels (o::i):=by
 refine Store.ext' (funext fun o' => ?_) (by simp only [Store.del,Store.upd]; rw [jdh,jdh]);rw [Wh,qf,Za,Za]
 by_cases h:o'=o<;>simp [h]
theorem aua (S:Store) (i j:List Nat):S.dels (i++j)=(S.dels i).dels j:=by simp [Store.dels,List.foldl_append]
theorem OwL.freeze {S0:Store} {ts:List Ty} {rs xs:List V} {ids:List Nat} (h:OwL S0 ts rs xs ids):ids.Nodup -> ∀ S:Store,(∀ o∈ids,S.get o=S0.get o)->GhostArgs rs S xs (S.dels ids):=by
 induction h with
 | nil=>exact fun _ S _ m β w vs hS hr=>⟨m,β,hS,Ext.refl _ _ _,hr⟩
 | @c ts rs xs j x h _ ih =>
  intro hn S hk m β w vs hS hr;obtain ⟨v,r,rfl,h1,h2⟩:=ado hr;obtain ⟨m',β',k1,k2,k3⟩:=ih hn S hk m β w r hS h2;exact ⟨m',β',k1,k2,k3.cons (k2.rep h1)⟩
 | @s tys ts rs xs cells ys i j o h hs d t ih1 ih2 =>
  intro hn S hk m β w vs hS hr;obtain ⟨v,r,rfl,h1,h2⟩:=ado hr;obtain ⟨hno,hnij⟩:=List.nodup_cons.1 hn;obtain ⟨hni,hnj,hd⟩:=List.nodup_append.1 hnij;have hoi:o∉i:=fun h=>hno (by simp [h])
  have hoj:o∉j:=fun h=>hno (by simp [h])
  have hget:S.get o=some (tys.length,cells):=(hk o (by simp)).trans h
  -- the object's cells become immutable
  have step1 : ∃ m1 β1,Holds ((S.dels i).upd o (tys.length,ys.flatMap V.cells)) m1 β1 w/\Ext m β w m1 β1 w:=by
   have hl:=hS.live o _ hget;have hlen:cells.length=(ys.flatMap V.cells).length:=by rw [d.len.1,d.len.2]
   have hgi:(S.dels i).get o=some (tys.length,cells):=by rw [Za,if_neg hoi]; exact hget
   cases hβ:β o with
   | fresh=>rw [hβ] at hl; exact hl.elim
   | dead=>rw [hβ] at hl; exact hl.elim
   | void =>
    rw [hβ] at hl;simp only [Live] at hl;subst hl;obtain ⟨m1,β1,k1,k2,_⟩:=ih1 hni S (fun o ho=>hk o (by simp [ho])) m β w [] hS (RepL.nil _ _);have e:ys.flatMap V.cells=[]:=aO (by rw [<-hlen]; rfl);rw [e];refine ⟨m1,β1, ?_,k2⟩;have:(S.dels i).upd o (tys.length,[])=S.dels i:=by
     refine Store.ext' (funext fun o' => ?_) rfl;rw [qf];split
     .rename_i e'; subst e'; exact hgi.symm
     .rfl
    rw [this]; exact k1
   | mp b' =>
    rw [hβ] at hl;obtain ⟨es,clock,e1,e2,e3⟩:=hl;have hz:cells=[]:=by
     cases cells with
     | nil=>rfl
     | cons c0 cr =>
      exfalso
      have hi2:0<es.size:=by simp only [aC] at e2; omega
      obtain ⟨k,v,e4,_⟩:=e3 0 c0 es[0] rfl (Array.getElem?_eq_getElem hi2);subst e4;rcases d.cells _ (List.mem_cons_self) with h | ⟨_,_,h⟩
      .simp [V.cG] at h
      .cases h
    subst hz;obtain ⟨m1,β1,k1,k2,_⟩:=ih1 hni S (fun o ho=>hk o (by simp [ho])) m β w [] hS (RepL.nil _ _);have e:ys.flatMap V.cells=[]:=aO (by rw [<-hlen]; rfl);rw [e];refine ⟨m1,β1, ?_,k2⟩;have:(S.dels i).upd o (tys.length,[])=S.dels i:=by
     refine Store.ext' (funext fun o' => ?_) rfl;rw [qf];split
     .rename_i e'; subst e'; exact hgi.symm
     .rfl
    rw [this]; exact k1
   | lies b base s n =>
    rw [hβ] at hl;obtain ⟨h0,arr,T,e1,e2,e3,e4⟩:=hl;simp only at e3 e4;have hvs:RepL m β cells ((List.range cells.length).map fun q=>arr.getD (base+q) undef):=by
     refine ⟨by simp,fun q x u hx hu => ?_⟩;obtain ⟨u',f1,f2,_⟩:=e4 q x hx;have hq:q<cells.length:=(ae.1 hx).1;simp only [a6,List.getElem?_range hq,bj,ay] at hu;subst hu;have:arr.getD (base+q) undef=u':=by rw [aY,f1]; rfl
     rw [this]; exact f2
    obtain ⟨m1,β1,k1,k2,k3⟩:=ih1 hni S (fun o ho=>hk o (by simp [ho])) m β w _ hS hvs;have hb':β1 o = .lies b base s n:=by
     rcases k2.step o (by rw [hβ]; exact Loc.noConfusion) with h' | h'
     .rw [h',hβ]
     .have:=k1.live o _ hgi;rw [h'] at this; exact this.elim
    refine ⟨m1,β1, ?_,k2⟩;refine k1.reseen hgi hb' e1 _ hlen.symm fun q x u hx hu => ?_
    have hq:q<cells.length:=by rw [hlen]; exact (ae.1 hx).1
    refine k3.2 q x u hx ?_;simp only [a6,List.getElem?_range hq,bj,ay];rw [aY,hu]; rfl
  obtain ⟨m1,β1,k1,k2⟩:=step1
  -- the slice becomes a list
  have hg:Ghost (.slice o 0 ys.length) ((S.dels i).upd o (tys.length,ys.flatMap V.cells)) (.list ys) (S.dels (o::i)):=by
   rw [<-jdi (c:=(tys.length,ys.flatMap V.cells))]
   let enc:{y // y∈ys}->V:=fun y=>y.1
   have e1:jq enc ys.attach=ys.flatMap V.cells:=by
    have:ys.attach.map enc=ys:=List.attach_map_subtype_val ys
    calc jq enc ys.attach=(ys.attach.map enc).flatMap V.cells:=by simp [jq,List.flatMap_map]
     _=_:=by rw [this]
   have e2:vl enc ys.attach = .list ys:=by
    show V.list _=_;rw [List.attach_map_subtype_val]
   have:=frzS (enc:=enc) (s:=tys.length) (fun y=>(hs y.1 y.2).1) (fun y=>(hs y.1 y.2).2) (S:=(S.dels i).upd o (tys.length,ys.flatMap V.cells)) (o:=o) ys.attach (by rw [e1]; exact JR);rw [e2,List.length_attach] at this;exact this
  obtain ⟨m2,β2,q1,q2,q3⟩:=hg m1 β1 w v k1 (k2.rep h1);have hkj : ∀ o'∈j,(S.dels (o::i)).get o'=S0.get o':=by
   intro o' ho';have hm : ¬ o'∈o::i:=by
    intro hm;rcases aL.1 hm with rfl | hm
    .exact hoj ho'
    .exact hd o' hm o' ho' rfl
   rw [Za,if_neg hm];exact hk o' (by simp [ho'])
  obtain ⟨m3,β3,p1,p2,p3⟩:=ih2 hnj (S.dels (o::i)) hkj m2 β2 w r q1 ⟨h2.1,fun a x u hx hu=>q2.rep (k2.rep (h2.2 a x u hx hu))⟩;refine ⟨m3,β3, ?_,(k2.trans q2).trans p2,p3.cons (p2.rep q3)⟩;rw [show o::(i++j)=(o::i)++j from rfl,aua];exact p1
theorem jbR (n s:Nat):reps n (List.replicate s .c)=List.replicate (n*s) .c:=by
 induction n with
 | zero=>simp [reps]
 | succ n ih=>rw [Jo,ih,List.replicate_append_replicate,Nat.succ_mul,Nat.add_comm]
theorem zj {α:Type} (enc:α->V) (ls:List α):(ls.map enc).flatMap V.cells=jq enc ls:=by simp [jq,List.flatMap_map]
theorem OwL.flat {α:Type} {enc:α->V} {s:Nat} (hs : ∀ a,(enc a).cells.length=s) (hc : ∀ a,(enc a).closed=true) {S:Store} (ls:List α):OwL S (reps ls.length (List.replicate s .c)) (jq enc ls) (jq enc ls) []:=by
 have h:=OwL.all_c (S:=S) (xs:=jq enc ls) (by simpa using Zs hc ls)
 rwa [JK hs, <-jbR] at h
theorem OwL.slice {α:Type} {enc:α->V} {s:Nat} (hs : ∀ a,(enc a).cells.length=s) (hc : ∀ a,(enc a).closed=true) {S:Store} {o:Nat} (ls:List α) (hg:S.get o=some (s,jq enc ls)) {ts:List Ty} {rs xs:List V} {j:List Nat} (t:OwL S ts rs xs j) :
  OwL S (.s (List.replicate s .c)::ts) (.slice o 0 ls.length::rs) (vl enc ls::xs) (o::j):=by
 have:=OwL.s (S:=S) (o:=o) (tys:=List.replicate s .c) (cells:=jq enc ls) (ys:=ls.map enc) (i:=[]) (by rw [List.length_replicate]; exact hg)
  (fun y hy=>by obtain ⟨a,_,rfl⟩:=bi.1 hy; exact ⟨by rw [hs,List.length_replicate],hc a⟩) (by rw [aI,zj]; exact OwL.flat hs hc ls) t
 rw [aI] at this;exact this
theorem OwL.old {S:Store} {n:Nat} {ts:List Ty} {rs xs:List V} {ids:List Nat} (h:OwL S ts rs xs ids) (hn : ∀ o∈ids,o<n) (ks:List Nat):V.idsL (gcP n ks) rs=true/\V.renL (gcTo n ks) rs=rs:=by
 induction h with
 | nil=>exact ⟨by simp [V.idsL],by simp [V.renL]⟩
 | @c ts rs xs j x h _ ih =>
  obtain ⟨h1,h2⟩:=ih hn;have e1:x.ids (gcP n ks)=true:=by cases x<;>first | (simp [V.ids]; done) | (simp [V.cG] at h)
  have e2:x.ren (gcTo n ks)=x:=by cases x<;>first | (simp [V.ren]; done) | (simp [V.cG] at h)
  exact ⟨by simp [V.idsL,e1,h1],by simp [V.renL,e2,h2]⟩
 | @s tys ts rs xs cells ys i j o h hs d t ih1 ih2 =>
  obtain ⟨h1,h2⟩:=ih2 fun o ho=>hn o (by simp [ho])
  have ho:=hn o (by simp);exact ⟨by simp [V.idsL,V.ids,qW ks ho,h1],by simp [V.renL,V.ren,qu ks ho,h2]⟩
theorem aia {x:V} (h:x.cG=true) (p:Nat->Bool):x.ids p=true:=by cases x<;>first | (simp [V.ids]; done) | (simp [V.cG] at h)
theorem OwL.ids_lt {S:Store} {p:Nat->Bool} {ts:List Ty} {rs xs:List V} {ids:List Nat} (h:OwL S ts rs xs ids) (hn : ∀ o∈ids,p o=true):V.idsL p rs=true:=by
 induction h with
 | nil=>simp [V.idsL]
 | c h _ ih=>simp [V.idsL,aia h,ih hn]
 | @s tys ts rs xs cells ys i j o h hs d t ih1 ih2=>simp [V.idsL,V.ids,hn o (by simp),ih2 fun o ho=>hn o (by simp [ho])]
theorem as7 {P:Program} {z:Option ZZ} {r:List CO} {K:Fr->Store->Prop} {σ:Fr} {T:Store} (h:T.Wf) (k:jI P z r K σ (St T [] [])):jI P z r K σ T:=by rwa [qv h] at k
theorem jbF {P:Program} {N b:Nat} {Q:Exit->Fr->Store->Prop} {σ:Fr} {T:Store} {c:Code} (h:T.Wf) (k:VWp P N b c Q σ (St T [] [])):VWp P N b c Q σ T:=by rwa [qv h] at k
theorem ayz (b j k:Nat):(lid b j<lid b k)=(j<k):=by simp [lid]
theorem ax9 {S:Store} (h:S.Wf) {o:Nat} {c:Nat × List V} (ho:o<S.nx) (hc:V.idsL (fun o=>decide (o<S.nx)) c.2=true):(S.upd o c).Wf:=by
 refine ⟨fun o' ho' => ?_,fun o' c' hc' => ?_⟩
 .have h1:S.nx<=o':=ho';rw [qf,if_neg (by omega)]; exact h.gone o' h1
 .rw [qf] at hc';split at hc'
  .cases hc'; exact hc
  .exact h.ids o' c' hc'
theorem ajs {S:Store} {l l':List (Option (Nat × List V))} {r r':V} {R:V->Store->Prop} (ks:List Nat) (hw:S.Wf) (h1:ks.Nodup) (h2:(YU S.nx ks l ks&&r.ids (gcP S.nx ks))=true) (hl:gcL S.nx ks l ks=l') (hr:r.ren (gcTo S.nx ks)=r') (hR:R r' (St S [] l')):Jb S.nx R r (St S [] l):=by
 obtain ⟨h3,h4⟩:=Bool.and_eq_true_iff.1 h2;have h:=ahu (u:=[]) hw h1 rfl h3;subst hl;subst hr;exact ⟨_,_,GhostB.ren h (JV (fun o ho=>acs o ho) r h4).symm,hR⟩
theorem Jk {S:Store} : ∀ {n:Nat} {rs xs:List V} {ids:List Nat},OwL S (List.replicate n .c) rs xs ids->rs=xs/\ids=[]
 | 0,rs,xs,ids,h=>by
  generalize hr:List.replicate 0 Ty.c=ts at h
  cases h with
  | nil=>exact ⟨rfl,rfl⟩
  | c _ _=>cases hr
  | s _ _ _ _=>cases hr
 | n+1,rs,xs,ids,h=>by
  rw [List.replicate_succ] at h
  cases h with
  | c h t =>
   obtain ⟨rfl,rfl⟩:=Jk t;exact ⟨rfl,rfl⟩
theorem Jt {rs xs:List V} {S S':Store} (h:GhostArgs rs S xs S'):Ghost (.agg rs) S (.agg xs) S':=by
 intro m β w v hS hr;obtain ⟨vs,rfl,hl,hr,hone⟩:=hr.inv_agg;obtain ⟨m',β',h1,h2,h3⟩:=h m β w vs hS ⟨hl,hr⟩;exact ⟨m',β',h1,h2, .agg xs vs h3.1 h3.2 hone⟩
end Go.Vw
