import Derived.Test.YtkfllaokjaldnaaGreatC16
/- Part of the proof. -/
set_option linter.unusedVariables false
set_option linter.unusedSimpArgs false
set_option maxRecDepth 10000
set_option maxHeartbeats 16000000
namespace Go.Vw
open Go.Proofs Go.RowKit
attribute [-simp] List.map_set
def runC (P:Ev.Prog) (s:Ev.State) (g l:Nat) (d e:Int):List V:=[vl jn P.env.sigs,cj P.env.imports,vl cj P.env.globals,vl V.bool P.env.muts, .bool P.env.mem,vl jM P.fns,vl vby s.mem,cj s.most, .slice g 0 s.globals.length,cj s.fuel,vl vu s.input, .slice l 0 s.log.length,cj d,cj e]
structure RunAt (S:Store) (P:Ev.Prog) (s:Ev.State) (o g l:Nat) (d e:Int):Prop where
 obj:S.get o=some (14,runC P s g l d e)
 glob:S.get g=some (1,s.globals.map vu)
 log:S.get l=some (1,s.log.map vu)
 og:o≠g
 ol:o≠l
 gl:g≠l
def Keeps (S T:Store) (xs:List Nat):Prop:=S.nx<=T.nx /\ ∀ i,i<S.nx->i∉xs->T.get i=S.get i
theorem KS {S:Store} {u:Upds} {l:List (Option (Nat × List V))} {xs:List Nat} (h : ∀ i c,i∉xs->uGet u i c=c):Keeps S (St S u l) xs :=
 ⟨by rw [jR,lid]; omega,fun i hi hx=>by rw [jk hi,h i _ hx]⟩
theorem afq {S:Store} {P:Ev.Prog} {s s':Ev.State} {o g l:Nat} {d:Int} {own:List (Option (Nat × List V))} {cells:List V} (kl:Nat) (hwf:S.Wf) (hr:RunAt S P s o g l d 0) (hs:s'.globals=s.globals) (hk:(own[kl]?).join=some (1,s'.log.map vu)) (hc:cells=runC P s' g (lid S.nx kl) d 0) :
  Keeps S (St S [(l,none),(o,some (14,cells))] own) [o,g,l] /\ ∃ l',RunAt (St S [(l,none),(o,some (14,cells))] own) P s' o g l' d 0/\(l'=l\/S.nx<=l'):=by
 have on:=ju hwf hr.obj;have gn:=ju hwf hr.glob;have ln:=ju hwf hr.log;have h1:=hr.og;have h2:=hr.ol;have h3:=hr.gl;refine ⟨KS fun i c hi => ?_,lid S.nx kl,⟨?_, ?_, ?_,h1, ?_, ?_⟩, .inr (by simp [lid])⟩
 .simp only [aL,List.not_mem_nil,or_false,not_or] at hi;simp [uGet,hi.1,hi.2.2]
 .rw [jk on,hc]; simp [uGet,h2]
 .rw [jk gn,hs]; simp [uGet,Ne.symm h1,h3,hr.glob]
 .rw [jB,hk]
 .simp only [lid]; omega
 .simp only [lid]; omega
theorem as1 (x:Int):jbv .and (.int .u64 x) (.int .u64 4294967295)=some (.int .u64 (Ev.mask32 x)):=by
 simp [jbv,Ev.mask32]
theorem apf : ∀ {to inp:List Int}, ¬ (Ev.hostL to inp).2.2=0->Ev.hostL to inp=([],(Ev.hostL to inp).2.1,(Ev.hostL to inp).2.2)
 | [],inp,h=>absurd rfl h
 | t::ts,[],h=>rfl
 | t::ts,x::inp,h=>by
  simp only [Ev.hostL] at h ⊢;split
  .rename_i hz; rw [if_pos hz] at h; exact absurd rfl h
  .rfl
theorem akl {to inp ts ik ok:List Int} {t x:Int} (hd:Ev.hostL to inp=(if (Ev.hostL (t::ts) (x::ik)).2.2=0 then (ok++(Ev.hostL (t::ts) (x::ik)).1,(Ev.hostL (t::ts) (x::ik)).2.1,0) else ([],(Ev.hostL (t::ts) (x::ik)).2.1,(Ev.hostL (t::ts) (x::ik)).2.2))) :
  Ev.hostL to inp=(if (Ev.hostL ts ik).2.2=0 then ((ok++[if t=127 then Ev.mask32 x else x])++(Ev.hostL ts ik).1,(Ev.hostL ts ik).2.1,0) else ([],(Ev.hostL ts ik).2.1,(Ev.hostL ts ik).2.2)):=by
 simp only [Ev.hostL] at hd
 by_cases hz:(Ev.hostL ts ik).2.2=0
 .simp only [hz,if_true] at hd ⊢;rw [hd]; simp
 .simp only [hz,if_false] at hd ⊢;exact hd
theorem avl (P:Ev.Prog) (s:Ev.State) (o g l:Nat) (d:Int) (n:Int) (t:Ss.Sig) (args:List Int) (r:Ev.Res) (S:Store) (hr:RunAt S P s o g l d 0) (hn:0<=n/\n<9223372036854775808) (ht:t.out.length<=1048576) (hf:Ev.hostF s n t.out args=some r) :
  b9 123 [.ptr o 6,cj n,jn t,vl vu args] S (fun x T=>x = .tuple [vl vu r.1,cj r.2.2]/\Keeps S T [o,g,l] /\ ∃ l',RunAt T P r.2.1 o g l' d 0/\(l'=l\/S.nx<=l')):=by
 have hR:=hr;obtain ⟨h1,h2,h3,h4,h5,h6⟩:=hr;obtain ⟨⟨sg,im,gl,mu,me⟩,fns⟩:=P;obtain ⟨mem,most,glb,fuel,inp,log⟩:=s;obtain ⟨ti,to⟩:=t;simp only at ht;simp only [runC] at h1 h2 h3;simp only [Ev.hostF] at hf;split at hf
 .rename_i hlen
  cases hf
  have e1:jn ⟨ti,to⟩ = .agg [vl cj ti,vl cj to]:=rfl;rw [e1];have hwn:IntKind.u64.wrap n=n:=bU;have hb8:(log.length+1)*8<=140737488355328:=by omega
  have hb1:log.length+1<=140737488355328:=by omega
  have hb8':(log.length+1+args.length)*8<=140737488355328:=by omega
  have hb1':log.length+1+args.length<=140737488355328:=by omega
  have hap2 : ∀ (S':Store) (o':Nat),S'.get o'=some (1,List.map vu log++[V.int .u64 n])->jU 1 8 S' (.slice o' 0 (log.length+1)) (vl vu args)=some (.slice S'.nx 0 (log.length+1+args.length),(S'.del o').add (1,(log++n::args).map vu)):=fun S' o' h=>by
   rw [Wq (s:=1) (enc:=vu) (fun _=>rfl) h (by simp) hb8' hb1'];have e:jq vu args=args.map vu:=by rw [<-ajq args,List.flatMap_map]; rfl
   rw [e]; simp [vu]
  refine b7 Tryz.func123 Tryz.ntmps123 fun hwf=>?_
  have on:=ju hwf h1;have ln:=ju hwf h3;have gn:=ju hwf h2;have oo:=fun u l => @jk S u l o on
  have ool:=fun u l' => @jk S u l' l ln
  have updo:=fun u l c => @qS S u l c o on
  have dell:=fun u l' => @ad5 S u l' l ln
  refine QY ?_;refine QH 6 0 ?_;refine QY ?_ (r:=by conv=>lhs;simp[QV,oo,ool,updo,dell,h1,h3,h4,h5,h6,hwn,hb8,hb1,hap2]);refine QY ?_;refine QY ?_;refine qZ 10 1 rfl (by conv=>lhs; simp [Fr.set]) ?_;obtain ⟨L,hL⟩ : ∃ L,L=log++n::args:=⟨_,rfl⟩
  have hLl:L.length=log.length+1+args.length:=by rw [hL]; simp; omega
  rw [<-hL];have gto:=fun ks=>qu (n:=S.nx) (o:=o) ks on
  have gtg:=fun ks=>qu (n:=S.nx) (o:=g) ks gn
  have gpo:=fun ks=>qW (n:=S.nx) (o:=o) ks on
  have gpg:=fun ks=>qW (n:=S.nx) (o:=g) ks gn
  refine QO [0,6,10,11] ?_;refine Yq [3,4] hwf (by decide) (by simp [gto,gtg,gpo,gpg,jm,jp]) (by conv=>lhs; simp [gto,gtg,gpo,gpg,jm,jp]) (by conv=>lhs; simp [gto,gtg,gpo,gpg,jm,jp]) (by conv=>lhs; simp [gto,gtg,gpo,gpg,jm,jp]) ?_
  refine bz ?_
  refine bX [0,6,10,11] (fun c σ S' => ∃ (k:Nat) (ik ok:List Int),k<=to.length/\c=to.length-k/\Ev.hostL to inp=(if (Ev.hostL (to.drop k) ik).2.2=0 then (ok++(Ev.hostL (to.drop k) ik).1,(Ev.hostL (to.drop k) ik).2.1,0) else ([],(Ev.hostL (to.drop k) ik).2.1,(Ev.hostL (to.drop k) ik).2.2))/\ok.length=k/\σ=[(0, .ptr o 6),(6,(V.agg [vl cj ti,vl cj to]).ref),(10, .slice (lid S.nx 1) 0 k),(11,cu k)]/\S'=St S [(l,none),(o,some (14,[vl jn sg,cj im,vl cj gl,vl V.bool mu,V.bool me,vl jM fns,vl vby mem,cj most, .slice g 0 glb.length,cj fuel,vl vu ik,   .slice (lid S.nx 0) 0 L.length,cj d,cj 0]))] [some (1,L.map vu),some (1,ok.map vu)]) to.length ?_ ?_
  .exact ⟨0,inp,[],by omega,rfl,by rw [List.drop_zero]; split<;>rename_i hz<;>first | (rw [bm, <-hz]) | (exact (apf hz)),rfl,by simp [Fr.oy,Fr.lk],by rw [hLl]; simp [hL]⟩
  .rintro c σ T ⟨k,ik,ok,hk,rfl,hd,hok,rfl,rfl⟩
   by_cases hkt:k<to.length
   .have hw:=jg hkt (by omega);rw [am hkt] at hd;obtain ⟨tk,htk⟩ : ∃ x,to[k]=x:=⟨_,rfl⟩
    rw [htk] at hd
    cases ik with
    | nil =>
     have hd:Ev.hostL to inp=([],[],39):=hd;rw [hd]
     refine bB hkt oo updo h4 h5 h6 ?_
     exact ⟨_,_,(Ghost.tp [] [_] (Ghost.nl _)).toB _,rfl,afq (s':=⟨mem,most,glb,fuel,[],L⟩) 0 hwf hR rfl rfl rfl⟩
    | cons x ik =>
     have hl0 : ¬ (ik.length:Int)+1=0:=by omega
     have hdr : ∀ S',qp 1 S' (vl vu (x::ik)) (some (.int .i64 1)) none none=some (vl vu ik):=fun S'=>by
      have:=Kx (S:=S') (s:=1) (enc:=vu) (l:=x::ik) (k := .i64) (h:=1) (fun _=>rfl) (by omega) (by simp only [aC]; omega);exact this
     have hix : ∀ S',jF 1 S' (vl vu (x::ik)) (.int .i64 0)=some (.ref (vu x)):=fun S'=>jaI (enc:=vu) (l:=x::ik) rfl rfl
     have hd:=akl hd;have hb8k:(k+1)*8<=140737488355328:=by omega
     have hb1k:k+1<=140737488355328:=by omega
     have hm:=as1 x
     by_cases h127:tk=127
     .rw [if_pos h127] at hd
      repeat first|refine QG ?_|refine QY ?_ (r:=by conv=>lhs;simp[QV,hkt,oo,updo,h4,h5,h6,htk,h127,hl0,hdr,hix,hok,hb8k,hb1k,hw])
      refine qh [0,3] (by conv=>lhs; simp [Fr.oy]) hwf (by decide) (by simp [jm,jp,gto,gtg,gpo,gpg]) (by conv=>lhs; simp [jm,jp,gto,gtg,gpo,gpg]) (by conv=>lhs; simp [jm,jp,gto,gtg,gpo,gpg]) (by conv=>lhs; simp [jm,jp,gto,gtg,gpo,gpg]) ⟨?_,k+1,ik,ok++[Ev.mask32 x],hkt,rfl,hd,by simp [hok],by simp [Fr.oy,Fr.lk],by simp [Ev.mask32]⟩;omega
     .rw [if_neg h127] at hd
      repeat first|refine QG ?_|refine QY ?_ (r:=by conv=>lhs;simp[QV,hkt,oo,updo,h4,h5,h6,htk,h127,hl0,hdr,hix,hok,hb8k,hb1k,hw])
      refine qh [0,3] (by conv=>lhs; simp [Fr.oy]) hwf (by decide) (by simp [jm,jp,gto,gtg,gpo,gpg]) (by conv=>lhs; simp [jm,jp,gto,gtg,gpo,gpg]) (by conv=>lhs; simp [jm,jp,gto,gtg,gpo,gpg]) (by conv=>lhs; simp [jm,jp,gto,gtg,gpo,gpg]) ⟨?_,k+1,ik,ok++[x],hkt,rfl,hd,by simp [hok],by simp [Fr.oy,Fr.lk],by simp⟩;omega
   .have hke:k=to.length:=by omega
    subst hke;have hd:Ev.hostL to inp=(ok,ik,0):=by
     rw [List.drop_length] at hd;rw [hd]; simp [Ev.hostL]
    rw [hd]
    refine bD hkt ?_
    exact ⟨_,_,(Ghost.tp [] [_] (frz1 (k:=1) (cells:=ok.map vu) (by simp) (by rfl) (jo vu (fun _=>rfl) _) (by simp [hok]))).toB _,rfl,afq (s':=⟨mem,most,glb,fuel,ik,L⟩) 0 hwf hR rfl rfl rfl⟩
 .cases hf
end Go.Vw
namespace Go.Vw
open Go.Proofs Go.RowKit
theorem asn {t n:Int} (ht:t=126\/t=127) (h:Fit (Ev.cA t) n):Ev.fits t n=true/\Ev.U64 n:=by
 obtain ⟨h0,h1⟩:=h;rcases ht with rfl | rfl
 .have e:(2:Int)^Ev.cA 126=18446744073709551616:=by decide
  rw [e] at h1;exact ⟨rfl,h0,h1⟩
 .have e:(2:Int)^Ev.cA 127=4294967296:=by decide
  rw [e] at h1;exact ⟨by simp [Ev.fits,h1],h0,by omega⟩
theorem aka {op:Int} (h:Ss.rof op≠0):Ss.rsigT op=126\/Ss.rsigT op=127:=by
 simp only [Ss.rsigT];split
 .exact .inl rfl
 .split
  .exact .inr rfl
  .simp only [Ss.rof] at h ⊢;split at h
   .right; rw [if_pos ‹_›]
   .split at h
    .left; rw [if_neg ‹_›,if_pos ‹_›]
    .exact absurd rfl h
theorem anl (op:Int) (a:List Int) (hu : ∀ x∈a,Ev.U64 x) (hl:a.length<2^62) : ∃ p:Int × Int,b8 153 [cj op,vl vu a] (.tuple [vu p.1,cj p.2])/\Ev.U64 p.1/\(Ev.argsOk op a->Ev.fits (Ss.rsigT op) p.1=true/\(Ev.partialO op=false->p.2=0)):=by
 by_cases h:Ev.argsOk op a
 .obtain ⟨n,e,h1,h2,h3⟩:=ar5 op a h hu;obtain ⟨f1,f2⟩:=asn (aka h.1) h2;exact ⟨(n,e),h1,f2,fun _=>⟨f1,h3⟩⟩
 .by_cases h1:Ss.rof op=0\/a.length≠(Ss.rsig op).1.length
  .exact ⟨(0,1),anc op a h1 hl,⟨by decide,by decide⟩,fun k=>absurd k h⟩
  .have h0:Ss.rof op≠0:=fun e=>h1 (.inl e)
   have h2:a.length=(Ss.rsig op).1.length:=Decidable.not_not.1 fun e=>h1 (.inr e)
   refine ⟨(0,1),aeu op a h0 h2 ?_,⟨by decide,by decide⟩,fun k=>absurd k h⟩;refine Classical.byContradiction fun k=>h ⟨h0,h2,fun i h3 h4 => ?_⟩
   cases hf:Ev.fits (Ss.rsig op).1[i] a[i] with
   | true=>rfl
   | false=>exact absurd ⟨i,h3,h4,hf⟩ k
structure OpsV (O:Ev.Ops):Prop where
 eval : ∀ op a,(∀ x∈a,Ev.U64 x)->a.length<2^62->b8 153 [cj op,vl vu a] (.tuple [vu (O.eval op a).1,cj (O.eval op a).2])
 load : ∀ m op ad off,byteL m->Ev.U64 ad->Ev.U64 off->b8 151 [vl vby m,cj op,vu ad,vu off] (.tuple [vu (O.load m op ad off).1,cj (O.load m op ad off).2])
 store : ∀ m op ad off n,byteL m->Ev.U64 ad->Ev.U64 off->Ev.U64 n->b8 150 [vl vby m,cj op,vu ad,vu off,vu n] (.tuple [vl vby (O.store m op ad off n).1,cj (O.store m op ad off n).2])
 grow : ∀ m most p,byteL m -> -9223372036854775808<=most->most<9223372036854775808->Ev.U64 p->b8 152 [vl vby m,cj most,vu p] (.tuple [vl vby (O.grow m most p).1,vu (O.grow m most p).2])
theorem axp : ∃ O:Ev.Ops,OpsV O/\Ev.OpsOk O:=by
 have he : ∀ op a, ∃ p:Int × Int,(∀ x∈a,Ev.U64 x)->a.length<2^62->b8 153 [cj op,vl vu a] (.tuple [vu p.1,cj p.2])/\Ev.U64 p.1/\(Ev.argsOk op a->Ev.fits (Ss.rsigT op) p.1=true/\(Ev.partialO op=false->p.2=0)):=fun op a=>by
  by_cases h:(∀ x∈a,Ev.U64 x)/\a.length<2^62
  .obtain ⟨p,hp⟩:=anl op a h.1 h.2;exact ⟨p,fun _ _=>hp⟩
  .exact ⟨(0,0),fun h1 h2=>absurd ⟨h1,h2⟩ h⟩
 have hl : ∀ m op ad off, ∃ p:Int × Int,byteL m->Ev.U64 ad->Ev.U64 off->b8 151 [vl vby m,cj op,vu ad,vu off] (.tuple [vu p.1,cj p.2])/\Ev.U64 p.1/\(((Ss.accOf op).getD ⟨0,0,false,false⟩).kind=127->p.1<4294967296):=fun m op ad off=>by
  by_cases h:byteL m/\Ev.U64 ad/\Ev.U64 off
  .obtain ⟨n,e,hp⟩:=auw m op ad off h.1 h.2.1 h.2.2;exact ⟨(n,e),fun _ _ _=>hp⟩
  .exact ⟨(0,0),fun h1 h2 h3=>absurd ⟨h1,h2,h3⟩ h⟩
 have hs : ∀ m op ad off n, ∃ p:List Int × Int,(byteL m->Ev.U64 ad->Ev.U64 off->Ev.U64 n->b8 150 [vl vby m,cj op,vu ad,vu off,vu n] (.tuple [vl vby p.1,cj p.2])/\byteL p.1/\(p.2=0->p.1.length=m.length))/\(p.2=0->p.1.length=m.length):=fun m op ad off n=>by
  by_cases h:byteL m/\Ev.U64 ad/\Ev.U64 off/\Ev.U64 n
  .obtain ⟨m',e,hp⟩:=arm m op ad off n h.1 h.2.1 h.2.2.1 h.2.2.2;exact ⟨(m',e),fun _ _ _ _=>hp,hp.2.2⟩
  .exact ⟨(m,0),fun h1 h2 h3 h4=>absurd ⟨h1,h2,h3,h4⟩ h,fun _=>rfl⟩
 have hg : ∀ m most p, ∃ r:List Int × Int,(byteL m -> -9223372036854775808<=most->most<9223372036854775808->Ev.U64 p->b8 152 [vl vby m,cj most,vu p] (.tuple [vl vby r.1,vu r.2])/\byteL r.1/\m.length<=r.1.length/\0<=r.2/\r.2<4294967296)/\m.length<=r.1.length/\(m.length<=4096->r.1.length<=4096):=fun m most p=>by
  by_cases h:byteL m /\ -9223372036854775808<=most/\most<9223372036854775808/\Ev.U64 p
  .obtain ⟨m',n,hp⟩:=awc m most p h.1 h.2.1 h.2.2.1 h.2.2.2;exact ⟨(m',n),fun _ _ _ _=>⟨hp.1,hp.2.1,hp.2.2.1,hp.2.2.2.1,hp.2.2.2.2.1⟩,hp.2.2.1,hp.2.2.2.2.2⟩
  .exact ⟨(m,0),fun h1 h2 h3 h4=>absurd ⟨h1,h2,h3,h4⟩ h,a9 _,fun h=>h⟩
 refine ⟨⟨fun op a=>(he op a).choose,fun m op ad off=>(hl m op ad off).choose,fun m op ad off n=>(hs m op ad off n).choose,fun m most p=>(hg m most p).choose⟩,⟨?_, ?_, ?_, ?_⟩,⟨?_, ?_, ?_, ?_, ?_, ?_, ?_, ?_⟩⟩
 .exact fun op a h1 h2=>((he op a).choose_spec h1 h2).1
 .exact fun m op ad off h1 h2 h3=>((hl m op ad off).choose_spec h1 h2 h3).1
 .exact fun m op ad off n h1 h2 h3 h4=>((hs m op ad off n).choose_spec.1 h1 h2 h3 h4).1
 .exact fun m most p h1 h2 h3 h4=>((hg m most p).choose_spec.1 h1 h2 h3 h4).1
 .exact fun op a h1 h2=>((he op a).choose_spec h1 h2).2.1
 .exact fun op a h1 h2 h3=>((he op a).choose_spec h1 h2).2.2 h3
 .exact fun m op ad off h1 h2 h3=>((hl m op ad off).choose_spec h1 h2 h3).2
 .exact fun m op ad off n h1 h2 h3 h4=>((hs m op ad off n).choose_spec.1 h1 h2 h3 h4).2
 .exact fun m most p h1 h2 h3 h4=>((hg m most p).choose_spec.1 h1 h2 h3 h4).2
 .exact fun m op ad off n=>(hs m op ad off n).choose_spec.2
 .exact fun m most p=>(hg m most p).choose_spec.2.1
 .exact fun m most p=>(hg m most p).choose_spec.2.2
end Go.Vw
namespace Go.Vw
open Go.Proofs Go.RowKit
attribute [-simp] List.map_set
def RunPost (P:Ev.Prog) (o g l:Nat) (d:Int) (r:Ev.Res) (S:Store) (x:V) (T:Store):Prop :=
 x=vl vu r.1/\Keeps S T [o,g,l] /\ ∃ l',RunAt T P r.2.1 o g l' d r.2.2/\(l'=l\/S.nx<=l')
structure Ok (s:Ev.State):Prop where
 fit:Ev.StFits s
 fuel:0<=s.fuel
def CallOk (P:Ev.Prog) (call:Int->List Int->Ev.State->Option Ev.Res) (d:Int):Prop :=
 ∀ (n:Int) (args:List Int) (s:Ev.State) (r:Ev.Res) (S:Store) (o g l:Nat),Ok s->(∀ x∈args,Ev.U64 x)->args.length<=4096->0<=n->n<64->RunAt S P s o g l d 0->call n args s=some r ->
  b9 93 [.ptr o 0,cj n,vl vu args] S (RunPost P o g l d r S)
theorem zz {S:Store} {P:Ev.Prog} {s s':Ev.State} {o g l:Nat} {d e:Int} {out:List Int} {own:List (Option (Nat × List V))} {cells:List V} {k:Nat} (hwf:S.Wf) (hr:RunAt S P s o g l d 0) (hs:s'.globals=s.globals) (hl:s'.log=s.log) (hc:cells=runC P s' g l d e) (hk:k<own.length) (ho:(own[k]?).join=some (1,out.map vu)) :
  Jb S.nx (RunPost P o g l d (out,s',e) S) (.slice (lid S.nx k) 0 out.length) (St S [(o,some (14,cells))] own):=by
 have on:=ju hwf hr.obj;have gn:=ju hwf hr.glob;have ln:=ju hwf hr.log;have h1:=hr.og;have h2:=hr.ol;have h3:=hr.gl;refine ⟨_,_,(frz1 hk ho (jo vu (fun _=>rfl) _) (by simp)).toB _,rfl,KS fun i c hi => ?_,l,⟨?_, ?_, ?_,h1,h2,h3⟩, .inl rfl⟩
 .simp only [aL,List.not_mem_nil,or_false,not_or] at hi;simp [uGet,hi.1]
 .rw [jk on,hc]; simp [uGet]
 .rw [jk gn,hs]; simp [uGet,Ne.symm h1,hr.glob]
 .rw [jk ln,hl]; simp [uGet,Ne.symm h2,hr.log]
theorem aj2 {S:Store} {P:Ev.Prog} {s s':Ev.State} {o g l:Nat} {d e:Int} {own:List (Option (Nat × List V))} {cells:List V} (hwf:S.Wf) (hr:RunAt S P s o g l d 0) (hs:s'.globals=s.globals) (hl:s'.log=s.log) (hc:cells=runC P s' g l d e) :
  Jb S.nx (RunPost P o g l d ([],s',e) S) .nils (St S [(o,some (14,cells))] own):=by
 have on:=ju hwf hr.obj;have gn:=ju hwf hr.glob;have ln:=ju hwf hr.log;have h1:=hr.og;have h2:=hr.ol;have h3:=hr.gl;refine ⟨_,_,(Ghost.nl _).toB _,rfl,KS fun i c hi => ?_,l,⟨?_, ?_, ?_,h1,h2,h3⟩, .inl rfl⟩
 .simp only [aL,List.not_mem_nil,or_false,not_or] at hi;simp [uGet,hi.1]
 .rw [jk on,hc]; simp [uGet]
 .rw [jk gn,hs]; simp [uGet,Ne.symm h1,hr.glob]
 .rw [jk ln,hl]; simp [uGet,Ne.symm h2,hr.log]
theorem atc {S:Store} {P:Ev.Prog} {s s':Ev.State} {o g l:Nat} {d e:Int} {out:List Int} {own:List (Option (Nat × List V))} {cells:List V} {k:Nat} (hwf:S.Wf) (hr:RunAt S P s o g l d 0) (hl:s'.log=s.log) (hc:cells=runC P s' g l d e) (hk:k<own.length) (ho:(own[k]?).join=some (1,out.map vu)) :
  Jb S.nx (RunPost P o g l d (out,s',e) S) (.slice (lid S.nx k) 0 out.length) (St S [(g,some (1,s'.globals.map vu)),(o,some (14,cells))] own):=by
 have on:=ju hwf hr.obj;have gn:=ju hwf hr.glob;have ln:=ju hwf hr.log;have h1:=hr.og;have h2:=hr.ol;have h3:=hr.gl;refine ⟨_,_,(frz1 hk ho (jo vu (fun _=>rfl) _) (by simp)).toB _,rfl,KS fun i c hi => ?_,l,⟨?_, ?_, ?_,h1,h2,h3⟩, .inl rfl⟩
 .simp only [aL,List.not_mem_nil,or_false,not_or] at hi;simp [uGet,hi.1,hi.2.1]
 .rw [jk on,hc]; simp [uGet,h1]
 .rw [jk gn]; simp [uGet]
 .rw [jk ln,hl]; simp [uGet,Ne.symm h2,Ne.symm h3,hr.log]
theorem Keeps.trans {S T U:Store} {xs:List Nat} (h:Keeps S T xs) (k:Keeps T U xs):Keeps S U xs :=
 ⟨bd h.1 k.1,fun i hi hx=>(k.2 i (aS hi h.1) hx).trans (h.2 i hi hx)⟩
theorem RunAt.ext {S T:Store} {P:Ev.Prog} {s:Ev.State} {o g l:Nat} {d e:Int} (h:RunAt S P s o g l d e) (ho:T.get o=S.get o) (hg:T.get g=S.get g) (hl:T.get l=S.get l):RunAt T P s o g l d e :=
 ⟨ho.trans h.obj,hg.trans h.glob,hl.trans h.log,h.og,h.ol,h.gl⟩
theorem RunAt.own {S:Store} {P:Ev.Prog} {s:Ev.State} {o g l:Nat} {d e:Int} (hwf:S.Wf) (h:RunAt S P s o g l d e) (w:List (Option (Nat × List V))):RunAt (St S [] w) P s o g l d e :=
 h.ext (by rw [jk (ju hwf h.obj)]; rfl) (by rw [jk (ju hwf h.glob)]; rfl) (by rw [jk (ju hwf h.log)]; rfl)
theorem RunPost.own {S T:Store} {P:Ev.Prog} {o g l:Nat} {d:Int} {r:Ev.Res} {x:V} {w:List (Option (Nat × List V))} (h:RunPost P o g l d r (St S [] w) x T):RunPost P o g l d r S x T:=by
 obtain ⟨h1,h2,l',h3,h4⟩:=h;refine ⟨h1,(KS fun i c hi=>rfl).trans h2,l',h3,h4.imp_right fun h => ?_⟩;rw [jR,lid] at h; omega
theorem ax1 (O:Ev.Ops) (hO:OpsV O) (P:Ev.Prog) (call:Int->List Int->Ev.State->Option Ev.Res) (f:Ss.Fn) (x:Ss.Ins) (a:List Int) (s:Ev.State) (o g l:Nat) (d:Int) (r:Ev.Res) (S:Store)
  (hcall:CallOk P call d) (hs:Ok s) (hx:x.Fits) (ha : ∀ y∈a,Ev.U64 y) (hal:a.length<=4096) (hcl:x.op=16->x.n<64) (hr:RunAt S P s o g l d 0) (hf:Ev.oneF O call x a s=some r) :
  b9 142 [.ptr o 0,jM f,js x,vl vu a] S (RunPost P o g l d r S):=by
 have hR:=hr;obtain ⟨h1,h2,h3,h4,h5,h6⟩:=hr;obtain ⟨⟨hmB,hmo,hgW,hfu,hiW,hlW⟩,hf0⟩:=hs;have ca:=Ym x.op;obtain ⟨⟨fi,fo⟩,ft,fb⟩:=f;obtain ⟨op,n,xa,xo⟩:=x;obtain ⟨mem,most,glb,fuel,inp,log⟩:=s;obtain ⟨_,⟨n0,n1⟩,_,_⟩:=hx;simp only at ca n0 n1 hcl hmB hmo hgW hfu hiW hlW hf0;simp only [runC] at h1 h2 h3;have e1:jM ⟨⟨fi,fo⟩,ft,fb⟩ = .agg [vl cj fi,vl cj fo,vl cj ft,vl je fb]:=rfl;have e2:js ⟨op,n,xa,xo⟩ = .agg [cj op,vu n,vl cj xa,vl cj xo]:=rfl;rw [e1,e2];obtain ⟨ok,hok⟩ : ∃ b,b=(Ss.accOf op).isSome:=⟨_,rfl⟩
 obtain ⟨acc,hacc⟩ : ∃ b,b=(Ss.accOf op).getD ⟨0,0,false,false⟩:=⟨_,rfl⟩
 rw [<-hok, <-hacc] at ca;refine b7 Tryz.func142 Tryz.ntmps142 fun hwf=>?_
 have on:=ju hwf h1;have gn:=ju hwf h2;have oo:=fun u l => @jk S u l o on
 have gg:=fun u l => @jk S u l g gn
 have updo:=fun u l c => @qS S u l c o on
 have updg:=fun u l c => @qS S u l c g gn
 refine QY ?_;refine QH 5 0 ?_;refine QH 6 1 ?_;refine QP ?_;refine QL ca ?_;refine QW ?_;refine QY ?_
 by_cases c1:op=256
 .subst c1;have hok:ok=false:=hok;subst hok;have hf:([n],_,0)=r:=Option.some.inj hf;subst hf
  refine bG oo updo h1 ?_
  exact zz (k:=2) (out:=[n]) hwf hR rfl rfl rfl (by simp) rfl
 by_cases c2:op=258
 .subst c2;have hok:ok=false:=hok;subst hok;have hf:(if fuel=0 then some ([],⟨mem,most,glb,fuel,inp,log⟩,36) else some ([0],⟨mem,most,glb,fuel-1,inp,log⟩,0))=some r:=hf
  by_cases f0:fuel=0
  .rw [if_pos f0] at hf
   cases hf
   subst f0
   refine bG oo updo h1 ?_
   exact aj2 hwf hR rfl rfl rfl
  .rw [if_neg f0] at hf
   cases hf
   have hw:IntKind.i64.wrap (fuel-1)=fuel-1:=wrap_i64 (by omega) (by omega)
   refine bO oo updo h1 f0 hw ?_
   exact zz (k:=2) (out:=[0]) (s':=⟨mem,most,glb,fuel-1,inp,log⟩) hwf hR rfl rfl rfl (by simp) rfl
 by_cases c3:op=27
 .subst c3;have hok:ok=false:=hok;subst hok;rcases a with _ | ⟨p,_ | ⟨q,_ | ⟨t,_ | _⟩⟩⟩
  .cases hf
  .cases hf
  .cases hf
  .have hf:([if t=0 then q else p],(⟨mem,most,glb,fuel,inp,log⟩:Ev.State),0)=r:=Option.some.inj hf;subst hf;have i0 : ∀ S',jF 1 S' (vl vu [p,q,t]) (.int .i64 0)=some (.ref (vu p)):=fun _=>rfl
   have i1 : ∀ S',jF 1 S' (vl vu [p,q,t]) (.int .i64 1)=some (.ref (vu q)):=fun _=>rfl
   have i2 : ∀ S',jF 1 S' (vl vu [p,q,t]) (.int .i64 2)=some (.ref (vu t)):=fun _=>rfl
   by_cases t0:t=0
   .rw [if_pos t0];subst t0
    refine bB oo updo h1 i0 i1 i2 ?_
    exact zz (k:=2) (out:=[q]) hwf hR rfl rfl rfl (by simp) rfl
   .rw [if_neg t0]
    repeat first|refine QG ?_|refine QY ?_ (r:=by conv=>lhs;simp[QV,oo,updo,h1,i0,i1,i2,t0])
    exact zz (k:=2) (out:=[p]) hwf hR rfl rfl rfl (by simp) rfl
  .cases hf
 by_cases c4:op=35
 .subst c4;have hok:ok=false:=hok;subst hok;have hf:(match glb[n.toNat]? with
   | some y=>some ([y],(⟨mem,most,glb,fuel,inp,log⟩:Ev.State),0)
   | none=>none)=some r:=hf
  obtain ⟨k,rfl⟩ : ∃ k:Nat,n=(k:Int):=⟨n.toNat,by omega⟩
  rw [bq] at hf
  cases hy:glb[k]? with
  | none=>rw [hy] at hf; cases hf
  | some y =>
   rw [hy] at hf
   cases hf
   obtain ⟨hk,hy⟩:=ae.1 hy
   refine bG oo updo h1 ?_
   refine bY (r:=by conv=>lhs;simp[QV,oo,gg,h1,h2,h4,h6,hk,hy]) (k:=?_);refine QN ?_
   refine bG oo updo h1 ?_
   exact zz (k:=2) (out:=[y]) hwf hR rfl rfl rfl (by simp) rfl
 by_cases c5:op=36
 .subst c5;have hok:ok=false:=hok;subst hok;rcases a with _ | ⟨p,_ | _⟩
  .cases hf
  .have hf:(if n.toNat<glb.length then some ([0],(⟨mem,most,glb.set n.toNat p,fuel,inp,log⟩:Ev.State),0) else none)=some r:=hf;obtain ⟨k,rfl⟩ : ∃ k:Nat,n=(k:Int):=⟨n.toNat,by omega⟩
   rw [bq] at hf;split at hf
   .rename_i hk
    cases hf
    have i0 : ∀ S',jF 1 S' (vl vu [p]) (.int .i64 0)=some (.ref (vu p)):=fun _=>rfl
    have hset:(glb.map vu).set k (.int .u64 p)=(glb.set k p).map vu:=by rw [List.map_set]; rfl
    refine bG oo updo h1 ?_
    rw [Kd h2];refine bZ (St S [(g,none)] [none,none]) (St S [(g,some (1,glb.map vu))] [none,none]) [] ?_ (r:=by conv=>lhs; simp [QV,oo,gg,h1,h2,h4,h6,hk,i0]);refine QI ?_ (r:=by conv=>lhs;simp[QV,oo,gg,updg,h1,h2,h4,h6,hk,i0,hset]);refine QN ?_
    refine bH oo updo h1 h4 ?_
    exact atc (k:=2) (out:=[0]) (s':=⟨mem,most,glb.set k p,fuel,inp,log⟩) hwf hR rfl (by simp [runC]) (by simp) rfl
   .cases hf
  .cases hf
 by_cases c6:op=16
 .subst c6;have hok:ok=false:=hok;subst hok;have hf:call n a ⟨mem,most,glb,fuel,inp,log⟩=some r:=hf;have hn:=hcl rfl;have hw:IntKind.i64.wrap n=n:=wrap_i64 (by omega) (by omega)
  refine bz ?_
  refine bN hw ?_;refine jK rfl (hcall n a _ r _ o g l ⟨⟨hmB,hmo,hgW,hfu,hiW,hlW⟩,hf0⟩ ha hal (by omega) hn (hR.own hwf _) hf) ?_;rintro X T hX;refine bV ?_
  exact ⟨_,_,GhostB.refl _ _ _,hX.own⟩
 by_cases c7:op=257
 .subst c7;have hok:ok=false:=hok;subst hok;rcases a with _ | ⟨p,_ | _⟩
  .cases hf
  .have hf:([0],(⟨mem,most,glb,fuel,inp,log⟩:Ev.State),if Ev.insideI mem.length p n=true then 0 else 35)=r:=Option.some.inj hf;subst hf;have i0 : ∀ S',jF 1 S' (vl vu [p]) (.int .i64 0)=some (.ref (vu p)):=fun _=>rfl
   have cin:=jbo mem p n hmB (ha p (by simp)).1 n0;generalize Ev.insideI mem.length p n=ib at *
   refine bG oo updo h1 ?_
   refine bY (r:=by conv=>lhs;simp[QV,oo,h1,i0]) (k:=?_);refine QL cin ?_
   cases ib with
   | true =>
    refine QW ?_
    refine bG oo updo h1 ?_
    exact zz (k:=2) (out:=[0]) hwf hR rfl rfl rfl (by simp) rfl
   | false =>
    refine QW ?_
    refine bG oo updo h1 ?_
    exact zz (k:=2) (out:=[0]) hwf hR rfl rfl rfl (by simp) rfl
  .cases hf
 simp only [Ev.oneF,if_neg c1,if_neg c2,if_neg c3,if_neg c4,if_neg c5,if_neg c6,if_neg c7] at hf
 cases hao:Ss.accOf op with
 | some c =>
  rw [hao] at hf hok hacc;have hok:ok=true:=hok;have hacc:acc=c:=hacc;subst hok hacc;simp only at hf
  cases hst:acc.store with
  | true =>
   rw [hst,if_pos rfl] at hf;rcases a with _ | ⟨p,_ | ⟨q,_ | _⟩⟩
   .cases hf
   .cases hf
   .have hf:=Option.some.inj hf;have i0 : ∀ S',jF 1 S' (vl vu [p,q]) (.int .i64 0)=some (.ref (vu p)):=fun _=>rfl
    have i1 : ∀ S',jF 1 S' (vl vu [p,q]) (.int .i64 1)=some (.ref (vu q)):=fun _=>rfl
    have cst:=hO.store mem op p n q hmB (ha p (by simp)) ⟨n0,n1⟩ (ha q (by simp));generalize O.store mem op p n q=sr at *
    obtain ⟨m',e⟩:=sr;simp only at hf cst
    by_cases e0:e=0
    .rw [if_pos e0,if_pos e0] at hf;subst hf
     repeat first|refine QG ?_|refine QY ?_ (r:=by conv=>lhs;simp[QV,oo,updo,h1,c1,c2,c3,c4,c5,c6,c7,hst])
     refine bY (r:=by conv=>lhs;simp[QV,oo,h1,i0,i1]) (k:=?_);refine QL cst ?_;subst e0;refine QW ?_
     refine bG oo updo h1 ?_
     exact zz (k:=2) (out:=[0]) (s':=⟨m',most,glb,fuel,inp,log⟩) hwf hR rfl rfl rfl (by simp) rfl
    .rw [if_neg e0,if_neg e0] at hf;subst hf
     repeat first|refine QG ?_|refine QY ?_ (r:=by conv=>lhs;simp[QV,oo,updo,h1,c1,c2,c3,c4,c5,c6,c7,hst])
     refine bY (r:=by conv=>lhs;simp[QV,oo,h1,i0,i1]) (k:=?_);refine QL cst ?_;refine QW ?_
     refine bH oo updo h1 e0 ?_
     exact zz (k:=2) (out:=[0]) hwf hR rfl rfl rfl (by simp) rfl
   .cases hf
  | false =>
   rw [hst,if_neg (by decide)] at hf;rcases a with _ | ⟨p,_ | _⟩
   .cases hf
   .have hf:=Option.some.inj hf;have i0 : ∀ S',jF 1 S' (vl vu [p]) (.int .i64 0)=some (.ref (vu p)):=fun _=>rfl
    have cld:=hO.load mem op p n hmB (ha p (by simp)) ⟨n0,n1⟩;generalize O.load mem op p n=sr at *
    obtain ⟨y,e⟩:=sr;simp only at hf cld
    by_cases e0:e=0
    .rw [if_pos e0] at hf;subst hf;subst e0
     repeat first|refine QG ?_|refine QY ?_ (r:=by conv=>lhs;simp[QV,oo,updo,h1,c1,c2,c3,c4,c5,c6,c7,hst])
     refine bY (r:=by conv=>lhs;simp[QV,oo,h1,i0]) (k:=?_);refine QL cld ?_;refine QW ?_
     refine bG oo updo h1 ?_
     exact zz (k:=2) (out:=[y]) hwf hR rfl rfl rfl (by simp) rfl
    .rw [if_neg e0] at hf;subst hf
     repeat first|refine QG ?_|refine QY ?_ (r:=by conv=>lhs;simp[QV,oo,updo,h1,c1,c2,c3,c4,c5,c6,c7,hst])
     refine bY (r:=by conv=>lhs;simp[QV,oo,h1,i0]) (k:=?_);refine QL cld ?_;refine QW ?_
     refine bH oo updo h1 e0 ?_
     exact zz (k:=2) (out:=[y]) hwf hR rfl rfl rfl (by simp) rfl
   .cases hf
 | none =>
  rw [hao] at hf hok;have hok:ok=false:=hok;subst hok;simp only at hf
  by_cases c8:op=63
  .rw [if_pos c8] at hf
   cases hf
   subst c8;obtain ⟨q,hq⟩ : ∃ q,(mem.length:Int).tdiv 256=q:=⟨_,rfl⟩
   have hml:=hmB.1;have hq0:0<=q/\q<=140737488355328:=by
    rw [Int.tdiv_eq_ediv_of_nonneg (by omega)] at hq;omega
   have w1:IntKind.i64.wrap q=q:=wrap_i64 (by omega) (by omega);have w2:IntKind.u64.wrap q=q:=bU;rw [hq]
   refine bB oo updo h1 hq w1 w2 ?_
   exact zz (k:=2) (out:=[q]) hwf hR rfl rfl rfl (by simp) rfl
  rw [if_neg c8] at hf
  by_cases c9:op=64
  .rw [if_pos c9] at hf;subst c9;rcases a with _ | ⟨p,_ | _⟩
   .cases hf
   .have hf:=Option.some.inj hf;have i0 : ∀ S',jF 1 S' (vl vu [p]) (.int .i64 0)=some (.ref (vu p)):=fun _=>rfl
    have cgr:=hO.grow mem most p hmB hmo.1 hmo.2 (ha p (by simp));generalize O.grow mem most p=sr at *
    obtain ⟨m',y⟩:=sr;simp only at hf cgr;subst hf
    refine bG oo updo h1 ?_
    rw [Kd h1];refine bZ (St S [(o,none)] [none,none]) (St S [(o,some (14,[vl jn P.env.sigs,cj P.env.imports,vl cj P.env.globals,vl V.bool P.env.muts, .bool P.env.mem,vl jM P.fns,vl vby mem,cj most, .slice g 0 glb.length,cj fuel,vl vu inp, .slice l 0 log.length,cj d,cj 0]))] [none,none]) [200,205] ?_ (r:=by conv=>lhs; simp [QV,oo,h1,i0]);refine QL cgr ?_;refine bK oo h1 ?_;refine QI ?_ (r:=by conv=>lhs;simp[QV,oo,updo,h1]);refine QW ?_
    refine bG oo updo h1 ?_
    exact zz (k:=2) (out:=[y]) (s':=⟨m',most,glb,fuel,inp,log⟩) hwf hR rfl rfl rfl (by simp) rfl
   .cases hf
  rw [if_neg c9] at hf
  cases hf
  have cev:=hO.eval op a ha (by omega);generalize O.eval op a=sr at *
  obtain ⟨y,e⟩:=sr;simp only at cev ⊢
  repeat first|refine QG ?_|refine QY ?_ (r:=by conv=>lhs;simp[QV,oo,updo,h1,c1,c2,c3,c4,c5,c6,c7,c8,c9])
  refine QP ?_;refine QL cev ?_;refine QW ?_
  refine bG oo updo h1 ?_
  exact zz (k:=2) (out:=[y]) hwf hR rfl rfl rfl (by simp) rfl
end Go.Vw
namespace Go.Vw
open Go.Proofs Go.RowKit
def PostX (P:Ev.Prog) (o g l:Nat) (d e:Int) (s:Ev.State) (X:V) (S:Store) (x:V) (T:Store):Prop :=
 x=X/\Keeps S T [o,g,l] /\ ∃ l',RunAt T P s o g l' d e/\(l'=l\/S.nx<=l')
def JW (S:Store) (P:Ev.Prog) (s:Ev.State) (o g l:Nat) (d e:Int):Store :=
 St S [(o,some (14,runC P s g (lid S.nx 0) d e)),(g,some (1,s.globals.map vu)),(l,none)] [some (1,s.log.map vu)]
def ownS (S:Store) (P:Ev.Prog) (s:Ev.State) (o g l:Nat) (d e:Int) (w:List (Option (Nat × List V))) (k:Nat):Store :=
 St S [(o,some (14,runC P s g (lid S.nx k) d e)),(g,some (1,s.globals.map vu)),(l,none)] w
theorem afe {P:Ev.Prog} {s:Ev.State} {g l g' l':Nat} {d e:Int} {f:Nat->Nat} (hg:f g=g') (hl:f l=l'):V.renL f (runC P s g l d e)=runC P s g' l' d e:=by
 simp only [runC,V.renL,hg,hl,V.ren,vl,cj]
def renP (n a b i:Nat):Nat:=if i<n then i else if i=n then a else b+i
theorem act {n a b i:Nat} (h:i<n):renP n a b i=i:=if_pos h
theorem ajd {n a b:Nat}:renP n a b n=a:=by rw [renP,if_neg (Nat.lt_irrefl _),if_pos rfl]
theorem ai7 {n a b i:Nat} (h:n<i):renP n a b i=b+i:=by rw [renP,if_neg (by omega),if_neg (by omega)]
theorem aq5 {S T:Store} {P:Ev.Prog} {s:Ev.State} {o g l l':Nat} {d e:Int} (hwf:S.Wf) (ho:o<S.nx) (hg:g<S.nx) (hl:l<S.nx) (hk:Keeps S T [o,g,l]) (hr:RunAt T P s o g l' d e) (hll:l'=l\/S.nx<=l') (h5:o≠g) (h6:o≠l) (h7:g≠l) :
  RenS (renP S.nx l' T.nx) S.nx T (JW S P s o g l d e):=by
 have hf : ∀ i,i<S.nx->renP S.nx l' T.nx i=i:=fun i h=>act h
 have hf0:renP S.nx l' T.nx S.nx=l':=ajd;have hn:(JW S P s o g l d e).nx=S.nx+1:=by simp [JW,jR,lid]
 have hs : ∀ i,((JW S P s o g l d e).get i).isSome=true->(i<S.nx/\i≠l)\/i=S.nx:=fun i h=>by
  by_cases h1:i<S.nx
  .refine .inl ⟨h1,fun e => ?_⟩;subst e;simp [JW,jk h1,uGet,Ne.symm h6,Ne.symm h7] at h
  .rw [JW,qJ,if_neg h1] at h
   cases h2:i-S.nx with
   | zero=>right; omega
   | succ n=>rw [h2] at h; cases h
 refine ⟨fun i c hc => ?_,fun i i' h1 h2 he => ?_,fun i hi => ?_,hf,by omega⟩
 .rcases hs i (by rw [hc]; rfl) with ⟨h1,h2⟩ | h1
  .refine ⟨by omega, ?_⟩;rw [hf i h1];rw [JW,jk h1] at hc;simp only [uGet] at hc;split at hc
   .rename_i e; subst e
    cases hc
    rw [hr.obj];exact congrArg (fun c=>some (14,c)) (afe (hf g hg) hf0).symm
   .split at hc
    .rename_i e; subst e
     cases hc
     rw [hr.glob,jm]
    .rename_i e1 e2;rw [hk.2 i h1 (by simp [e1,e2,h2]),hc];have:=hwf.ids i c hc;simp only [qF,aD] at this;rw [qi,(aZ fun x hm=>WI (fun o h=>hf o (by simpa using h)) x (this x hm)).trans (List.map_id _)]
  .subst h1;refine ⟨by omega, ?_⟩;rw [hf0];rw [JW,qJ,if_neg (Nat.lt_irrefl _),Nat.sub_self] at hc
   cases hc
   rw [hr.log,jm]
 .rcases hs i h1 with ⟨k1,k2⟩ | rfl
  .rw [hf i k1] at he;rcases hs i' h2 with ⟨k3,k4⟩ | rfl
   .rw [hf i' k3] at he; exact he
   .rw [hf0] at he; subst he;rcases hll with e | e
    .exact absurd e k2
    .omega
  .rw [hf0] at he;rcases hs i' h2 with ⟨k3,k4⟩ | rfl
   .rw [hf i' k3] at he; subst he;rcases hll with e | e
    .exact absurd e k4
    .omega
   .rfl
 .rw [hn] at hi;rw [ai7 (by omega)];omega
theorem ZR {S:Store} {P:Ev.Prog} {s s0:Ev.State} {o g l:Nat} {d e d0 e0:Int} {f:FuncId} {xs:List V} {X:V} (h0:RunAt S P s0 o g l d0 e0) (hx:X.ids (fun _=>false)=true) (h:b9 f xs S (PostX P o g l d e s X S)) :
  b9 f xs S (fun x T=>x=X/\T=JW S P s o g l d e):=by
 refine Jm fun hwf=>zq (h.mono fun x T hh => ?_)
 obtain ⟨rfl,hk,l',hr,hll⟩:=hh;refine ⟨_,_,GhostB.ren (aq5 hwf (ju hwf h0.obj) (ju hwf h0.glob) (ju hwf h0.log) hk hr hll h0.og h0.ol h0.gl) (WI (p:=fun _=>false) (fun _ h=>by cases h) _ hx).symm,rfl,rfl⟩
theorem akr {p:Nat->Bool} (l:List Int) (e:Int):V.ids p (.tuple [vl vu l,cj e])=true:=rfl
theorem ahk {p:Nat->Bool} (l:List Int):V.ids p (vl vu l)=true:=rfl
theorem ar4 {S:Store} {P:Ev.Prog} {s s':Ev.State} {o g l:Nat} {d e d' e':Int} {w:List (Option (Nat × List V))} {k:Nat} (ho:o<S.nx) (hg:g<S.nx) (hl:l<S.nx) (h5:o≠g) (h6:o≠l) (h7:g≠l) :
  JW (ownS S P s o g l d e w k) P s' o g (lid S.nx k) d' e'=ownS S P s' o g l d' e' (w.set k none++[some (1,s'.log.map vu)]) w.length:=by
 have hn:(ownS S P s o g l d e w k).nx=S.nx+w.length:=by simp [ownS,jR,lid]
 refine Store.ext' (funext fun i => ?_) (by simp only [JW,jR,hn]; simp [ownS,jR,lid]; omega);rw [JW,qJ,hn,ownS,qJ,ownS,qJ]
 by_cases h1:i<S.nx
 .have hk:i≠lid S.nx k:=by simp only [lid]; omega
  have hll:lid (S.nx+w.length) 0=lid S.nx w.length:=by simp [lid]
  simp only [if_pos h1,if_pos (show i<S.nx+w.length by omega),uGet,if_neg hk,hll]
  by_cases e1:i=o
  .simp only [if_pos e1]
  .simp only [if_neg e1]
   by_cases e2:i=g
   .simp only [if_pos e2]
   .simp only [if_neg e2]
 .have hio:i≠o:=by omega
  have hig:i≠g:=by omega
  have hil:i≠l:=by omega
  simp only [if_neg h1,uGet,if_neg hio,if_neg hig]
  by_cases h2:i<S.nx+w.length
  .rw [if_pos h2,aT (by simp; omega)]
   by_cases h3:i=lid S.nx k
   .have h4:i-S.nx=k:=by simp only [lid] at h3; omega
    rw [if_pos h3,h4,aX (by simp only [lid] at h3; omega)]; rfl
   .rw [if_neg h3,aQ (by simp only [lid] at h3; omega)]
  .rw [if_neg h2,bf (by simp; omega)];simp only [List.length_set]
   congr 2; omega
theorem avz {S:Store} {P:Ev.Prog} {s:Ev.State} {o g l:Nat} {d e:Int} {w:List (Option (Nat × List V))} (hwf:S.Wf) (hr:RunAt S P s o g l d e) (hw : ∀ c∈w, ∀ x,c=some x->V.idsL (fun i=>decide (i<S.nx+w.length)) x.2=true) :
  RenS (renP (S.nx+w.length) l 0) S.nx (St S [] w) (ownS S P s o g l d e (w++[some (1,s.log.map vu)]) w.length):=by
 have on:=ju hwf hr.obj;have gn:=ju hwf hr.glob;have ln:=ju hwf hr.log;have hf : ∀ i,i<S.nx+w.length->renP (S.nx+w.length) l 0 i=i:=fun i h=>act h
 have hf0:renP (S.nx+w.length) l 0 (S.nx+w.length)=l:=ajd;have hn:(ownS S P s o g l d e (w++[some (1,s.log.map vu)]) w.length).nx=S.nx+w.length+1:=by simp [ownS,jR,lid]; omega
 have hs : ∀ i,((ownS S P s o g l d e (w++[some (1,s.log.map vu)]) w.length).get i).isSome=true->(i<S.nx+w.length/\i≠l)\/i=S.nx+w.length:=fun i h=>by
  by_cases h1:i<S.nx
  .refine .inl ⟨by omega,fun e => ?_⟩;subst e;simp [ownS,jk h1,uGet,Ne.symm hr.ol,Ne.symm hr.gl] at h
  .rw [ownS,qJ,if_neg h1] at h
   by_cases h2:i-S.nx<(w++[some (1,s.log.map vu)]).length
   .simp at h2; omega
   .rw [aJ (by omega)] at h; cases h
 refine ⟨fun i c hc => ?_,fun i i' h1 h2 he => ?_,fun i hi => ?_,fun i hi=>hf i (by omega),by omega⟩
 .rcases hs i (by rw [hc]; rfl) with ⟨h1,h2⟩ | h1
  .refine ⟨by omega, ?_⟩;rw [hf i h1]
   by_cases h3:i<S.nx
   .rw [jk h3];rw [ownS,jk h3] at hc;simp only [uGet] at hc ⊢;split at hc
    .rename_i e; subst e
     cases hc
     rw [hr.obj];exact congrArg (fun c=>some (14,c)) (afe (hf g (by omega)) hf0).symm
    .split at hc
     .rename_i e; subst e
      cases hc
      rw [hr.glob,jm]
     .rw [hc];have:=hwf.ids i c hc;simp only [qF,aD] at this;rw [qi,(aZ fun x hm=>WI (fun o h=>hf o (by have:=aP h; omega)) x (this x hm)).trans (List.map_id _)]
   .rw [qJ,if_neg h3];rw [ownS,qJ,if_neg h3,aT (by omega)] at hc
    cases hw2:w[i-S.nx]? with
    | none=>rw [hw2] at hc; cases hc
    | some y =>
     rw [hw2] at hc;simp only [Option.join_some] at hc ⊢;have:=hw y (aA hw2) c hc;simp only [qF,aD] at this;rw [hc,qi,(aZ fun x hm=>WI (fun o h=>hf o (by simpa using h)) x (this x hm)).trans (List.map_id _)]
  .subst h1;refine ⟨by omega, ?_⟩;rw [hf0,jk ln];rw [ownS,qJ,if_neg (by omega),bf (by omega)] at hc;simp at hc;subst hc;simp [uGet,hr.log,jm]
 .rcases hs i h1 with ⟨k1,k2⟩ | rfl
  .rw [hf i k1] at he;rcases hs i' h2 with ⟨k3,k4⟩ | rfl
   .rw [hf i' k3] at he; exact he
   .rw [hf0] at he; exact absurd he k2
  .rw [hf0] at he;rcases hs i' h2 with ⟨k3,k4⟩ | rfl
   .rw [hf i' k3] at he; exact absurd he.symm k4
   .rfl
 .rw [hn] at hi;rw [ai7 (by omega),jR,lid];omega
theorem agt {S:Store} {P:Ev.Prog} {s:Ev.State} {o g l:Nat} {d e:Int} {w:List (Option (Nat × List V))} {k:Nat} (ho:o<S.nx) (hg:g<S.nx) (hl:l<S.nx) (h5:o≠g) (h6:o≠l) (h7:g≠l) (hk:(w[k]?).join=some (1,s.log.map vu)):RunAt (ownS S P s o g l d e w k) P s o g (lid S.nx k) d e:=by
 refine ⟨?_, ?_, ?_,h5, ?_, ?_⟩
 .rw [ownS,jk ho]; simp [uGet]
 .rw [ownS,jk hg]; simp [uGet,Ne.symm h5]
 .rw [ownS,jB,hk]
 .simp only [lid]; omega
 .simp only [lid]; omega
theorem adx {S:Store} {P:Ev.Prog} {s:Ev.State} {o g l:Nat} {d e:Int} {w:List (Option (Nat × List V))} {k:Nat}:Keeps S (ownS S P s o g l d e w k) [o,g,l] :=
 KS fun i c hi=>by
  simp only [aL,List.not_mem_nil,or_false,not_or] at hi;simp [uGet,hi.1,hi.2.1,hi.2.2]
theorem acv {S:Store} {P:Ev.Prog} {s:Ev.State} {o g l:Nat} {d e:Int} {out:List Int} {w:List (Option (Nat × List V))} {k:Nat} (hwf:S.Wf) (ho:o<S.nx) (hg:g<S.nx) (hl:l<S.nx) (h5:o≠g) (h6:o≠l) (h7:g≠l) (hk:(w[k]?).join=some (1,s.log.map vu)) :
  Jb S.nx (RunPost P o g l d (out,s,e) S) (vl vu out) (ownS S P s o g l d e w k) :=
 ⟨_,_,GhostB.refl _ _ _,rfl,adx,lid S.nx k,agt ho hg hl h5 h6 h7 hk, .inr (by simp [lid])⟩
theorem ai8 {S:Store} {P:Ev.Prog} {s:Ev.State} {o g l:Nat} {d e:Int} {w:List (Option (Nat × List V))} {k:Nat} (hwf:S.Wf) (ho:o<S.nx) (hg:g<S.nx) (hl:l<S.nx) (h5:o≠g) (h6:o≠l) (h7:g≠l) (hk:(w[k]?).join=some (1,s.log.map vu)) :
  Jb S.nx (RunPost P o g l d ([],s,e) S) .nils (ownS S P s o g l d e w k) :=
 ⟨_,_,(Ghost.nl _).toB _,rfl,adx,lid S.nx k,agt ho hg hl h5 h6 h7 hk, .inr (by simp [lid])⟩
end Go.Vw
namespace Go.Vw
open Go.Proofs Go.RowKit
attribute [-simp] List.map_set
attribute [local simp] amc
abbrev ckR (e:Ss.Env) (f:Ss.Fn) (ds:List Ss.Def) (near:List Int):V := .ref (.agg (ckC e f (vl qb ds) (vl cj near)))
theorem amr {α:Type} {p:α->α->Bool} {l m:List α} {k:Nat} (h1:k<l.length) (h2:k<m.length):eqF p (l.drop k) (m.drop k)=(p l[k] m[k]&&eqF p (l.drop (k+1)) (m.drop (k+1))):=by
 rw [am h1,am h2,eqF]
theorem aue {α:Type} {p:α->α->Bool} {l m:List α} {k:Nat} (h1 : ¬ k<l.length) (h2 : ¬ k<m.length):eqF p (l.drop k) (m.drop k)=true:=by
 have e1:l.drop k=[]:=by rw [aH]; omega
 have e2:m.drop k=[]:=by rw [aH]; omega
 rw [e1,e2,eqF]
theorem jcD (e:Ss.Env) (f:Ss.Fn) (ds:List Ss.Def) (near:List Int) (l:List Int) (hl:l.length<=1048576) (hv:Ss.InTs f.types.length l):b8 48 [ckR e f ds near,vl cj l] (vl cj (Ss.cv f.types l)):=by
 intro S;obtain ⟨⟨fi,fo⟩,ts,bs⟩:=f;simp only at hv;generalize hg:(fun v:Int=>ts.getD v.toNat 0)=g;have hX:Ss.cv ts l=l.map g:=by rw [Ss.cv,hg]
 simp only;rw [hX];refine b7 Tryz.func48 Tryz.ntmps48 fun hwf=>?_
 refine QY ?_;refine QY ?_;refine qZ 5 1 rfl (by conv=>lhs; simp [Fr.set]) ?_
 refine bz ?_
 refine bX [0,1,5,6] (fun c σ S' => ∃ (k:Nat) (out:List Int),k<=l.length/\c=l.length-k/\out=(l.take k).map g/\out.length=k/\σ=[(0,ckR e ⟨⟨fi,fo⟩,ts,bs⟩ ds near),(1,vl cj l),(5, .slice (lid S.nx 0) 0 k),(6,cu k)]/\S'=St S [] [some (1,out.map cj)]) l.length ?_ ?_
 .exact ⟨0,[],by omega,rfl,by simp,rfl,by simp [Fr.oy],by simp⟩
 .rintro c σ T ⟨k,out,hk,rfl,ho,hlen,rfl,rfl⟩
  by_cases hkt:k<l.length
  .have hw:=jg hkt (by omega);obtain ⟨h0,h1⟩:=hv _ (ah hkt);obtain ⟨v,hx⟩ : ∃ v,l[k]=v:=⟨_,rfl⟩
   rw [hx] at h0 h1;obtain ⟨n,rfl⟩ : ∃ n:Nat,v=n:=⟨v.toNat,by omega⟩
   have hn:n<ts.length:=by omega
   have hgn:g (n:Int)=ts[n]:=by rw [<-hg]; simp [hn]
   have htk:l.take (k+1)=l.take k++[(n:Int)]:=by rw [List.take_add_one,ac hkt,hx]; rfl
   have hb:(k+1)*8<=140737488355328:=by omega
   have hb':k+1<=140737488355328:=by omega
   refine bB hkt hx hn hlen hb hb' ?_
   refine bZ (St S [] [none]) (St S [] [none]) [] ?_ (r:=by conv=>lhs; simp [QV,hkt,hx,hn,hlen,hb,hb']);refine QI ?_ (r:=by conv=>lhs;simp[QV,hkt,hx,hn,hlen,hb,hb']);refine QI ?_ (r:=by conv=>lhs;simp[QV,hkt,hx,hn,hlen,hb,hb']);refine QW ?_
   refine bB hkt hx hn hlen hb hb' ?_
   refine QA [2] (h:=⟨?_,k+1,out++[ts[n]],hkt,rfl,by rw [htk,List.map_append,ho]; simp [hgn],by simp [hlen],by simp [hw],by simp⟩);omega
  .have hke:k=l.length:=by omega
   subst hke;rw [List.take_length] at ho
   refine bD hkt ?_
   rw [<-ho];exact jf hwf ((frz1 (by simp) (by rfl) (jo cj (fun _=>rfl) _) (by simpa using hlen)).toB _) rfl
theorem jcE (e:Ss.Env) (f:Ss.Fn) (ds:List Ss.Def) (near:List Int) (block pos:Int) (l types:List Int) (hds:ds.length=f.types.length) (htl:f.types.length<2^63) (hnl:near.length<2^63) (hl:l.length<2^63) (hnn : ∀ x∈ds,x.made=true->0<=x.block) :
  b8 89 [ckR e f ds near,vl cj l,vl cj types,cj block,cj pos] (.bool (Ss.asks f.types ds near block pos l types)):=by
 intro S;obtain ⟨⟨fi,fo⟩,ts,bs⟩:=f;simp only at hds htl ⊢;unfold Ss.asks;generalize hP:Ss.askOk ts ds near block pos=P
 by_cases hlm:l.length=types.length
 case neg =>
  have hlm' : ¬ (l.length:Int)=(types.length:Int):=by omega
  rw [eqF_len hlm];refine b7 Tryz.func89 Tryz.ntmps89 fun hwf=>?_
  refine bF hlm hlm' ?_
  exact bS
 have hlm':(l.length:Int)=(types.length:Int):=by omega
 refine b7 Tryz.func89 Tryz.ntmps89 fun hwf=>?_
 refine bF hlm hlm' ?_
 refine bX [0,1,2,3,4,11] (fun c σ S' => ∃ (k:Nat),k<=l.length/\c=l.length-k/\eqF P (l.drop k) (types.drop k)=eqF P l types/\σ=[(0,ckR e ⟨⟨fi,fo⟩,ts,bs⟩ ds near),(1,vl cj l),(2,vl cj types),(3,cj block),(4,cj pos),(11,cu k)]/\S'=St S [] []) l.length ?_ ?_
 .exact ⟨0,by omega,rfl,rfl,by simp [Fr.oy],rfl⟩
 .rintro c σ T ⟨k,hk,rfl,hd,rfl,rfl⟩
  by_cases hkt:k<l.length
  case neg =>
   have hkm : ¬ k<types.length:=by omega
   refine bD hkt ?_
   rw [<-hd,aue hkt hkm];exact bS
  have hkm:k<types.length:=by omega
  have hw:=jg hkt hl;have hst:=amr (p:=P) hkt hkm;obtain ⟨v,hx⟩ : ∃ v,l[k]=v:=⟨_,rfl⟩
  obtain ⟨t,ht⟩ : ∃ t,types[k]=t:=⟨_,rfl⟩
  rw [hx,ht] at hst
  by_cases h0:v<0
  .have e:P v t=false:=by rw [<-hP]; simp [Ss.askOk]; omega
   rw [e,aV,hd] at hst
   refine bG hkt hx h0 ?_
   rw [hst];exact bS
  obtain ⟨n,rfl⟩ : ∃ n:Nat,v=n:=⟨v.toNat,by omega⟩
  by_cases hnt:n<ts.length
  case neg =>
   have h1':(ts.length:Int)<=(n:Int):=by omega
   have e:P n t=false:=by rw [<-hP]; simp [Ss.askOk]; omega
   rw [e,aV,hd] at hst
   refine bH hkt hx h0 h1' ?_
   rw [hst];exact bS
  have h1' : ¬ (ts.length:Int)<=(n:Int):=by omega
  have h1:n<ds.length:=by omega
  obtain ⟨tt,htt⟩ : ∃ x,ts[n]=x:=⟨_,rfl⟩
  obtain ⟨⟨dm,db,dp⟩,hdx⟩ : ∃ x,ds[n]=x:=⟨_,rfl⟩
  have hX:P n t=(decide (tt=t)&&(dm&&(if db=block then decide (dp<pos) else G.cy near db block))):=by
   rw [<-hP];simp [Ss.askOk,h1,hnt,htt,hdx,Bool.and_assoc]
  rw [hX] at hst
  by_cases h2:tt=t
  case neg =>
   rw [bw h2,aV,aV,hd] at hst
   repeat first|refine QG ?_|refine QY ?_ (r:=by conv=>lhs;simp[QV,hkt,hkm,hx,ht,h0,h1',hnt,htt,h2])
   rw [hst];exact bS
  rw [bv h2,aE] at hst
  cases dm with
  | false =>
   rw [aV,aV,hd] at hst
   repeat first|refine QG ?_|refine QY ?_ (r:=by conv=>lhs;simp[QV,hkt,hkm,hx,ht,h0,h1',hnt,htt,h2,h1,hdx])
   rw [hst];exact bS
  | true =>
   have hb0 : ¬ db<0:=by
    have:=hnn _ (ah h1);rw [hdx] at this;have:=this rfl;simp only at this;omega
   rw [aE] at hst
   by_cases h3:db=block
   .rw [if_pos h3] at hst;subst h3
    by_cases h4:dp<pos
    .have h4' : ¬ pos<=dp:=by omega
     rw [bv h4,aE,hd] at hst
     repeat first|refine QG ?_|refine QY ?_ (r:=by conv=>lhs;simp[QV,hkt,hkm,hx,ht,h0,h1',hnt,htt,h2,h1,hdx,hb0,h4'])
     refine QA [] (h:=⟨?_,k+1,hkt,rfl,hst.symm,by simp [hw],by simp⟩);omega
    .have h4':pos<=dp:=by omega
     rw [bw h4,aV,hd] at hst
     repeat first|refine QG ?_|refine QY ?_ (r:=by conv=>lhs;simp[QV,hkt,hkm,hx,ht,h0,h1',hnt,htt,h2,h1,hdx,hb0,h4'])
     rw [hst];exact bS
   .rw [if_neg h3] at hst;have cd:=afj near db block hnl;generalize G.cy near db block=y at *
    repeat first|refine QG ?_|refine QY ?_ (r:=by conv=>lhs;simp[QV,hkt,hkm,hx,ht,h0,h1',hnt,htt,h2,h1,hdx,hb0,h3])
    refine bY (r:=by conv=>lhs;simp[QV,hkt,hkm,hx,ht,h0,h1',hnt,htt,h2,h1,hdx,hb0,h3]) (k:=?_);refine QL (cd) ?_
    by_cases hy:y=true
    .rw [hy,aE,hd] at hst;refine bJ hy ?_;refine bW ?_
     refine QA [] (h:=⟨?_,k+1,hkt,rfl,hst.symm,by simp [hw],by simp⟩);omega
    .have hy':y=false:=by simpa using hy
     rw [hy',aV,hd] at hst;refine bJ hy' ?_;refine bW ?_
     rw [hst];exact bS
end Go.Vw
namespace Ss
structure RForm where
 inn:List Int
 outs:List Int
 ok:Bool
deriving DecidableEq,Inhabited
def rformMem (op n:Int):RForm :=
 if op=257 then ⟨[127],[],decide (n<=8589934592)⟩
 else match accOf op with
  | some a=>if a.store then ⟨[127,a.kind],[],decide (n<4294967296)⟩ else ⟨[127],[a.kind],decide (n<4294967296)⟩
  | none=>if op=63 then ⟨[],[127],decide (n=0)⟩ else if op=64 then ⟨[127],[127],decide (n=0)⟩ else ⟨[],[],false⟩
def rformEnv (e:Env) (op n:Int):RForm :=
 if op=35\/op=36 then (if n<e.globals.length then (if op=35 then ⟨[],[e.globals.getD n.toNat 0],true⟩ else ⟨[e.globals.getD n.toNat 0],[],e.muts.getD n.toNat false⟩) else ⟨[],[],false⟩)
 else if op=16 then (if n<e.sigs.length then ⟨(e.sigs.getD n.toNat default).inn,(e.sigs.getD n.toNat default).out,true⟩ else ⟨[],[],false⟩)
 else if e.mem then rformMem op n else ⟨[],[],false⟩
def rform (e:Env) (op n out:Int):RForm :=
 if op=256 then ⟨[],[out],decide (out=126)||(decide (out=127)&&decide (n<4294967296))⟩
 else if op=258 then ⟨[],[],decide (n=0)⟩
 else match cB op with
  | (l,t,true)=>⟨l,[t],decide (n=0)⟩
  | _=>if op=27 then ⟨[out,out,127],[out],decide (n=0)⟩ else rformEnv e op n
end Ss
namespace Go.Vw
open Go.Proofs Go.RowKit
attribute [-simp] List.map_set
def rformV (r:Ss.RForm):V := .tuple [vl cj r.inn,vl cj r.outs, .bool r.ok]
theorem ay0 (e:Ss.Env) (x:Ss.Ins) (out:Int) (hsl:e.sigs.length<=140737488355328) (hgl:e.globals.length<=140737488355328) (hml:e.muts.length=e.globals.length) (hx:x.Fits) :
  b8 88 [qQ e,js x,cj out] (rformV (Ss.rform e x.op x.n out)):=by
 intro S;obtain ⟨sg,im,gl,mu,me⟩:=e;obtain ⟨op,n,xa,xo⟩:=x;obtain ⟨ho,⟨h0,hn64⟩,_⟩:=hx;simp only at hsl hgl hml h0 ho hn64 ⊢;obtain ⟨m,rfl⟩ : ∃ m:Nat,n=m:=⟨n.toNat,by omega⟩
 have hns:=KI op;have hac:=Ym op;have hfi:=jbp out (m:Int);have hcg:IntKind.u64.wrap (gl.length:Int)=(gl.length:Int):=bU;have hcs:IntKind.u64.wrap (sg.length:Int)=(sg.length:Int):=bU;have hz:decide ((m:Int)=0)=decide (m=0):=by simp
 unfold Ss.rform;rw [hz];generalize (decide (out=126)||(decide (out=127)&&decide ((m:Int)<4294967296)))=fi at *
 generalize hsg:Ss.cB op=sgv at *
 obtain ⟨l,t,b⟩:=sgv;generalize hak:((Ss.accOf op).getD ⟨0,0,false,false⟩).kind=ak at *
 generalize hast:((Ss.accOf op).getD ⟨0,0,false,false⟩).store=ast at *
 generalize ((Ss.accOf op).getD ⟨0,0,false,false⟩).width=aw at *
 generalize his:(Ss.accOf op).isSome=ais at *
 simp only at hns;refine b7 Tryz.func88 Tryz.ntmps88 fun hwf=>?_
 refine bz ?_
 refine QP ?_;refine QL (hns) ?_;refine QW ?_;refine QP ?_;refine QL (hac) ?_;refine QW ?_
 by_cases h1:op=256
 .rw [if_pos h1]
  refine bD h1 ?_
  refine QP ?_;refine QL (hfi) ?_;refine bV ?_
  exact jf hwf (((Ghost.tp [] [_,_] (Ghost.nl _)).trans (Ghost.tp [_] [_] (frz1 (k:=2) (by simp) (by rfl) (by rfl) (by rfl)))).toB _) rfl
 rw [if_neg h1]
 by_cases h2:op=258
 .rw [if_pos h2]
  refine bF h1 h2 ?_
  exact jf hwf (((Ghost.tp [] [_,_] (Ghost.nl _)).trans (Ghost.tp [_] [_] (Ghost.nl _))).toB _) rfl
 rw [if_neg h2]
 by_cases hb:b=true
 .subst hb;simp only
  refine bF h1 h2 ?_
  refine bZ (St S [] [some (5,[vl jn sg,cj im,vl cj gl,vl V.bool mu, .bool me]),some (4,[cj op, .int .u64 (m:Int),vl cj xa,vl cj xo])]) (St S [] [some (5,[vl jn sg,cj im,vl cj gl,vl V.bool mu, .bool me]),some (4,[cj op, .int .u64 (m:Int),vl cj xa,vl cj xo])]) [] ?_ (r:=by conv=>lhs; simp [QV,h1]);refine QI ?_ (r:=by conv=>lhs;simp[QV,h1]);refine bJ h1 ?_;refine bW ?_
  exact jf hwf ((Ghost.tp [_] [_] (frz1 (k:=2) (by simp) (by rfl) (by rfl) (by rfl))).toB _) rfl
 obtain rfl:b=false:=by simpa using hb
 simp only
 by_cases h3:op=27
 .rw [if_pos h3];subst h3
  refine bF h1 h2 ?_
  refine QT ?_;refine Yr (σm := ?sma) (Sm := ?Sma) (ZZ.mk _ (St S [] [some (5,[vl jn sg,cj im,vl cj gl,vl V.bool mu, .bool me]),some (4,[.int .i64 27, .int .u64 (m:Int),vl cj xa,vl cj xo])]) (St S [] [some (5,[vl jn sg,cj im,vl cj gl,vl V.bool mu, .bool me]),some (4,[.int .i64 27, .int .u64 (m:Int),vl cj xa,vl cj xo])]) []) 2 4 [0,1,2,3,4,5,6,7,8,9,10] [0,1,3,4,2,5,6,7,8,9,10] rfl (by kernel_rfl) (by conv=>lhs; reduce) (by kernel_rfl) (by decide) (by kernel_rfl) (by kernel_rfl) (by kernel_rfl) (by kernel_rfl) (by kernel_rfl) (by kernel_rfl) rfl (Ky (by simp [subU,shpU,subL,shpL])) (Store.sub_refl _) (by conv=>lhs; reduce) (by conv=>lhs; reduce) ?H1a ?H2a ?H3a
  case H1a =>
   refine QZ ?_;refine QI ?_;refine QZ ?_;refine QI ?_;refine QW ?_;refine zI [6,7,8] (Eq.trans (b := ?_) ?_ rfl)
   rotate_left
   conv=>lhs; simp [Fr.oy,Fr.lk]
  case H2a =>
   refine QZ ?_;refine QI ?_;refine QI ?_;refine QW ?_;exact Jj [6,7,8] [0,1,3,2] (by conv=>lhs; simp [Fr.oy,Fr.lk]) hwf (by decide) (by simp) (by conv=>lhs; simp) (by conv=>lhs; simp) (by conv=>lhs; simp)
  refine bz ?_
  exact jf hwf (((Ghost.tp [] [_,_] (frz1 (k:=2) (by simp) (by rfl) (by rfl) (by rfl))).trans (Ghost.tp [_] [_] (frz1 (k:=3) (by simp) (by rfl) (by rfl) (by rfl)))).toB _) rfl
 rw [if_neg h3];unfold Ss.rformEnv;simp only
 by_cases h4:op=35\/op=36
 .rw [if_pos h4]
  by_cases h5:m<gl.length
  case neg =>
   have h5' : ¬ (m:Int)<(gl.length:Int):=by omega
   have h5n:(gl.length:Int)<=(m:Int):=by omega
   rw [if_neg h5']
   by_cases h6:op=35
   .repeat first|refine QG ?_|refine QY ?_ (r:=by conv=>lhs;simp[QV,h1,h2,h3,h6,hcg,h5,h5n])
    exact jf hwf (((Ghost.tp [] [_,_] (Ghost.nl _)).trans (Ghost.tp [_] [_] (Ghost.nl _))).toB _) rfl
   .have h7:op=36:=by omega
    repeat first|refine QG ?_|refine QY ?_ (r:=by conv=>lhs;simp[QV,h1,h2,h3,h6,h7,hcg,h5,h5n])
    exact jf hwf (((Ghost.tp [] [_,_] (Ghost.nl _)).trans (Ghost.tp [_] [_] (Ghost.nl _))).toB _) rfl
  have h5':(m:Int)<(gl.length:Int):=by omega
  have h5n : ¬ (gl.length:Int)<=(m:Int):=by omega
  have hgd:gl.getD (m:Int).toNat 0=gl[m]:=by simp [h5]
  have hm:m<mu.length:=by omega
  obtain ⟨b,hb⟩ : ∃ b,mu[m]=b:=⟨_,rfl⟩
  have hmd:mu.getD (m:Int).toNat false=b:=by simp [hm,hb]
  rw [if_pos h5',hgd,hmd]
  by_cases h6:op=35
  .rw [if_pos h6]
   repeat first|refine QG ?_|refine QY ?_ (r:=by conv=>lhs;simp[QV,h1,h2,h3,h6,hcg,h5,h5n])
   exact jf hwf (((Ghost.tp [] [_,_] (Ghost.nl _)).trans (Ghost.tp [_] [_] (frz1 (k:=2) (by simp) (by rfl) (by rfl) (by rfl)))).toB _) rfl
  .have h7:op=36:=by omega
   rw [if_neg h6]
   repeat first|refine QG ?_|refine QY ?_ (r:=by conv=>lhs;simp[QV,h1,h2,h3,h6,h7,hcg,h5,h5n,hm,hb])
   exact jf hwf (((Ghost.tp [] [_,_] (frz1 (k:=2) (by simp) (by rfl) (by rfl) (by rfl))).trans (Ghost.tp [_] [_] (Ghost.nl _))).toB _) rfl
 rw [if_neg h4];have h6 : ¬ op=35:=fun h=>h4 (.inl h)
 have h7 : ¬ op=36:=fun h=>h4 (.inr h)
 by_cases h8:op=16
 .rw [if_pos h8]
  by_cases h5:m<sg.length
  case neg =>
   have h5' : ¬ (m:Int)<(sg.length:Int):=by omega
   have h5n:(sg.length:Int)<=(m:Int):=by omega
   rw [if_neg h5']
   repeat first|refine QG ?_|refine QY ?_ (r:=by conv=>lhs;simp[QV,h1,h2,h3,h6,h7,h8,hcs,h5,h5n])
   exact jf hwf (((Ghost.tp [] [_,_] (Ghost.nl _)).trans (Ghost.tp [_] [_] (Ghost.nl _))).toB _) rfl
  have h5':(m:Int)<(sg.length:Int):=by omega
  have h5n : ¬ (sg.length:Int)<=(m:Int):=by omega
  obtain ⟨⟨a,b⟩,hab⟩ : ∃ x,sg[m]=x:=⟨_,rfl⟩
  have hgd:sg.getD (m:Int).toNat default=⟨a,b⟩:=by simp [h5,hab]
  rw [if_pos h5',hgd]
  repeat first|refine QG ?_|refine QY ?_ (r:=by conv=>lhs;simp[QV,h1,h2,h3,h6,h7,h8,hcs,h5,h5n,hab])
  exact ja hwf (by simp [rformV,vl]) rfl
 rw [if_neg h8]
 by_cases hme:me=true
 case neg =>
  have hme':me=false:=by simpa using hme
  rw [if_neg hme]
  repeat first|refine QG ?_|refine QY ?_ (r:=by conv=>lhs;simp[QV,h1,h2,h3,h6,h7,h8,hme'])
  exact jf hwf (((Ghost.tp [] [_,_] (Ghost.nl _)).trans (Ghost.tp [_] [_] (Ghost.nl _))).toB _) rfl
 subst hme;rw [if_pos rfl];unfold Ss.rformMem;rw [hz]
 by_cases k1:op=257
 .rw [if_pos k1];subst k1
  refine bB h1 h2 h3 h6 h7 h8 ?_
  refine bZ (St S [] [some (5,[vl jn sg,cj im,vl cj gl,vl V.bool mu, .bool true]),some (4,[.int .i64 257, .int .u64 (m:Int),vl cj xa,vl cj xo])]) (St S [] [some (5,[vl jn sg,cj im,vl cj gl,vl V.bool mu, .bool true]),some (4,[.int .i64 257, .int .u64 (m:Int),vl cj xa,vl cj xo])]) [] ?_ (r:=by conv=>lhs; simp [QV,h1]);refine QI ?_ (r:=by conv=>lhs;simp[QV,h1]);refine bJ h1 ?_;refine bW ?_
  exact jf hwf (((Ghost.tp [] [_,_] (frz1 (k:=2) (by simp) (by rfl) (by rfl) (by rfl))).trans (Ghost.tp [_] [_] (Ghost.nl _))).toB _) rfl
 rw [if_neg k1]
 cases hf:Ss.accOf op with
 | some a =>
  obtain ⟨b1,b2,b3,b4⟩:=a;rw [hf] at his hak hast;simp only [Option.isSome_some,aR] at his hak hast;subst his hak hast;simp only;generalize hz4:decide ((m:Int)<4294967296)=z4 at *
  by_cases k2:b3=true
  .subst k2;rw [if_pos rfl]
   repeat first|refine QG ?_|refine QY ?_ (r:=by conv=>lhs;simp[QV,h1,h2,h3,h6,h7,h8,k1,hz4])
   refine bZ (St S [] [some (5,[vl jn sg,cj im,vl cj gl,vl V.bool mu, .bool true]),some (4,[cj op, .int .u64 (m:Int),vl cj xa,vl cj xo])]) (St S [] [some (5,[vl jn sg,cj im,vl cj gl,vl V.bool mu, .bool true]),some (4,[cj op, .int .u64 (m:Int),vl cj xa,vl cj xo])]) [] ?_ (r:=by conv=>lhs; simp [QV,h1]);refine QI ?_ (r:=by conv=>lhs;simp[QV,h1,hz4]);refine bK h1 hz4 ?_;refine bW ?_
   exact jf hwf (((Ghost.tp [] [_,_] (frz1 (k:=2) (by simp) (by rfl) (by rfl) (by rfl))).trans (Ghost.tp [_] [_] (Ghost.nl _))).toB _) rfl
  .rw [if_neg k2];obtain rfl:b3=false:=by simpa using k2
   repeat first|refine QG ?_|refine QY ?_ (r:=by conv=>lhs;simp[QV,h1,h2,h3,h6,h7,h8,k1,hz4])
   refine QT ?_;refine Yr (σm := ?smb) (Sm := ?Smb) (ZZ.mk _ (St S [] [some (5,[vl jn sg,cj im,vl cj gl,vl V.bool mu, .bool true]),some (4,[cj op, .int .u64 (m:Int),vl cj xa,vl cj xo])]) (St S [] [some (5,[vl jn sg,cj im,vl cj gl,vl V.bool mu, .bool true]),some (4,[cj op, .int .u64 (m:Int),vl cj xa,vl cj xo])]) []) 0 2 [0,1,2,3,4,5,6,7,8] [1,2,0,3,4,5,6,7,8] rfl (by kernel_rfl) (by conv=>lhs; reduce) (by kernel_rfl) (by decide) (by kernel_rfl) (by kernel_rfl) (by kernel_rfl) (by kernel_rfl) (by kernel_rfl) (by kernel_rfl) rfl (Ky (by simp [subU,shpU,subL,shpL])) (Store.sub_refl _) (by conv=>lhs; reduce) (by conv=>lhs; reduce) ?H1b ?H2b ?H3b
   case H1b =>
    refine bK h1 hz4 ?_;refine QI ?_;refine bJ hz4 ?_;refine QI ?_;refine bJ hz4 ?_;refine QN ?_;refine zI [6,7,8] (Eq.trans (b := ?_) ?_ rfl)
    rotate_left
    conv=>lhs; simp [Fr.oy,Fr.lk]
   case H2b =>
    refine bK h1 hz4 ?_;refine QI ?_;refine QI ?_;refine bJ hz4 ?_;refine QN ?_;exact Jj [6,7,8] [0,1,3,2] (by conv=>lhs; simp [Fr.oy,Fr.lk]) hwf (by decide) (by simp) (by conv=>lhs; simp) (by conv=>lhs; simp) (by conv=>lhs; simp)
   refine bz ?_
   exact jf hwf (((Ghost.tp [] [_,_] (frz1 (k:=2) (by simp) (by rfl) (by rfl) (by rfl))).trans (Ghost.tp [_] [_] (frz1 (k:=3) (by simp) (by rfl) (by rfl) (by rfl)))).toB _) rfl
 | none =>
  rw [hf] at his hak hast;simp only [Option.isSome_none,Option.getD_none] at his hak hast;subst his hak hast;simp only
  by_cases k2:op=63
  .rw [if_pos k2];subst k2
   repeat first|refine QG ?_|refine QY ?_ (r:=by conv=>lhs;simp[QV,h1,h2,h3,h6,h7,h8,k1])
   refine bZ (St S [] [some (5,[vl jn sg,cj im,vl cj gl,vl V.bool mu, .bool true]),some (4,[.int .i64 63, .int .u64 (m:Int),vl cj xa,vl cj xo])]) (St S [] [some (5,[vl jn sg,cj im,vl cj gl,vl V.bool mu, .bool true]),some (4,[.int .i64 63, .int .u64 (m:Int),vl cj xa,vl cj xo])]) [] ?_ (r:=by conv=>lhs; simp [QV,h1]);refine QI ?_ (r:=by conv=>lhs;simp[QV,h1]);refine bJ h1 ?_;refine bW ?_
   exact jf hwf (((Ghost.tp [] [_,_] (Ghost.nl _)).trans (Ghost.tp [_] [_] (frz1 (k:=2) (by simp) (by rfl) (by rfl) (by rfl)))).toB _) rfl
  rw [if_neg k2]
  by_cases k3:op=64
  .rw [if_pos k3];subst k3
   repeat first|refine QG ?_|refine QY ?_ (r:=by conv=>lhs;simp[QV,h1,h2,h3,h6,h7,h8,k1,k2])
   refine QT ?_;refine Yr (σm := ?smc) (Sm := ?Smc) (ZZ.mk _ (St S [] [some (5,[vl jn sg,cj im,vl cj gl,vl V.bool mu, .bool true]),some (4,[.int .i64 64, .int .u64 (m:Int),vl cj xa,vl cj xo])]) (St S [] [some (5,[vl jn sg,cj im,vl cj gl,vl V.bool mu, .bool true]),some (4,[.int .i64 64, .int .u64 (m:Int),vl cj xa,vl cj xo])]) []) 0 1 [0,1,2,3,4,5,6,7] [1,0,2,3,4,5,6,7] rfl (by kernel_rfl) (by conv=>lhs; reduce) (by kernel_rfl) (by decide) (by kernel_rfl) (by kernel_rfl) (by kernel_rfl) (by kernel_rfl) (by kernel_rfl) (by kernel_rfl) rfl (Ky (by simp [subU,shpU,subL,shpL])) (Store.sub_refl _) (by conv=>lhs; reduce) (by conv=>lhs; reduce) ?H1c ?H2c ?H3c
   case H1c =>
    refine bJ h1 ?_;refine QI ?_;refine QZ ?_;refine QI ?_;refine QW ?_;refine zI [6,7,8] (Eq.trans (b := ?_) ?_ rfl)
    rotate_left
    conv=>lhs; simp [Fr.oy,Fr.lk]
   case H2c =>
    refine bJ h1 ?_;refine QI ?_;refine QI ?_;refine QW ?_;exact Jj [6,7,8] [0,1,3,2] (by conv=>lhs; simp [Fr.oy,Fr.lk]) hwf (by decide) (by simp) (by conv=>lhs; simp) (by conv=>lhs; simp) (by conv=>lhs; simp)
   refine bz ?_
   exact jf hwf (((Ghost.tp [] [_,_] (frz1 (k:=2) (by simp) (by rfl) (by rfl) (by rfl))).trans (Ghost.tp [_] [_] (frz1 (k:=3) (by simp) (by rfl) (by rfl) (by rfl)))).toB _) rfl
  rw [if_neg k3]
  repeat first|refine QG ?_|refine QY ?_ (r:=by conv=>lhs;simp[QV,h1,h2,h3,h6,h7,h8,k1,k2,k3])
  exact jf hwf (((Ghost.tp [] [_,_] (Ghost.nl _)).trans (Ghost.tp [_] [_] (Ghost.nl _))).toB _) rfl
end Go.Vw
namespace Ss
def rinsOk (e:Env) (f:Fn) (ds:List Def) (near:List Int) (block pos:Int) (x:Ins):Bool :=
 (rform e x.op x.n (insOut f.types x)).ok&&decide (cv f.types x.outs=(rform e x.op x.n (insOut f.types x)).outs)&&asks f.types ds near block pos x.args (rform e x.op x.n (insOut f.types x)).inn
end Ss
namespace Go.Vw
open Go.Proofs Go.RowKit
attribute [-simp] List.map_set
theorem ax6 (e:Ss.Env) (f:Ss.Fn) (ds:List Ss.Def) (near:List Int) (i k:Nat) (b:Ss.Block) (x:Ss.Ins) (hsl:e.sigs.length<=140737488355328) (hgl:e.globals.length<=140737488355328) (hml:e.muts.length=e.globals.length)
  (hds:ds.length=f.types.length) (htl:f.types.length<2^63) (hnl:near.length<2^63) (hnn : ∀ x∈ds,x.made=true->0<=x.block) (hi:f.blocks[i]? = some b) (hk:b.code[k]? = some x) (hx:x.Fits) (hol:x.outs.length<=1048576) (hov:Ss.InTs f.types.length x.outs) :
  b8 50 [ckR e f ds near,cu i,cu k] (.bool (Ss.rinsOk e f ds near i k x)):=by
 intro S;have cf:=ay0 e x (Ss.insOut f.types x) hsl hgl hml hx;have ct:=jcD e f ds near x.outs hol hov;have hal:=hx.2.2.1.1;have ca : ∀ l:List Int,b8 89 [ckR e f ds near,vl cj x.args,vl cj l,cu i,cu k] (.bool (Ss.asks f.types ds near i k x.args l)):=fun l=>jcE e f ds near i k x.args l hds htl hnl (by omega) hnn
 unfold Ss.rinsOk;generalize hr:Ss.rform e x.op x.n (Ss.insOut f.types x)=r at *
 have hql:(Ss.cv f.types x.outs).length<2^63:=by simp [Ss.cv]; omega
 generalize htt:Ss.cv f.types x.outs=tt at *
 obtain ⟨ri,ro,rk⟩:=r;have ceq:=jdp tt ro hql;obtain ⟨xo,xn,xa,xu⟩:=x;obtain ⟨ps,code,⟨tk,ta,to,az⟩⟩:=b;obtain ⟨⟨fi,fo⟩,ts,bs⟩:=f;obtain ⟨sg,im,gl,mu,me⟩:=e;simp only at *
 obtain ⟨hi1,hi2⟩:=ae.1 hi;obtain ⟨hk1,hk2⟩:=ae.1 hk;have ca':=ca ri;generalize Ss.asks ts ds near i k xa ri=ax at ca';generalize hio:Ss.insOut ts ⟨xo,xn,xa,xu⟩=io at cf;have cf':b8 88 [.agg [vl jn sg, .int .i64 im,vl cj gl,vl V.bool mu, .bool me], .agg [.int .i64 xo, .int .u64 xn,vl cj xa,vl cj xu], .int .i64 io] (.tuple [vl cj ri,vl cj ro, .bool rk]):=cf;refine b7 Tryz.func50 Tryz.ntmps50 fun hwf=>?_
 refine bH hi1 hi2 hk1 hk2 ?_
 refine jaj (fun σ S'=>σ=[(0,ckR ⟨sg,im,gl,mu,me⟩ ⟨⟨fi,fo⟩,ts,bs⟩ ds near),(1,cu i),(2,cu k),(7, .ptr (lid S.nx 0) 0),(8,cj io)]/\S'=St S [] [some (4,[cj xo,vu xn,vl cj xa,vl cj xu])]) [0,1,2,7,8] ?_ ?_
 .cases xu with
  | nil =>
   have h0:io=0:=by rw [<-hio]; rfl
   subst h0
   refine bz ?_
   exact ⟨by simp [Fr.oy],by simp⟩
  | cons v r =>
   obtain ⟨h0,h1⟩:=hov v (by simp);obtain ⟨n,rfl⟩ : ∃ n:Nat,v=n:=⟨v.toNat,by omega⟩
   have hn:n<ts.length:=by omega
   have h2:io=ts[n]:=by rw [<-hio]; simp [Ss.insOut,hn]
   subst h2;have hpos:(0:Int)<((r.length:Int)+1):=by omega
   refine bF hn hpos ?_
   exact ⟨by simp [Fr.oy],by simp⟩
 rintro σ S' ⟨rfl,rfl⟩;refine QT ?_;refine bY (r:=by conv=>lhs;simp[QV]) (k:=?_);refine QL (cf') ?_;refine QW ?_
 by_cases h1:rk=true
 case neg =>
  have h1':rk=false:=by simpa using h1
  refine bD h1' ?_
  exact ja hwf (by simp [h1']) rfl
 refine bN h1 ?_;refine QL (ct) ?_;refine QZ ?_;refine QL (ceq) ?_
 by_cases h3:tt=ro
 case neg =>
  refine bJ h3 ?_;refine bW ?_
  exact ja hwf (by simp [h3]) rfl
 refine bJ h3 ?_;refine QL (ca') ?_;refine bV ?_
 exact ja hwf (by simp [h1,h3]) rfl
end Go.Vw
namespace Ss
def rtermOk (f:Fn) (ds:List Def) (near:List Int) (i pos:Int) (t:Term):Bool :=
 if t.kind=2 then asks f.types ds near i pos [t.arg] [127]&&(decide (t.args.length=0)&&decide (t.to.length=2))
 else if t.kind=3 then asks f.types ds near i pos [t.arg] [127]&&(decide (t.args.length=0)&&(decide (1<=t.to.length)&&decide (t.to.length<=65)))
 else decide (t.arg=0)&&(if t.kind=4 then decide (t.to.length=0)&&asks f.types ds near i pos t.args f.sig.out
  else decide (t.args.length=0)&&(if t.kind=1 then decide (t.to.length=1) else decide (t.kind=5)&&decide (t.to.length=0)))
def redgeOk (f:Fn) (ds:List Def) (near:List Int) (i pos:Int) (x:Edge):Bool :=
 decide (1<=x.to)&&asks f.types ds near i pos x.args (cv f.types (f.blocks.getD x.to.toNat default).params)
end Ss
namespace Go.Vw
open Go.Proofs Go.RowKit
attribute [-simp] List.map_set
theorem au1 (e:Ss.Env) (f:Ss.Fn) (ds:List Ss.Def) (near:List Int) (i:Nat) (b:Ss.Block) (hds:ds.length=f.types.length) (htl:f.types.length<2^63) (hnl:near.length<2^63) (hnn : ∀ x∈ds,x.made=true->0<=x.block) (hi:f.blocks[i]? = some b) (hb:b.Fits) :
  b8 51 [ckR e f ds near,cu i] (.bool (Ss.rtermOk f ds near i b.code.length b.term)):=by
 intro S;obtain ⟨_,⟨hcl,_⟩,_,_,⟨htol,htf⟩,⟨haz,_⟩⟩:=hb;have ca : ∀ l m:List Int,l.length<2^63->b8 89 [ckR e f ds near,vl cj l,vl cj m,cu i,cu b.code.length] (.bool (Ss.asks f.types ds near i b.code.length l m)):=fun l m hl=>jcE e f ds near i b.code.length l m hds htl hnl hl hnn
 obtain ⟨ps,code,⟨tk,ta,to,az⟩⟩:=b;simp only at hcl htol htf haz ca;obtain ⟨⟨fi,fo⟩,ts,bs⟩:=f;simp only at *
 have c1:=ca [ta] [127] (by simp);have c2:=ca az fo (by omega);obtain ⟨hi1,hi2⟩:=ae.1 hi;have hX:Ss.rtermOk ⟨⟨fi,fo⟩,ts,bs⟩ ds near i code.length ⟨tk,ta,to,az⟩=if tk=2 then Ss.asks ts ds near i code.length [ta] [127]&&(decide (az.length=0)&&decide (to.length=2))
  else if tk=3 then Ss.asks ts ds near i code.length [ta] [127]&&(decide (az.length=0)&&(decide (1<=to.length)&&decide (to.length<=65)))
  else decide (ta=0)&&(if tk=4 then decide (to.length=0)&&Ss.asks ts ds near i code.length az fo
   else decide (az.length=0)&&(if tk=1 then decide (to.length=1) else decide (tk=5)&&decide (to.length=0))):=rfl
 rw [hX];clear hX;generalize Ss.asks ts ds near i code.length [ta] [127]=A at *
 generalize Ss.asks ts ds near i code.length az fo=B at *
 refine b7 Tryz.func51 Tryz.ntmps51 fun hwf=>?_
 refine bF hi1 hi2 ?_
 refine bZ (St S [] [some (6,[vl cj ps,vl js code, .int .i64 tk, .int .i64 ta,vl ji to,vl cj az])]) (St S [] [some (6,[vl cj ps,vl js code, .int .i64 tk, .int .i64 ta,vl ji to,vl cj az])]) [] ?_ (r:=by conv=>lhs; simp [QV]);refine QI ?_;refine QZ ?_;refine QI ?_;refine QW ?_
 by_cases k2:tk=2
 .rw [if_pos k2]
  refine bD k2 ?_
  refine QP ?_;refine zf (xs':=[ckR e ⟨⟨fi,fo⟩,ts,bs⟩ ds near,vl cj [ta],vl cj [127],cu i,cu code.length]) rfl (GhostArgs.trans (GhostArgs.one [_] [_,_,_] (frz1 (k:=2) (len:=1) (by simp) (by rfl) (by rfl) (by rfl))) (GhostArgs.one [_,_] [_,_] (frz1 (k:=3) (len:=1) (by simp) (by rfl) (by rfl) (by rfl)))) c1 ?_;simp only [aq,au]
  by_cases h2:A=true
  case neg =>
   have h2':A=false:=by simpa using h2
   refine bJ h2' ?_;refine bW ?_
   exact ja hwf (by simp [h2']) rfl
  by_cases h3:az.length=0
  case neg =>
   have h3':(0:Int)<(az.length:Int):=by omega
   have h3n:0<az.length:=by omega
   refine QM (by conv=>lhs;simp[QV,h2,k2,h3,h3',h3n]) ?_;refine bW ?_
   exact ja hwf (by simp [h3]) rfl
  have h3':az=[]:=aO h3;subst h3';refine bK h2 k2 ?_;refine QN ?_
  refine bD k2 ?_
  exact ja hwf (by simp [h2]; try omega) rfl
 rw [if_neg k2]
 by_cases k3:tk=3
 .rw [if_pos k3]
  refine bF k2 k3 ?_
  refine QP ?_;refine zf (xs':=[ckR e ⟨⟨fi,fo⟩,ts,bs⟩ ds near,vl cj [ta],vl cj [127],cu i,cu code.length]) rfl (GhostArgs.trans (GhostArgs.one [_] [_,_,_] (frz1 (k:=2) (len:=1) (by simp) (by rfl) (by rfl) (by rfl))) (GhostArgs.one [_,_] [_,_] (frz1 (k:=3) (len:=1) (by simp) (by rfl) (by rfl) (by rfl)))) c1 ?_;simp only [aq,au]
  by_cases h2:A=true
  case neg =>
   have h2':A=false:=by simpa using h2
   refine bJ h2' ?_;refine bW ?_
   exact ja hwf (by simp [h2']) rfl
  by_cases h3:az.length=0
  case neg =>
   have h3':(0:Int)<(az.length:Int):=by omega
   have h3n:0<az.length:=by omega
   refine QM (by conv=>lhs;simp[QV,h2,k2,k3,h3,h3',h3n]) ?_;refine bW ?_
   exact ja hwf (by simp [h3]) rfl
  have h3':az=[]:=aO h3;subst h3';have k4 : ¬ tk=4:=by omega
  refine QM (by conv=>lhs;simp[QV,h2,k2,k3,k4]) ?_;refine QN ?_
  by_cases h5:(1:Int)<=(to.length:Int)
  case neg =>
   refine bG k2 k3 h5 ?_
   exact ja hwf (by simp; omega) rfl
  have h6:decide (1<=to.length)=true:=bv (by omega)
  refine bG k2 k3 h5 ?_
  exact ja hwf (by rw [h6]; simp [h2]; try omega) rfl
 rw [if_neg k3]
 by_cases h1:ta=0
 case neg =>
  refine bG k2 k3 h1 ?_
  exact ja hwf (by simp [h1]) rfl
 by_cases k4:tk=4
 .rw [if_pos k4]
  by_cases h5:to.length=0
  case neg =>
   have h5' : ¬ (to.length:Int)=0:=by omega
   have k1 : ¬ tk=1:=by omega
   repeat first|refine QG ?_|refine QY ?_ (r:=by conv=>lhs;simp[QV,k2,k3,h1,k4,k1,h5,h5'])
   exact ja hwf (by simp [h5]) rfl
  have h5':(to.length:Int)=0:=by omega
  have k1 : ¬ tk=1:=by omega
  obtain rfl:to=[]:=aO h5
  refine bO k2 k3 h1 k4 k1 ?_
  refine bY (r:=by conv=>lhs;simp[QV]) (k:=?_);refine QL (c2) ?_;refine bV ?_
  exact ja hwf (by simp [h1]) rfl
 rw [if_neg k4]
 by_cases h3:az.length=0
 case neg =>
  have h3':(0:Int)<(az.length:Int):=by omega
  have h3n:0<az.length:=by omega
  repeat first|refine QG ?_|refine QY ?_ (r:=by conv=>lhs;simp[QV,k2,k3,h1,k4,h3,h3',h3n])
  exact ja hwf (by simp [h3]) rfl
 have h3':az=[]:=aO h3;subst h3'
 by_cases k1:tk=1
 .refine bO k2 k3 h1 k4 k1 ?_
  exact ja hwf (by simp [h1,k1]; try omega) rfl
 by_cases k5:tk=5
 .refine bB k2 k3 h1 k4 k1 k5 ?_
  exact ja hwf (by simp [h1,k1,k5]; try omega) rfl
 .refine bB k2 k3 h1 k4 k1 k5 ?_
  exact ja hwf (by simp [h1,k1,k5]; try omega) rfl
theorem atu (e:Ss.Env) (f:Ss.Fn) (ds:List Ss.Def) (near:List Int) (i:Nat) (b:Ss.Block) (hds:ds.length=f.types.length) (htl:f.types.length<2^63) (hnl:near.length<2^63) (hnn : ∀ x∈ds,x.made=true->0<=x.block) (hi:f.blocks[i]? = some b) (hb:b.Fits)
  (hbl:f.blocks.length<2^63) (hto : ∀ x∈b.term.to,0<=x.to/\x.to<f.blocks.length) (hps : ∀ b∈f.blocks,b.params.length<=1048576/\Ss.InTs f.types.length b.params) :
  b8 52 [ckR e f ds near,cu i] (.bool (b.term.to.all (Ss.redgeOk f ds near i b.code.length))):=by
 intro S;obtain ⟨_,⟨hcl,_⟩,_,_,⟨htol,htf⟩,⟨haz,_⟩⟩:=hb;have ca : ∀ l m:List Int,l.length<2^63->b8 89 [ckR e f ds near,vl cj l,vl cj m,cu i,cu b.code.length] (.bool (Ss.asks f.types ds near i b.code.length l m)):=fun l m hl=>jcE e f ds near i b.code.length l m hds htl hnl hl hnn
 have ct : ∀ b∈f.blocks,b8 48 [ckR e f ds near,vl cj b.params] (vl cj (Ss.cv f.types b.params)):=fun b hb=>jcD e f ds near b.params (hps b hb).1 (hps b hb).2
 obtain ⟨ps,code,⟨tk,ta,to,az⟩⟩:=b;simp only at hcl htol htf haz hto ca;obtain ⟨hi1,hi2⟩:=ae.1 hi;have htl63:to.length<2^63:=by omega
 have hE : ∀ x:Ss.Edge,Ss.redgeOk f ds near i code.length x=(decide (1<=x.to)&&Ss.asks f.types ds near i code.length x.args (Ss.cv f.types (f.blocks.getD x.to.toNat default).params)):=fun x=>rfl
 obtain ⟨⟨fi,fo⟩,ts,bs⟩:=f;simp only at *
 generalize hP:Ss.redgeOk ⟨⟨fi,fo⟩,ts,bs⟩ ds near i code.length=P at *
 refine b7 Tryz.func52 Tryz.ntmps52 fun hwf=>?_
 refine bF hi1 hi2 ?_
 refine bX [0,1,5,6] (fun c σ S' => ∃ (k:Nat),k<=to.length/\c=to.length-k/\(to.drop k).all P=to.all P/\σ=[(0,ckR e ⟨⟨fi,fo⟩,ts,bs⟩ ds near),(1,cu i),(5, .ptr (lid S.nx 0) 0),(6,cu k)]/\S'=St S [] [some (6,[vl cj ps,vl js code,cj tk,cj ta,vl ji to,vl cj az])]) to.length ?_ ?_
 .exact ⟨0,by omega,rfl,rfl,by simp [Fr.oy],rfl⟩
 .rintro c σ T ⟨k,hk,rfl,hd,rfl,rfl⟩
  by_cases hkt:k<to.length
  case neg =>
   refine bD hkt ?_
   rw [<-hd,Ss.aai _ hkt];exact bS
  have hw:=jg hkt htl63;have hst:=Ss.aas P hkt;obtain ⟨h0,h1⟩:=hto _ (ah hkt);have hxa:=(htf _ (ah hkt)).2.1;obtain ⟨⟨xt,xa⟩,hx⟩ : ∃ x,to[k]=x:=⟨_,rfl⟩
  rw [hx] at hst h0 h1 hxa;simp only at h0 h1 hxa;obtain ⟨n,rfl⟩ : ∃ n:Nat,xt=n:=⟨xt.toNat,by omega⟩
  have hn:n<bs.length:=by omega
  obtain ⟨⟨qs,qc,⟨qk,qa,qt,qz⟩⟩,hq⟩ : ∃ b,bs[n]=b:=⟨_,rfl⟩
  have hqg:bs.getD (n:Int).toNat default=⟨qs,qc,⟨qk,qa,qt,qz⟩⟩:=by simp [hn,hq]
  have hE':=hE ⟨(n:Int),xa⟩;rw [hqg] at hE';simp only at hE';rw [hE'] at hst
  by_cases h2:(n:Int)<1
  .have h2' : ¬ (1:Int)<=(n:Int):=by omega
   rw [bw h2',aV,aV,hd] at hst
   refine bG hkt hx h2 ?_
   rw [hst];exact bS
  have h2':(1:Int)<=(n:Int):=by omega
  rw [bv h2',aE] at hst;have c1:=ct _ (ah hn);rw [hq] at c1;simp only at c1;generalize Ss.cv ts qs=tq at *
  have c2:=ca xa tq (by omega);generalize Ss.asks ts ds near i code.length xa tq=B at *
  refine bO hkt hx h2 hn hq ?_
  refine bY (r:=by conv=>lhs;simp[QV,h2,hn,hq]) (k:=?_);refine QL (c1) ?_;refine QZ ?_;refine QL (c2) ?_
  by_cases h3:B=true
  .rw [h3,aE,hd] at hst;refine bJ h3 ?_;refine bW ?_
   refine QA [0] (h:=⟨?_,k+1,hkt,rfl,hst.symm,by simp [hw],by simp⟩);omega
  .have h3':B=false:=by simpa using h3
   rw [h3',aV,hd] at hst;refine bJ h3' ?_;refine bW ?_
   rw [hst];exact bS
end Go.Vw
