import Derived.Test.YtcpncecdegmliaaGreatC33
/- Part of the proof. -/
set_option linter.unusedVariables false
set_option linter.unusedSimpArgs false
set_option maxRecDepth 10000
set_option maxHeartbeats 4000000
namespace Go.Vw
open Go.Proofs Go.RowKit
attribute [-simp] List.map_set
def runC (P:Ev.Prog) (s:Ev.State) (g l:Nat) (d e:Int):List V:=[vl jl P.env.sigs,vint P.env.imports,vl vint P.env.globals,vl V.bool P.env.muts, .bool P.env.mem,vl jJ P.fns,vl vby s.mem,vint s.most, .slice g 0 s.globals.length,vint s.fuel,vl vu s.input, .slice l 0 s.log.length,vint d,vint e]
structure RunAt (S:Store) (P:Ev.Prog) (s:Ev.State) (o g l:Nat) (d e:Int):Prop where
 obj:S.get o=some (14,runC P s g l d e)
 glob:S.get g=some (1,s.globals.map vu)
 log:S.get l=some (1,s.log.map vu)
 og:o≠g
 ol:o≠l
 gl:g≠l
def Keeps (S T:Store) (xs:List Nat):Prop:=S.nx≤T.nx ∧ ∀ i,i<S.nx→i∉xs→T.get i=S.get i
theorem Kv {S:Store} {u:Upds} {l:List (Option (Nat × List V))} {xs:List Nat} (h : ∀ i c,i∉xs→uGet u i c=c):Keeps S (St S u l) xs :=
 ⟨by rw [jP,lid]; omega,fun i hi hx=>by rw [jm hi,h i _ hx]⟩
theorem host_end {S:Store} {P:Ev.Prog} {s s':Ev.State} {o g l:Nat} {d:Int} {own:List (Option (Nat × List V))} {cells:List V} (kl:Nat) (hwf:S.Wf) (hr:RunAt S P s o g l d 0) (hs:s'.globals=s.globals) (hk:(own[kl]?).join=some (1,s'.log.map vu)) (hc:cells=runC P s' g (lid S.nx kl) d 0) :
  Keeps S (St S [(l,none),(o,some (14,cells))] own) [o,g,l] ∧ ∃ l',RunAt (St S [(l,none),(o,some (14,cells))] own) P s' o g l' d 0∧(l'=l∨S.nx≤l'):=by
 have on:=jx hwf hr.obj;have gn:=jx hwf hr.glob;have ln:=jx hwf hr.log;have h1:=hr.og;have h2:=hr.ol;have h3:=hr.gl;refine ⟨Kv fun i c hi => ?_,lid S.nx kl,⟨?_, ?_, ?_,h1, ?_, ?_⟩, .inr (by simp [lid])⟩
 ·simp only [List.mem_cons,List.not_mem_nil,or_false,not_or] at hi;simp [uGet,hi.1,hi.2.2]
 ·rw [jm on,hc]; simp [uGet,h2]
 ·rw [jm gn,hs]; simp [uGet,Ne.symm h1,h3,hr.glob]
 ·rw [ju,hk]
 ·simp only [lid]; omega
 ·simp only [lid]; omega
theorem mask32_v (x:Int):jaI .and (.int .u64 x) (.int .u64 4294967295)=some (.int .u64 (Ev.mask32 x)):=by
 simp [jaI,Ev.mask32]
theorem hostL_out : ∀ {to inp:List Int}, ¬ (Ev.hostL to inp).2.2=0→Ev.hostL to inp=([],(Ev.hostL to inp).2.1,(Ev.hostL to inp).2.2)
 | [],inp,h=>absurd rfl h
 | t::ts,[],h=>rfl
 | t::ts,x::inp,h=>by
  simp only [Ev.hostL] at h ⊢;split
  ·rename_i hz; rw [if_pos hz] at h; exact absurd rfl h
  ·rfl
theorem hostL_step {to inp ts ik ok:List Int} {t x:Int} (hd:Ev.hostL to inp=(if (Ev.hostL (t::ts) (x::ik)).2.2=0 then (ok++(Ev.hostL (t::ts) (x::ik)).1,(Ev.hostL (t::ts) (x::ik)).2.1,0) else ([],(Ev.hostL (t::ts) (x::ik)).2.1,(Ev.hostL (t::ts) (x::ik)).2.2))) :
  Ev.hostL to inp=(if (Ev.hostL ts ik).2.2=0 then ((ok++[if t=127 then Ev.mask32 x else x])++(Ev.hostL ts ik).1,(Ev.hostL ts ik).2.1,0) else ([],(Ev.hostL ts ik).2.1,(Ev.hostL ts ik).2.2)):=by
 simp only [Ev.hostL] at hd
 by_cases hz:(Ev.hostL ts ik).2.2=0
 ·simp only [hz,if_true] at hd ⊢;rw [hd]; simp
 ·simp only [hz,if_false] at hd ⊢;exact hd
theorem NHost_v (P:Ev.Prog) (s:Ev.State) (o g l:Nat) (d:Int) (n:Int) (t:Ss.Sig) (args:List Int) (r:Ev.Res) (S:Store) (hr:RunAt S P s o g l d 0) (hn:0≤n∧n<9223372036854775808) (ht:t.out.length≤1048576) (hf:Ev.hostF s n t.out args=some r) :
  VCalls Tryz.prog 99 [.ptr o 6,vint n,jl t,vl vu args] S (fun x T=>x = .tuple [vl vu r.1,vint r.2.2]∧Keeps S T [o,g,l] ∧ ∃ l',RunAt T P r.2.1 o g l' d 0∧(l'=l∨S.nx≤l')):=by
 have hR:=hr;obtain ⟨h1,h2,h3,h4,h5,h6⟩:=hr;obtain ⟨⟨sg,im,gl,mu,me⟩,fns⟩:=P;obtain ⟨mem,most,glb,fuel,inp,log⟩:=s;obtain ⟨ti,to⟩:=t;simp only at ht;simp only [runC] at h1 h2 h3;simp only [Ev.hostF] at hf;split at hf
 ·rename_i hlen
  cases hf
  have e1:jl ⟨ti,to⟩ = .agg [vl vint ti,vl vint to]:=rfl;rw [e1];have hwn:IntKind.u64.wrap n=n:=jr (by omega) (by omega);have hb8:(log.length+1)*8≤140737488355328:=by omega
  have hb1:log.length+1≤140737488355328:=by omega
  have hb8':(log.length+1+args.length)*8≤140737488355328:=by omega
  have hb1':log.length+1+args.length≤140737488355328:=by omega
  have hap2 : ∀ (S':Store) (o':Nat),S'.get o'=some (1,List.map vu log++[V.int .u64 n])→jN 1 8 S' (.slice o' 0 (log.length+1)) (vl vu args)=some (.slice S'.nx 0 (log.length+1+args.length),(S'.del o').add (1,(log++n::args).map vu)):=fun S' o' h=>by
   rw [ZR (s:=1) (enc:=vu) (fun _=>rfl) h (by simp) hb8' hb1'];have e:js vu args=args.map vu:=by rw [←vu_flat args,List.flatMap_map]; rfl
   rw [e]; simp [vu]
  refine QB (c:=jc Tryz.f99) Tryz.func99 Tryz.ntmps99 fun hwf=>?_
  have on:=jx hwf h1;have ln:=jx hwf h3;have gn:=jx hwf h2;have oo:=fun u l => @jm S u l o on
  have ool:=fun u l' => @jm S u l' l ln
  have updo:=fun u l c => @qN S u l c o on
  have dell:=fun u l' => @St_delOld S u l' l ln
  refine QT ?_;refine QY ?_;refine QH 6 0 ?_;refine QT ?_;refine QY ?_ (r:=by conv=>lhs;simp[QV,oo,ool,updo,dell,h1,h3,h4,h5,h6,hwn,hb8,hb1,hap2]);refine QT ?_;refine QY ?_;refine QT ?_;refine QY ?_;refine zy 10 1 rfl (by conv=>lhs; simp [Fr.set]) ?_;obtain ⟨L,hL⟩ : ∃ L,L=log++n::args:=⟨_,rfl⟩
  have hLl:L.length=log.length+1+args.length:=by rw [hL]; simp; omega
  rw [←hL];have gto:=fun ks=>qy (n:=S.nx) (o:=o) ks on
  have gtg:=fun ks=>qy (n:=S.nx) (o:=g) ks gn
  have gpo:=fun ks=>za (n:=S.nx) (o:=o) ks on
  have gpg:=fun ks=>za (n:=S.nx) (o:=g) ks gn
  refine QO [0,6,10,11] ?_;refine Zr [3,4] hwf (by decide) (by simp [gto,gtg,gpo,gpg,jk,jn]) (by conv=>lhs; simp [gto,gtg,gpo,gpg,jk,jn]) (by conv=>lhs; simp [gto,gtg,gpo,gpg,jk,jn]) (by conv=>lhs; simp [gto,gtg,gpo,gpg,jk,jn]) ?_
  repeat first|refine QG ?_|refine QY ?_
  refine QT ?_;refine jd [0,6,10,11] rfl (fun c σ S' => ∃ (k:Nat) (ik ok:List Int),k≤to.length∧c=to.length-k∧Ev.hostL to inp=(if (Ev.hostL (to.drop k) ik).2.2=0 then (ok++(Ev.hostL (to.drop k) ik).1,(Ev.hostL (to.drop k) ik).2.1,0) else ([],(Ev.hostL (to.drop k) ik).2.1,(Ev.hostL (to.drop k) ik).2.2))∧ok.length=k∧σ=[(0, .ptr o 6),(6,(V.agg [vl vint ti,vl vint to]).ref),(10, .slice (lid S.nx 1) 0 k),(11,vnat k)]∧S'=St S [(l,none),(o,some (14,[vl jl sg,vint im,vl vint gl,vl V.bool mu,V.bool me,vl jJ fns,vl vby mem,vint most, .slice g 0 glb.length,vint fuel,vl vu ik,   .slice (lid S.nx 0) 0 L.length,vint d,vint 0]))] [some (1,L.map vu),some (1,ok.map vu)]) to.length ?_ ?_
  ·exact ⟨0,inp,[],by omega,rfl,by rw [List.drop_zero]; split<;>rename_i hz<;>first | (rw [List.nil_append, ←hz]) | (exact (hostL_out hz)),rfl,by simp [Fr.only,Fr.look],by rw [hLl]; simp [hL]⟩
  ·rintro c σ T ⟨k,ik,ok,hk,rfl,hd,hok,rfl,rfl⟩
   by_cases hkt:k<to.length
   ·have hw:=jh hkt (by omega);rw [List.drop_eq_getElem_cons hkt] at hd;obtain ⟨tk,htk⟩ : ∃ x,to[k]=x:=⟨_,rfl⟩
    rw [htk] at hd
    cases ik with
    | nil =>
     have hd:Ev.hostL to inp=([],[],39):=hd;rw [hd]
     repeat first|refine QG ?_|refine QY ?_ (r:=by conv=>lhs;simp[QV,hkt,oo,updo,h4,h5,h6])
     exact ⟨_,_,(Ghost.tuple [] [_] (Ghost.nils_list _)).toB _,rfl,host_end (s':=⟨mem,most,glb,fuel,[],L⟩) 0 hwf hR rfl rfl rfl⟩
    | cons x ik =>
     have hl0 : ¬ (ik.length:Int)+1=0:=by omega
     have hdr : ∀ S',qj 1 S' (vl vu (x::ik)) (some (.int .i64 1)) none none=some (vl vu ik):=fun S'=>by
      have:=Ke (S:=S') (s:=1) (enc:=vu) (l:=x::ik) (k := .i64) (h:=1) (fun _=>rfl) (by omega) (by simp only [List.length_cons]; omega);exact this
     have hix : ∀ S',jD 1 S' (vl vu (x::ik)) (.int .i64 0)=some (.ref (vu x)):=fun S'=>ZP (enc:=vu) (l:=x::ik) rfl rfl
     have hd:=hostL_step hd;have hb8k:(k+1)*8≤140737488355328:=by omega
     have hb1k:k+1≤140737488355328:=by omega
     have hm:=mask32_v x
     by_cases h127:tk=127
     ·rw [if_pos h127] at hd
      repeat first|refine QG ?_|refine QY ?_ (r:=by conv=>lhs;simp[QV,hkt,oo,updo,h4,h5,h6,htk,h127,hl0,hdr,hix,hok,hb8k,hb1k,hw])
      refine qo [0,3] (by conv=>lhs; simp [Fr.only]) hwf (by decide) (by simp [jk,jn,gto,gtg,gpo,gpg]) (by conv=>lhs; simp [jk,jn,gto,gtg,gpo,gpg]) (by conv=>lhs; simp [jk,jn,gto,gtg,gpo,gpg]) (by conv=>lhs; simp [jk,jn,gto,gtg,gpo,gpg]) ⟨?_,k+1,ik,ok++[Ev.mask32 x],hkt,rfl,hd,by simp [hok],by simp [Fr.only,Fr.look],by simp [Ev.mask32]⟩;omega
     ·rw [if_neg h127] at hd
      repeat first|refine QG ?_|refine QY ?_ (r:=by conv=>lhs;simp[QV,hkt,oo,updo,h4,h5,h6,htk,h127,hl0,hdr,hix,hok,hb8k,hb1k,hw])
      refine qo [0,3] (by conv=>lhs; simp [Fr.only]) hwf (by decide) (by simp [jk,jn,gto,gtg,gpo,gpg]) (by conv=>lhs; simp [jk,jn,gto,gtg,gpo,gpg]) (by conv=>lhs; simp [jk,jn,gto,gtg,gpo,gpg]) (by conv=>lhs; simp [jk,jn,gto,gtg,gpo,gpg]) ⟨?_,k+1,ik,ok++[x],hkt,rfl,hd,by simp [hok],by simp [Fr.only,Fr.look],by simp⟩;omega
   ·have hke:k=to.length:=by omega
    subst hke;have hd:Ev.hostL to inp=(ok,ik,0):=by
     rw [List.drop_length] at hd;rw [hd]; simp [Ev.hostL]
    rw [hd]
    repeat first|refine QG ?_|refine QY ?_ (r:=by conv=>lhs;simp[QV,hkt])
    exact ⟨_,_,(Ghost.tuple [] [_] (frz1 (k:=1) (cells:=ok.map vu) (by simp) (by rfl) (jq vu (fun _=>rfl) _) (by simp [hok]))).toB _,rfl,host_end (s':=⟨mem,most,glb,fuel,ik,L⟩) 0 hwf hR rfl rfl rfl⟩
 ·cases hf
end Go.Vw
namespace Go.Vw
open Go.Proofs Go.RowKit
theorem fit_fits {t n:Int} (ht:t=126∨t=127) (h:Fit (Ev.widthI t) n):Ev.fits t n=true∧Ev.U64 n:=by
 obtain ⟨h0,h1⟩:=h;rcases ht with rfl | rfl
 ·have e:(2:Int)^Ev.widthI 126=18446744073709551616:=by decide
  rw [e] at h1;exact ⟨rfl,h0,h1⟩
 ·have e:(2:Int)^Ev.widthI 127=4294967296:=by decide
  rw [e] at h1;exact ⟨by simp [Ev.fits,h1],h0,by omega⟩
theorem rsigT_kind {op:Int} (h:Ss.rof op≠0):Ss.rsigT op=126∨Ss.rsigT op=127:=by
 simp only [Ss.rsigT];split
 ·exact .inl rfl
 ·split
  ·exact .inr rfl
  ·simp only [Ss.rof] at h ⊢;split at h
   ·right; rw [if_pos ‹_›]
   ·split at h
    ·left; rw [if_neg ‹_›,if_pos ‹_›]
    ·exact absurd rfl h
theorem Neval_all (op:Int) (a:List Int) (hu : ∀ x∈a,Ev.U64 x) (hl:a.length<2^62) : ∃ p:Int × Int,VPure Tryz.prog 130 [vint op,vl vu a] (.tuple [vu p.1,vint p.2])∧Ev.U64 p.1∧(Ev.argsOk op a→Ev.fits (Ss.rsigT op) p.1=true∧(Ev.partialO op=false→p.2=0)):=by
 by_cases h:Ev.argsOk op a
 ·obtain ⟨n,e,h1,h2,h3⟩:=Neval_ok op a h hu;obtain ⟨f1,f2⟩:=fit_fits (rsigT_kind h.1) h2;exact ⟨(n,e),h1,f2,fun _=>⟨f1,h3⟩⟩
 ·by_cases h1:Ss.rof op=0∨a.length≠(Ss.rsig op).1.length
  ·exact ⟨(0,1),Neval_bad op a h1 hl,⟨by decide,by decide⟩,fun k=>absurd k h⟩
  ·have h0:Ss.rof op≠0:=fun e=>h1 (.inl e)
   have h2:a.length=(Ss.rsig op).1.length:=Decidable.not_not.1 fun e=>h1 (.inr e)
   refine ⟨(0,1),Neval_misfit op a h0 h2 ?_,⟨by decide,by decide⟩,fun k=>absurd k h⟩;refine Classical.byContradiction fun k=>h ⟨h0,h2,fun i h3 h4 => ?_⟩
   cases hf:Ev.fits (Ss.rsig op).1[i] a[i] with
   | true=>rfl
   | false=>exact absurd ⟨i,h3,h4,hf⟩ k
structure OpsV (O:Ev.Ops):Prop where
 eval : ∀ op a,(∀ x∈a,Ev.U64 x)→a.length<2^62→VPure Tryz.prog 130 [vint op,vl vu a] (.tuple [vu (O.eval op a).1,vint (O.eval op a).2])
 load : ∀ m op ad off,byteL m→Ev.U64 ad→Ev.U64 off→VPure Tryz.prog 128 [vl vby m,vint op,vu ad,vu off] (.tuple [vu (O.load m op ad off).1,vint (O.load m op ad off).2])
 store : ∀ m op ad off n,byteL m→Ev.U64 ad→Ev.U64 off→Ev.U64 n→VPure Tryz.prog 127 [vl vby m,vint op,vu ad,vu off,vu n] (.tuple [vl vby (O.store m op ad off n).1,vint (O.store m op ad off n).2])
 grow : ∀ m most p,byteL m → -9223372036854775808≤most→most<9223372036854775808→Ev.U64 p→VPure Tryz.prog 129 [vl vby m,vint most,vu p] (.tuple [vl vby (O.grow m most p).1,vu (O.grow m most p).2])
theorem ops_ex : ∃ O:Ev.Ops,OpsV O∧Ev.OpsOk O:=by
 have he : ∀ op a, ∃ p:Int × Int,(∀ x∈a,Ev.U64 x)→a.length<2^62→VPure Tryz.prog 130 [vint op,vl vu a] (.tuple [vu p.1,vint p.2])∧Ev.U64 p.1∧(Ev.argsOk op a→Ev.fits (Ss.rsigT op) p.1=true∧(Ev.partialO op=false→p.2=0)):=fun op a=>by
  by_cases h:(∀ x∈a,Ev.U64 x)∧a.length<2^62
  ·obtain ⟨p,hp⟩:=Neval_all op a h.1 h.2;exact ⟨p,fun _ _=>hp⟩
  ·exact ⟨(0,0),fun h1 h2=>absurd ⟨h1,h2⟩ h⟩
 have hl : ∀ m op ad off, ∃ p:Int × Int,byteL m→Ev.U64 ad→Ev.U64 off→VPure Tryz.prog 128 [vl vby m,vint op,vu ad,vu off] (.tuple [vu p.1,vint p.2])∧Ev.U64 p.1∧(((Ss.accOf op).getD ⟨0,0,false,false⟩).kind=127→p.1<4294967296):=fun m op ad off=>by
  by_cases h:byteL m∧Ev.U64 ad∧Ev.U64 off
  ·obtain ⟨n,e,hp⟩:=Mload_v m op ad off h.1 h.2.1 h.2.2;exact ⟨(n,e),fun _ _ _=>hp⟩
  ·exact ⟨(0,0),fun h1 h2 h3=>absurd ⟨h1,h2,h3⟩ h⟩
 have hs : ∀ m op ad off n, ∃ p:List Int × Int,(byteL m→Ev.U64 ad→Ev.U64 off→Ev.U64 n→VPure Tryz.prog 127 [vl vby m,vint op,vu ad,vu off,vu n] (.tuple [vl vby p.1,vint p.2])∧byteL p.1∧(p.2=0→p.1.length=m.length))∧(p.2=0→p.1.length=m.length):=fun m op ad off n=>by
  by_cases h:byteL m∧Ev.U64 ad∧Ev.U64 off∧Ev.U64 n
  ·obtain ⟨m',e,hp⟩:=Mstore_v m op ad off n h.1 h.2.1 h.2.2.1 h.2.2.2;exact ⟨(m',e),fun _ _ _ _=>hp,hp.2.2⟩
  ·exact ⟨(m,0),fun h1 h2 h3 h4=>absurd ⟨h1,h2,h3,h4⟩ h,fun _=>rfl⟩
 have hg : ∀ m most p, ∃ r:List Int × Int,(byteL m → -9223372036854775808≤most→most<9223372036854775808→Ev.U64 p→VPure Tryz.prog 129 [vl vby m,vint most,vu p] (.tuple [vl vby r.1,vu r.2])∧byteL r.1∧m.length≤r.1.length∧0≤r.2∧r.2<4294967296)∧m.length≤r.1.length∧(m.length≤4096→r.1.length≤4096):=fun m most p=>by
  by_cases h:byteL m ∧ -9223372036854775808≤most∧most<9223372036854775808∧Ev.U64 p
  ·obtain ⟨m',n,hp⟩:=Ngrow_v m most p h.1 h.2.1 h.2.2.1 h.2.2.2;exact ⟨(m',n),fun _ _ _ _=>⟨hp.1,hp.2.1,hp.2.2.1,hp.2.2.2.1,hp.2.2.2.2.1⟩,hp.2.2.1,hp.2.2.2.2.2⟩
  ·exact ⟨(m,0),fun h1 h2 h3 h4=>absurd ⟨h1,h2,h3,h4⟩ h,Nat.le_refl _,fun h=>h⟩
 refine ⟨⟨fun op a=>(he op a).choose,fun m op ad off=>(hl m op ad off).choose,fun m op ad off n=>(hs m op ad off n).choose,fun m most p=>(hg m most p).choose⟩,⟨?_, ?_, ?_, ?_⟩,⟨?_, ?_, ?_, ?_, ?_, ?_, ?_, ?_⟩⟩
 ·exact fun op a h1 h2=>((he op a).choose_spec h1 h2).1
 ·exact fun m op ad off h1 h2 h3=>((hl m op ad off).choose_spec h1 h2 h3).1
 ·exact fun m op ad off n h1 h2 h3 h4=>((hs m op ad off n).choose_spec.1 h1 h2 h3 h4).1
 ·exact fun m most p h1 h2 h3 h4=>((hg m most p).choose_spec.1 h1 h2 h3 h4).1
 ·exact fun op a h1 h2=>((he op a).choose_spec h1 h2).2.1
 ·exact fun op a h1 h2 h3=>((he op a).choose_spec h1 h2).2.2 h3
 ·exact fun m op ad off h1 h2 h3=>((hl m op ad off).choose_spec h1 h2 h3).2
 ·exact fun m op ad off n h1 h2 h3 h4=>((hs m op ad off n).choose_spec.1 h1 h2 h3 h4).2
 ·exact fun m most p h1 h2 h3 h4=>((hg m most p).choose_spec.1 h1 h2 h3 h4).2
 ·exact fun m op ad off n=>(hs m op ad off n).choose_spec.2
 ·exact fun m most p=>(hg m most p).choose_spec.2.1
 ·exact fun m most p=>(hg m most p).choose_spec.2.2
end Go.Vw
namespace Go.Vw
open Go.Proofs Go.RowKit
attribute [-simp] List.map_set
def RunPost (P:Ev.Prog) (o g l:Nat) (d:Int) (r:Ev.Res) (S:Store) (x:V) (T:Store):Prop :=
 x=vl vu r.1∧Keeps S T [o,g,l] ∧ ∃ l',RunAt T P r.2.1 o g l' d r.2.2∧(l'=l∨S.nx≤l')
structure Ok (s:Ev.State):Prop where
 fit:Ev.StFits s
 fuel:0≤s.fuel
def CallOk (P:Ev.Prog) (call:Int→List Int→Ev.State→Option Ev.Res) (d:Int):Prop :=
 ∀ (n:Int) (args:List Int) (s:Ev.State) (r:Ev.Res) (S:Store) (o g l:Nat),Ok s→(∀ x∈args,Ev.U64 x)→args.length≤4096→0≤n→n<64→RunAt S P s o g l d 0→call n args s=some r →
  VCalls Tryz.prog 75 [.ptr o 0,vint n,vl vu args] S (RunPost P o g l d r S)
theorem zq {S:Store} {P:Ev.Prog} {s s':Ev.State} {o g l:Nat} {d e:Int} {out:List Int} {own:List (Option (Nat × List V))} {cells:List V} {k:Nat} (hwf:S.Wf) (hr:RunAt S P s o g l d 0) (hs:s'.globals=s.globals) (hl:s'.log=s.log) (hc:cells=runC P s' g l d e) (hk:k<own.length) (ho:(own[k]?).join=some (1,out.map vu)) :
  zO S.nx (RunPost P o g l d (out,s',e) S) (.slice (lid S.nx k) 0 out.length) (St S [(o,some (14,cells))] own):=by
 have on:=jx hwf hr.obj;have gn:=jx hwf hr.glob;have ln:=jx hwf hr.log;have h1:=hr.og;have h2:=hr.ol;have h3:=hr.gl;refine ⟨_,_,(frz1 hk ho (jq vu (fun _=>rfl) _) (by simp)).toB _,rfl,Kv fun i c hi => ?_,l,⟨?_, ?_, ?_,h1,h2,h3⟩, .inl rfl⟩
 ·simp only [List.mem_cons,List.not_mem_nil,or_false,not_or] at hi;simp [uGet,hi.1]
 ·rw [jm on,hc]; simp [uGet]
 ·rw [jm gn,hs]; simp [uGet,Ne.symm h1,hr.glob]
 ·rw [jm ln,hl]; simp [uGet,Ne.symm h2,hr.log]
theorem one_nil {S:Store} {P:Ev.Prog} {s s':Ev.State} {o g l:Nat} {d e:Int} {own:List (Option (Nat × List V))} {cells:List V} (hwf:S.Wf) (hr:RunAt S P s o g l d 0) (hs:s'.globals=s.globals) (hl:s'.log=s.log) (hc:cells=runC P s' g l d e) :
  zO S.nx (RunPost P o g l d ([],s',e) S) .nils (St S [(o,some (14,cells))] own):=by
 have on:=jx hwf hr.obj;have gn:=jx hwf hr.glob;have ln:=jx hwf hr.log;have h1:=hr.og;have h2:=hr.ol;have h3:=hr.gl;refine ⟨_,_,(Ghost.nils_list _).toB _,rfl,Kv fun i c hi => ?_,l,⟨?_, ?_, ?_,h1,h2,h3⟩, .inl rfl⟩
 ·simp only [List.mem_cons,List.not_mem_nil,or_false,not_or] at hi;simp [uGet,hi.1]
 ·rw [jm on,hc]; simp [uGet]
 ·rw [jm gn,hs]; simp [uGet,Ne.symm h1,hr.glob]
 ·rw [jm ln,hl]; simp [uGet,Ne.symm h2,hr.log]
theorem one_glob {S:Store} {P:Ev.Prog} {s s':Ev.State} {o g l:Nat} {d e:Int} {out:List Int} {own:List (Option (Nat × List V))} {cells:List V} {k:Nat} (hwf:S.Wf) (hr:RunAt S P s o g l d 0) (hl:s'.log=s.log) (hc:cells=runC P s' g l d e) (hk:k<own.length) (ho:(own[k]?).join=some (1,out.map vu)) :
  zO S.nx (RunPost P o g l d (out,s',e) S) (.slice (lid S.nx k) 0 out.length) (St S [(g,some (1,s'.globals.map vu)),(o,some (14,cells))] own):=by
 have on:=jx hwf hr.obj;have gn:=jx hwf hr.glob;have ln:=jx hwf hr.log;have h1:=hr.og;have h2:=hr.ol;have h3:=hr.gl;refine ⟨_,_,(frz1 hk ho (jq vu (fun _=>rfl) _) (by simp)).toB _,rfl,Kv fun i c hi => ?_,l,⟨?_, ?_, ?_,h1,h2,h3⟩, .inl rfl⟩
 ·simp only [List.mem_cons,List.not_mem_nil,or_false,not_or] at hi;simp [uGet,hi.1,hi.2.1]
 ·rw [jm on,hc]; simp [uGet,h1]
 ·rw [jm gn]; simp [uGet]
 ·rw [jm ln,hl]; simp [uGet,Ne.symm h2,Ne.symm h3,hr.log]
theorem Keeps.trans {S T U:Store} {xs:List Nat} (h:Keeps S T xs) (k:Keeps T U xs):Keeps S U xs :=
 ⟨Nat.le_trans h.1 k.1,fun i hi hx=>(k.2 i (Nat.lt_of_lt_of_le hi h.1) hx).trans (h.2 i hi hx)⟩
theorem RunAt.ext {S T:Store} {P:Ev.Prog} {s:Ev.State} {o g l:Nat} {d e:Int} (h:RunAt S P s o g l d e) (ho:T.get o=S.get o) (hg:T.get g=S.get g) (hl:T.get l=S.get l):RunAt T P s o g l d e :=
 ⟨ho.trans h.obj,hg.trans h.glob,hl.trans h.log,h.og,h.ol,h.gl⟩
theorem RunAt.own {S:Store} {P:Ev.Prog} {s:Ev.State} {o g l:Nat} {d e:Int} (hwf:S.Wf) (h:RunAt S P s o g l d e) (w:List (Option (Nat × List V))):RunAt (St S [] w) P s o g l d e :=
 h.ext (by rw [jm (jx hwf h.obj)]; rfl) (by rw [jm (jx hwf h.glob)]; rfl) (by rw [jm (jx hwf h.log)]; rfl)
theorem RunPost.own {S T:Store} {P:Ev.Prog} {o g l:Nat} {d:Int} {r:Ev.Res} {x:V} {w:List (Option (Nat × List V))} (h:RunPost P o g l d r (St S [] w) x T):RunPost P o g l d r S x T:=by
 obtain ⟨h1,h2,l',h3,h4⟩:=h;refine ⟨h1,(Kv fun i c hi=>rfl).trans h2,l',h3,h4.imp_right fun h => ?_⟩;rw [jP,lid] at h; omega
theorem NOne_v (O:Ev.Ops) (hO:OpsV O) (P:Ev.Prog) (call:Int→List Int→Ev.State→Option Ev.Res) (f:Ss.Fn) (x:Ss.Ins) (a:List Int) (s:Ev.State) (o g l:Nat) (d:Int) (r:Ev.Res) (S:Store)
  (hcall:CallOk P call d) (hs:Ok s) (hx:x.Fits) (ha : ∀ y∈a,Ev.U64 y) (hal:a.length≤4096) (hcl:x.op=16→x.n<64) (hr:RunAt S P s o g l d 0) (hf:Ev.oneF O call x a s=some r) :
  VCalls Tryz.prog 117 [.ptr o 0,jJ f,jp x,vl vu a] S (RunPost P o g l d r S):=by
 have hR:=hr;obtain ⟨h1,h2,h3,h4,h5,h6⟩:=hr;obtain ⟨⟨hmB,hmo,hgW,hfu,hiW,hlW⟩,hf0⟩:=hs;have ca:=WE x.op;obtain ⟨⟨fi,fo⟩,ft,fb⟩:=f;obtain ⟨op,n,xa,xo⟩:=x;obtain ⟨mem,most,glb,fuel,inp,log⟩:=s;obtain ⟨_,⟨n0,n1⟩,_,_⟩:=hx;simp only at ca n0 n1 hcl hmB hmo hgW hfu hiW hlW hf0;simp only [runC] at h1 h2 h3;have e1:jJ ⟨⟨fi,fo⟩,ft,fb⟩ = .agg [vl vint fi,vl vint fo,vl vint ft,vl je fb]:=rfl;have e2:jp ⟨op,n,xa,xo⟩ = .agg [vint op,vu n,vl vint xa,vl vint xo]:=rfl;rw [e1,e2];obtain ⟨ok,hok⟩ : ∃ b,b=(Ss.accOf op).isSome:=⟨_,rfl⟩
 obtain ⟨acc,hacc⟩ : ∃ b,b=(Ss.accOf op).getD ⟨0,0,false,false⟩:=⟨_,rfl⟩
 rw [←hok, ←hacc] at ca;refine QB (c:=jc Tryz.f117) Tryz.func117 Tryz.ntmps117 fun hwf=>?_
 have on:=jx hwf h1;have gn:=jx hwf h2;have oo:=fun u l => @jm S u l o on
 have gg:=fun u l => @jm S u l g gn
 have updo:=fun u l c => @qN S u l c o on
 have updg:=fun u l c => @qN S u l c g gn
 refine QT ?_;refine QY ?_;refine QH 5 0 ?_;refine QH 6 1 ?_;refine QT ?_;refine QP ?_;refine jb rfl (ca) ?_;refine QW ?_;refine QT ?_;refine QY ?_
 by_cases c1:op=256
 ·subst c1;have hok:ok=false:=hok;subst hok;have hf:([n],_,0)=r:=Option.some.inj hf;subst hf
  repeat first|refine QG ?_|refine QY ?_ (r:=by conv=>lhs;simp[QV,oo,updo,h1])
  exact zq (k:=2) (out:=[n]) hwf hR rfl rfl rfl (by simp) rfl
 by_cases c2:op=258
 ·subst c2;have hok:ok=false:=hok;subst hok;have hf:(if fuel=0 then some ([],⟨mem,most,glb,fuel,inp,log⟩,36) else some ([0],⟨mem,most,glb,fuel-1,inp,log⟩,0))=some r:=hf
  by_cases f0:fuel=0
  ·rw [if_pos f0] at hf
   cases hf
   subst f0
   repeat first|refine QG ?_|refine QY ?_ (r:=by conv=>lhs;simp[QV,oo,updo,h1])
   exact one_nil hwf hR rfl rfl rfl
  ·rw [if_neg f0] at hf
   cases hf
   have hw:IntKind.i64.wrap (fuel-1)=fuel-1:=wrap_i64 (by omega) (by omega)
   repeat first|refine QG ?_|refine QY ?_ (r:=by conv=>lhs;simp[QV,oo,updo,h1,f0,hw])
   exact zq (k:=2) (out:=[0]) (s':=⟨mem,most,glb,fuel-1,inp,log⟩) hwf hR rfl rfl rfl (by simp) rfl
 by_cases c3:op=27
 ·subst c3;have hok:ok=false:=hok;subst hok;rcases a with _ | ⟨p,_ | ⟨q,_ | ⟨t,_ | _⟩⟩⟩
  ·cases hf
  ·cases hf
  ·cases hf
  ·have hf:([if t=0 then q else p],(⟨mem,most,glb,fuel,inp,log⟩:Ev.State),0)=r:=Option.some.inj hf;subst hf;have i0 : ∀ S',jD 1 S' (vl vu [p,q,t]) (.int .i64 0)=some (.ref (vu p)):=fun _=>rfl
   have i1 : ∀ S',jD 1 S' (vl vu [p,q,t]) (.int .i64 1)=some (.ref (vu q)):=fun _=>rfl
   have i2 : ∀ S',jD 1 S' (vl vu [p,q,t]) (.int .i64 2)=some (.ref (vu t)):=fun _=>rfl
   by_cases t0:t=0
   ·rw [if_pos t0];subst t0
    repeat first|refine QG ?_|refine QY ?_ (r:=by conv=>lhs;simp[QV,oo,updo,h1,i0,i1,i2])
    exact zq (k:=2) (out:=[q]) hwf hR rfl rfl rfl (by simp) rfl
   ·rw [if_neg t0]
    repeat first|refine QG ?_|refine QY ?_ (r:=by conv=>lhs;simp[QV,oo,updo,h1,i0,i1,i2,t0])
    exact zq (k:=2) (out:=[p]) hwf hR rfl rfl rfl (by simp) rfl
  ·cases hf
 by_cases c4:op=35
 ·subst c4;have hok:ok=false:=hok;subst hok;have hf:(match glb[n.toNat]? with
   | some y=>some ([y],(⟨mem,most,glb,fuel,inp,log⟩:Ev.State),0)
   | none=>none)=some r:=hf
  obtain ⟨k,rfl⟩ : ∃ k:Nat,n=(k:Int):=⟨n.toNat,by omega⟩
  rw [Int.toNat_natCast] at hf
  cases hy:glb[k]? with
  | none=>rw [hy] at hf; cases hf
  | some y =>
   rw [hy] at hf
   cases hf
   obtain ⟨hk,hy⟩:=List.getElem?_eq_some_iff.1 hy
   repeat first|refine QG ?_|refine QY ?_ (r:=by conv=>lhs;simp[QV,oo,updo,h1])
   refine QT ?_;refine QD (r:=by conv=>lhs;simp[QV,oo,gg,h1,h2,h4,h6,hk,hy]) (k:=?_);refine QN ?_
   repeat first|refine QG ?_|refine QY ?_ (r:=by conv=>lhs;simp[QV,oo,updo,h1])
   exact zq (k:=2) (out:=[y]) hwf hR rfl rfl rfl (by simp) rfl
 by_cases c5:op=36
 ·subst c5;have hok:ok=false:=hok;subst hok;rcases a with _ | ⟨p,_ | _⟩
  ·cases hf
  ·have hf:(if n.toNat<glb.length then some ([0],(⟨mem,most,glb.set n.toNat p,fuel,inp,log⟩:Ev.State),0) else none)=some r:=hf;obtain ⟨k,rfl⟩ : ∃ k:Nat,n=(k:Int):=⟨n.toNat,by omega⟩
   rw [Int.toNat_natCast] at hf;split at hf
   ·rename_i hk
    cases hf
    have i0 : ∀ S',jD 1 S' (vl vu [p]) (.int .i64 0)=some (.ref (vu p)):=fun _=>rfl
    have hset:(glb.map vu).set k (.int .u64 p)=(glb.set k p).map vu:=by rw [List.map_set]; rfl
    repeat first|refine QG ?_|refine QY ?_ (r:=by conv=>lhs;simp[QV,oo,updo,h1])
    rw [JM h2];refine QT ?_;refine QJ (St S [(g,none)] [none,none]) (St S [(g,some (1,glb.map vu))] [none,none]) [] ?_ (r:=by conv=>lhs; simp [QV,oo,gg,h1,h2,h4,h6,hk,i0]);refine QI ?_ (r:=by conv=>lhs;simp[QV,oo,gg,updg,h1,h2,h4,h6,hk,i0,hset]);refine QN ?_
    repeat first|refine QG ?_|refine QY ?_ (r:=by conv=>lhs;simp[QV,oo,updo,h1,h4])
    exact one_glob (k:=2) (out:=[0]) (s':=⟨mem,most,glb.set k p,fuel,inp,log⟩) hwf hR rfl (by simp [runC]) (by simp) rfl
   ·cases hf
  ·cases hf
 by_cases c6:op=16
 ·subst c6;have hok:ok=false:=hok;subst hok;have hf:call n a ⟨mem,most,glb,fuel,inp,log⟩=some r:=hf;have hn:=hcl rfl;have hw:IntKind.i64.wrap n=n:=wrap_i64 (by omega) (by omega)
  repeat first|refine QG ?_|refine QY ?_
  refine QT ?_;refine QP ?_ (r:=by conv=>lhs;simp[QV,hw]);refine jO rfl (hcall n a _ r _ o g l ⟨⟨hmB,hmo,hgW,hfu,hiW,hlW⟩,hf0⟩ ha hal (by omega) hn (hR.own hwf _) hf) ?_;rintro X T hX;refine QW ?_
  repeat first|refine QG ?_|refine QY ?_
  exact ⟨_,_,GhostB.refl _ _ _,hX.own⟩
 by_cases c7:op=257
 ·subst c7;have hok:ok=false:=hok;subst hok;rcases a with _ | ⟨p,_ | _⟩
  ·cases hf
  ·have hf:([0],(⟨mem,most,glb,fuel,inp,log⟩:Ev.State),if Ev.insideI mem.length p n=true then 0 else 35)=r:=Option.some.inj hf;subst hf;have i0 : ∀ S',jD 1 S' (vl vu [p]) (.int .i64 0)=some (.ref (vu p)):=fun _=>rfl
   have cin:=jaE mem p n hmB (ha p (by simp)).1 n0;generalize Ev.insideI mem.length p n=ib at *
   repeat first|refine QG ?_|refine QY ?_ (r:=by conv=>lhs;simp[QV,oo,updo,h1])
   refine QT ?_;refine QD (r:=by conv=>lhs;simp[QV,oo,h1,i0]) (k:=?_);refine jb rfl (cin) ?_
   cases ib with
   | true =>
    refine QW ?_
    repeat first|refine QG ?_|refine QY ?_ (r:=by conv=>lhs;simp[QV,oo,updo,h1])
    exact zq (k:=2) (out:=[0]) hwf hR rfl rfl rfl (by simp) rfl
   | false =>
    refine QW ?_
    repeat first|refine QG ?_|refine QY ?_ (r:=by conv=>lhs;simp[QV,oo,updo,h1])
    exact zq (k:=2) (out:=[0]) hwf hR rfl rfl rfl (by simp) rfl
  ·cases hf
 simp only [Ev.oneF,if_neg c1,if_neg c2,if_neg c3,if_neg c4,if_neg c5,if_neg c6,if_neg c7] at hf
 cases hao:Ss.accOf op with
 | some c =>
  rw [hao] at hf hok hacc;have hok:ok=true:=hok;have hacc:acc=c:=hacc;subst hok hacc;simp only at hf
  cases hst:acc.store with
  | true =>
   rw [hst,if_pos rfl] at hf;rcases a with _ | ⟨p,_ | ⟨q,_ | _⟩⟩
   ·cases hf
   ·cases hf
   ·have hf:=Option.some.inj hf;have i0 : ∀ S',jD 1 S' (vl vu [p,q]) (.int .i64 0)=some (.ref (vu p)):=fun _=>rfl
    have i1 : ∀ S',jD 1 S' (vl vu [p,q]) (.int .i64 1)=some (.ref (vu q)):=fun _=>rfl
    have cst:=hO.store mem op p n q hmB (ha p (by simp)) ⟨n0,n1⟩ (ha q (by simp));generalize O.store mem op p n q=sr at *
    obtain ⟨m',e⟩:=sr;simp only at hf cst
    by_cases e0:e=0
    ·rw [if_pos e0,if_pos e0] at hf;subst hf
     repeat first|refine QG ?_|refine QY ?_ (r:=by conv=>lhs;simp[QV,oo,updo,h1,c1,c2,c3,c4,c5,c6,c7,hst])
     refine QT ?_;refine QD (r:=by conv=>lhs;simp[QV,oo,h1,i0,i1]) (k:=?_);refine jb rfl (cst) ?_;subst e0;refine QW ?_
     repeat first|refine QG ?_|refine QY ?_ (r:=by conv=>lhs;simp[QV,oo,updo,h1])
     exact zq (k:=2) (out:=[0]) (s':=⟨m',most,glb,fuel,inp,log⟩) hwf hR rfl rfl rfl (by simp) rfl
    ·rw [if_neg e0,if_neg e0] at hf;subst hf
     repeat first|refine QG ?_|refine QY ?_ (r:=by conv=>lhs;simp[QV,oo,updo,h1,c1,c2,c3,c4,c5,c6,c7,hst])
     refine QT ?_;refine QD (r:=by conv=>lhs;simp[QV,oo,h1,i0,i1]) (k:=?_);refine jb rfl (cst) ?_;refine QW ?_
     repeat first|refine QG ?_|refine QY ?_ (r:=by conv=>lhs;simp[QV,oo,updo,h1,e0])
     exact zq (k:=2) (out:=[0]) hwf hR rfl rfl rfl (by simp) rfl
   ·cases hf
  | false =>
   rw [hst,if_neg (by decide)] at hf;rcases a with _ | ⟨p,_ | _⟩
   ·cases hf
   ·have hf:=Option.some.inj hf;have i0 : ∀ S',jD 1 S' (vl vu [p]) (.int .i64 0)=some (.ref (vu p)):=fun _=>rfl
    have cld:=hO.load mem op p n hmB (ha p (by simp)) ⟨n0,n1⟩;generalize O.load mem op p n=sr at *
    obtain ⟨y,e⟩:=sr;simp only at hf cld
    by_cases e0:e=0
    ·rw [if_pos e0] at hf;subst hf;subst e0
     repeat first|refine QG ?_|refine QY ?_ (r:=by conv=>lhs;simp[QV,oo,updo,h1,c1,c2,c3,c4,c5,c6,c7,hst])
     refine QT ?_;refine QD (r:=by conv=>lhs;simp[QV,oo,h1,i0]) (k:=?_);refine jb rfl (cld) ?_;refine QW ?_
     repeat first|refine QG ?_|refine QY ?_ (r:=by conv=>lhs;simp[QV,oo,updo,h1])
     exact zq (k:=2) (out:=[y]) hwf hR rfl rfl rfl (by simp) rfl
    ·rw [if_neg e0] at hf;subst hf
     repeat first|refine QG ?_|refine QY ?_ (r:=by conv=>lhs;simp[QV,oo,updo,h1,c1,c2,c3,c4,c5,c6,c7,hst])
     refine QT ?_;refine QD (r:=by conv=>lhs;simp[QV,oo,h1,i0]) (k:=?_);refine jb rfl (cld) ?_;refine QW ?_
     repeat first|refine QG ?_|refine QY ?_ (r:=by conv=>lhs;simp[QV,oo,updo,h1,e0])
     exact zq (k:=2) (out:=[y]) hwf hR rfl rfl rfl (by simp) rfl
   ·cases hf
 | none =>
  rw [hao] at hf hok;have hok:ok=false:=hok;subst hok;simp only at hf
  by_cases c8:op=63
  ·rw [if_pos c8] at hf
   cases hf
   subst c8;obtain ⟨q,hq⟩ : ∃ q,(mem.length:Int).tdiv 256=q:=⟨_,rfl⟩
   have hml:=hmB.1;have hq0:0≤q∧q≤140737488355328:=by
    rw [Int.tdiv_eq_ediv_of_nonneg (by omega)] at hq;omega
   have w1:IntKind.i64.wrap q=q:=wrap_i64 (by omega) (by omega);have w2:IntKind.u64.wrap q=q:=jr (by omega) (by omega);rw [hq]
   repeat first|refine QG ?_|refine QY ?_ (r:=by conv=>lhs;simp[QV,oo,updo,h1,hq,w1,w2])
   exact zq (k:=2) (out:=[q]) hwf hR rfl rfl rfl (by simp) rfl
  rw [if_neg c8] at hf
  by_cases c9:op=64
  ·rw [if_pos c9] at hf;subst c9;rcases a with _ | ⟨p,_ | _⟩
   ·cases hf
   ·have hf:=Option.some.inj hf;have i0 : ∀ S',jD 1 S' (vl vu [p]) (.int .i64 0)=some (.ref (vu p)):=fun _=>rfl
    have cgr:=hO.grow mem most p hmB hmo.1 hmo.2 (ha p (by simp));generalize O.grow mem most p=sr at *
    obtain ⟨m',y⟩:=sr;simp only at hf cgr;subst hf
    repeat first|refine QG ?_|refine QY ?_ (r:=by conv=>lhs;simp[QV,oo,updo,h1])
    rw [JM h1];refine QT ?_;refine QJ (St S [(o,none)] [none,none]) (St S [(o,some (14,[vl jl P.env.sigs,vint P.env.imports,vl vint P.env.globals,vl V.bool P.env.muts, .bool P.env.mem,vl jJ P.fns,vl vby mem,vint most, .slice g 0 glb.length,vint fuel,vl vu inp, .slice l 0 log.length,vint d,vint 0]))] [none,none]) [200,205] ?_ (r:=by conv=>lhs; simp [QV,oo,h1,i0]);refine jb rfl (cgr) ?_;refine QM (by conv=>lhs;simp[QV,oo,h1]) ?_;refine QI ?_ (r:=by conv=>lhs;simp[QV,oo,updo,h1]);refine QW ?_
    repeat first|refine QG ?_|refine QY ?_ (r:=by conv=>lhs;simp[QV,oo,updo,h1])
    exact zq (k:=2) (out:=[y]) (s':=⟨m',most,glb,fuel,inp,log⟩) hwf hR rfl rfl rfl (by simp) rfl
   ·cases hf
  rw [if_neg c9] at hf
  cases hf
  have cev:=hO.eval op a ha (by omega);generalize O.eval op a=sr at *
  obtain ⟨y,e⟩:=sr;simp only at cev ⊢
  repeat first|refine QG ?_|refine QY ?_ (r:=by conv=>lhs;simp[QV,oo,updo,h1,c1,c2,c3,c4,c5,c6,c7,c8,c9])
  refine QT ?_;refine QP ?_;refine jb rfl (cev) ?_;refine QW ?_
  repeat first|refine QG ?_|refine QY ?_ (r:=by conv=>lhs;simp[QV,oo,updo,h1])
  exact zq (k:=2) (out:=[y]) hwf hR rfl rfl rfl (by simp) rfl
end Go.Vw
