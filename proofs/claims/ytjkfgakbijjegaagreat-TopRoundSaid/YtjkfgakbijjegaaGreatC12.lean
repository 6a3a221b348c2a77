import Derived.Test.YtjkfgakbijjegaaGreatC11
/- Part of the proof. -/
set_option linter.unusedVariables false
set_option linter.unusedSimpArgs false
set_option maxRecDepth 10000
set_option maxHeartbeats 4000000

namespace Go.Vw
open Go.Proofs Go.RowKit Wm
attribute [-simp] List.map_set
theorem WP.refl {wo bo:Nat} {tv:V} {bs:List Nat} {S:Store} (h:WI wo bo tv bs S):WP wo bo tv bs S bo S:=⟨h,Kept.refl _ _, .inl rfl⟩
theorem WP.step {wo bo b' n:Nat} {tv:V} {bs:List Nat} {T U:Store} (h1:U.get wo=some (2,[tv, .slice b' 0 n])) (h2:U.get b'=some (1,bs.map vb)) (hn:n=bs.length) (hne:b'≠wo) (ho:T.nx<=b') (hk:Kept T [wo,bo] U):WP wo bo tv bs T b' U :=
 ⟨⟨_,h1, .inr ⟨by rw [hn],h2,hne⟩⟩,hk, .inr ho⟩
theorem ami (n:Int):IntKind.u8.wrap n=(((n % 256).toNat:Nat):Int):=by rw [Kg]; omega
theorem ahw (wo:Nat) (tv:V) (ls:List Int):WrX Tryz.prog 62 [.ptr wo 0,vl bH ls] wo tv [] (putW ls):=by
 intro bo bs S E hi he hb;have hls:(putW ls).length=ls.length:=by simp [putW]
 rw [hls] at hb;refine jc (c:=jf Tryz.f62) Tryz.func62 rfl rfl (by simp [Tryz.ntmps62]) ?_;rw [Tryz.ntmps62];intro hwf;refine bk ?_;refine bB [0,6,7,8] (fun c σ T => ∃ (k bo':Nat),k<=ls.length/\c=ls.length-k/\WP wo bo tv (bs++putW (ls.take k)) S bo' T/\σ=[(0, .ptr wo 0),(6,vl bH ls),(7,bI ls.length),(8,bI k)]) ls.length ?_ ?_
 .refine ⟨0,bo,Nat.zero_le _,rfl, ?_,by simp [Fr.oy]⟩;rw [jh hwf];simpa [putW] using WP.refl hi
 .rintro c σ T ⟨k,bo',hk,rfl,hp,rfl⟩;refine jD fun hwT => ?_;rw [<-jh hwT];by_cases hkt:k<ls.length
  .have hw:=jP hkt (by omega);obtain ⟨x,hx⟩ : ∃ x,(ls[k] % 256).toNat=x:=⟨_,rfl⟩
   have hwx:=ami ls[k];rw [hx] at hwx;obtain ⟨cur,hcur⟩ : ∃ cur,bs++putW (ls.take k)=cur:=⟨_,rfl⟩
   have hnext:bs++putW (ls.take (k+1))=cur++[x]:=by
    rw [<-hcur,List.take_succ_eq_append_getElem hkt, <-hx];simp only [putW,List.map_append,List.map_cons,List.map_nil,List.append_assoc]
   have hcl:cur.length+1<=100000000000000:=by
    rw [<-hcur];simp [putW];omega
   rw [hcur] at hp;have hlt:=hp.wi.lt hwT;obtain ⟨cell,hw0,hbc⟩:=id hp.wi;have gw : ∀ l,(St T [] l).get wo=some (2,[tv,cell]):=fun l=>(jk hlt.1).trans hw0;have key : ∀ U,WP wo bo' tv (cur++[x]) T (lid T.nx 1) U->WP wo bo tv (bs++putW (ls.take (k+1))) S (lid T.nx 1) U:=fun U h=>by rw [hnext]; exact hp.trans h
   rcases hbc with ⟨rfl,rfl,rfl⟩ | ⟨rfl,hbo,hbn⟩
   .have uw : ∀ c l,(St T [] l).upd bo' c=St T [(bo',some c)] l:=fun c l=>by rw [jT hlt.1]; rfl
    refine bp hkt gw uw hwx hw ?_;show zI _ _ _ _ _ _ _;exact again ⟨al hkt (aN k),k+1,lid T.nx 1,hkt,rfl,key _ (WP.step (n:=1) ((jk hlt.1).trans (by simp [uGet])) (by simp [vb]) (by simp) (by simp [lid]; omega) (by simp [lid]) (jN (by simp))),by simp [Fr.oy,hw]⟩
   .have gb : ∀ l,(St T [] l).get bo'=some (1,cur.map vb):=fun l=>(jk hlt.2).trans hbo;have hap : ∀ y,jB 1 1 (St T [] [some (1,[y])]) (.slice bo' 0 cur.length) (.slice (lid T.nx 0) 0 1)=some (.slice (lid T.nx 1) 0 (cur.length+1),St T [(bo',none)] [some (1,[y]),some (1,cur.map vb++[y])]):=fun y=>by
     rw [qH (s:=1) (cells:=cur.map vb) (new:=[y]) (gb _) (by simp) (by simp) (by simp) (by omega) (by omega),Jv hlt.2,qT,jH]
     rfl
    have uw : ∀ c l,(St T [(bo',none)] l).upd wo c=St T [(bo',none),(wo,some c)] l:=fun c l=>by rw [jT hlt.1]; simp [uSet,Ne.symm hbn]
    have gw2 : ∀ l,(St T [(bo',none)] l).get wo=some (2,[tv, .slice bo' 0 cur.length]):=fun l=>by rw [jk hlt.1]; simp [uGet,Ne.symm hbn,hw0]
    repeat first|refine QG ?_|refine QY ?_ (r:=by conv=>lhs;simp[QV,hkt,gw,gw2,uw,hwx,hw,hap])
    show zI _ _ _ _ _ _ _;exact again ⟨al hkt (aN k),k+1,lid T.nx 1,hkt,rfl,key _ (WP.step (n:=cur.length+1) ((jk hlt.1).trans (by simp [uGet,Ne.symm hbn])) (by simp [vb]) (by simp) (by simp [lid]; omega) (by simp [lid]) (jN (by simp))),by simp [Fr.oy,hw]⟩
  .have hke:k=ls.length:=by omega
   subst hke;refine bi hkt ?_;rw [jh hwT];rw [List.take_length] at hp;exact jn ⟨⟨bo',hp⟩,rfl⟩
theorem Wu {wo bo k:Nat} {tv:V} {bs:List Nat} {ls:List Int} {T:Store} {l:OL} {E:EP} (hw:T.Wf) (hi:WI wo bo tv bs T) (hk:(l[k]?).join=some (1,ls.map bH)) (hl:bs.length+ls.length<=90000000000000) :
  VCallsX Tryz.prog 62 [.ptr wo 0, .slice (lid T.nx k) 0 ls.length] (St T [] l) (fun r U=>(∃ bo',WP wo bo tv (bs++putW ls) T bo' U)/\r = .tuple []) E:=by
 have hkl:k<l.length:=by
  rcases bc k l.length with h | h
  .exact h
  .rw [aC h] at hk; cases hk
 have hfz:Ghost (.slice (lid T.nx k) 0 ls.length) (St T [] l) (vl bH ls) (St T [] (l.set k none)):=frz1 hkl hk (YH bH (fun _=>rfl) _) (by simp);exact qU (GhostArgs.one [.ptr wo 0] [] hfz) ((ahw wo tv ls).at hw hi ⟨fun q hq=>(by cases hq),fun q hq=>(by cases hq)⟩ (by simp [putW]; exact hl))
theorem acm (n:Int):(uW n).length<=10:=YA _ 9 n
theorem av9 (n:Int):(sW n).length<=10:=YA _ 9 n
theorem ajp {B:Store} {u:Upds} (l:OL):St (St B u []) [] l=St B u l:=by
 have hn:(St B u []).nx=B.nx:=by rw [jH]; rfl
 refine Store.eq_of (fun o => ?_) (by rw [jH,hn,jH]);rw [zj,hn,zj (u:=u) (l:=l)];split
 .rename_i h;simp only [uGet];rw [zj,if_pos h]
 .rfl
theorem am2 {S:Store} {u:Upds} {E:EP} (n:Int) (h0:0<=n) (h1:n<18446744073709551616):VCallsX Tryz.prog 14 [.nils, .int .u64 n] (St S u []) (fun r T=>r = .slice (lid S.nx 0) 0 (uW n).length/\T=St S u [some (1,(uW n).map vb)]) E:=by
 refine qU (GhostArgs.one [] [.int .u64 n] (Ghost.nl _)) ?_;refine (ajr [] n h0 h1 (by simp) (St S u [])).toX.mono ?_ fun _ _ h=>h;rintro r T ⟨rfl,rfl⟩;rw [ajp,jH];exact ⟨rfl,rfl⟩
theorem am3 {S:Store} {u:Upds} {E:EP} (n:Int) (h0 : -9223372036854775808<=n) (h1:n<9223372036854775808):VCallsX Tryz.prog 137 [.nils, .int .i64 n] (St S u []) (fun r T=>r = .slice (lid S.nx 0) 0 (sW n).length/\T=St S u [some (1,(sW n).map vb)]) E:=by
 refine qU (GhostArgs.one [] [.int .i64 n] (Ghost.nl _)) ?_;refine (awu [] n h0 h1 (by simp) (St S u [])).toX.mono ?_ fun _ _ h=>h;rintro r T ⟨rfl,rfl⟩;rw [ajp,jH];exact ⟨rfl,rfl⟩
theorem u_w (wo:Nat) (tv:V) (htv:tv.nj1=true) (n:Int) (h0:0<=n) (h1:n<18446744073709551616):WrX Tryz.prog 122 [.ptr wo 0, .int .u64 n] wo tv [] (uW n):=by
 intro bo bs S E hi he hb;refine jc (c:=jf Tryz.f122) Tryz.func122 rfl rfl (by simp [Tryz.ntmps122]) ?_;rw [Tryz.ntmps122];intro hwf;have hlt:=hi.lt hwf;have hul:=acm n;obtain ⟨ns,hns⟩ : ∃ ns,uW n=ns:=⟨_,rfl⟩
 have hcall:=fun u=>am2 (S:=S) (u:=u) (E:=E) n h0 h1;rw [hns] at hb hul hcall ⊢;unfold V.nj1 at htv;obtain ⟨cell,hw0,hbc⟩:=id hi;rcases hbc with ⟨rfl,rfl,rfl⟩ | ⟨rfl,hbo,hbn⟩
 .have gw := @old1 S bo hlt.1;have uw := @oldU S bo hlt.1;have hz : ∀ l,(Zs S [bo] [(bo,some (2,[tv,V.nils]))] []).ok (St S [(bo,some (2,[tv,V.nils]))] l):=fun l=>YI (by simp [WG,subO,jm]) (by simp [jW]) (by simp) (by simp);rw [show St S [] []=St S [(bo,some (2,[tv,V.nils]))] [] from old0 hlt.1 hw0];refine QT ?_;refine XD E ((Zs S [bo] [(bo,some (2,[tv,V.nils]))] []).lastly) [] [0,1,2,3,4,5,6,7,8,9,10] [10] (ho:=ZX.lastly_old (KF _ _ _ _)) (hz:=ZX.lastly_ok (hz [])) (r:=by conv=>lhs;simp[QV,↓ju,ZR,Zs,zz,jl,ji,V.nj,V.nj1,V.bK,ZX.lastly,gw,htv]) (k:=?_);refine qM rfl rfl (by rw [jH]; simp [Zs,ZX.lastly,lid]) ((hcall _).mono ?_ fun _ _ h=>h);rintro r T ⟨rfl,rfl⟩;refine ⟨ZX.lastly_ok (hz _), ?_⟩;refine ZM (r:=by conv=>lhs;simp[QV,↓ju,ZR,Zs,zz,jl,ji,V.nj,V.nj1,V.bK,ZX.lastly]) (k:=?_);have hap : ∀ X,jB 1 1 (St S [(bo,some X)] [some (1,ns.map vb)]) .nils (.slice (lid S.nx 0) 0 ns.length)=some (.slice (lid S.nx 1) 0 ns.length,St S [(bo,some X)] [some (1,ns.map vb),some (1,ns.map vb)]):=fun X=>by
   rw [Yw (s:=1) (new:=ns.map vb) (by simp) (by simp) (by omega) (by omega),qT,jH]
   rfl
  refine jo rfl (by conv=>lhs; simp [hap]) ?_ ?_
  .exact ZX.lastly_ok (hz _)
  refine ZM (r:=by conv=>lhs;simp[QV,↓ju,ZR,Zs,zz,jl,ji,V.nj,V.nj1,V.bK,ZX.lastly,gw]) (k:=?_);refine zw rfl (by conv=>lhs; simp [gw,uw]) rfl ?_;refine bk ?_;exact jn ⟨⟨lid S.nx 1,WP.step (n:=ns.length) (gw _ _) (by simp) (by simp) (by simp [lid]; omega) (by simp [lid]) (jN (by simp))⟩,rfl⟩
 .have g1 := @JN S wo bo hlt.1;have g2 := @Kh S wo bo hlt.2 hbn;have u1 := @Ww S wo bo hlt.1;have g3 : ∀ X l,(St S [(wo,some X),(bo,none)] l).get wo=some X:=fun X l=>by rw [jk hlt.1]; simp [uGet]
  have hz : ∀ c l,(Zs S [wo,bo] [(wo,some (2,[tv, .slice bo 0 bs.length])),(bo,none)] []).ok (St S [(wo,some (2,[tv, .slice bo 0 bs.length])),(bo,c)] l):=fun c l=>YI (by simp [WG,subO,jm]) (by simp [jW]) (by simp) (by simp);rw [show St S [] []=St S [(wo,some (2,[tv, .slice bo 0 bs.length])),(bo,some (1,bs.map vb))] [] from jfo hlt.1 hlt.2 hw0 hbo];refine QT ?_;refine XD E ((Zs S [wo,bo] [(wo,some (2,[tv, .slice bo 0 bs.length])),(bo,none)] []).lastly) [] [0,1,2,3,4,5,6,7,8,9,10] [10] (ho:=ZX.lastly_old (KF _ _ _ _)) (hz:=ZX.lastly_ok (hz _ [])) (r:=by conv=>lhs;simp[QV,↓ju,ZR,Zs,zz,jl,ji,V.nj,V.nj1,V.bK,ZX.lastly,g1,g3,htv]) (k:=?_);refine qM rfl rfl (by rw [jH]; simp [Zs,ZX.lastly,lid]) ((hcall _).mono ?_ fun _ _ h=>h);rintro r T ⟨rfl,rfl⟩;refine ⟨ZX.lastly_ok (hz _ _), ?_⟩;refine ZM (r:=by conv=>lhs;simp[QV,↓ju,ZR,Zs,zz,jl,ji,V.nj,V.nj1,V.bK,ZX.lastly]) (k:=?_);have hap : ∀ X,jB 1 1 (St S [(wo,some X),(bo,some (1,bs.map vb))] [some (1,ns.map vb)]) (.slice bo 0 bs.length) (.slice (lid S.nx 0) 0 ns.length)=some (.slice (lid S.nx 1) 0 (bs.length+ns.length),St S [(wo,some X),(bo,none)] [some (1,ns.map vb),some (1,bs.map vb++ns.map vb)]):=fun X=>by
   rw [qH (s:=1) (cells:=bs.map vb) (new:=ns.map vb) (g2 _ _ _) (by simp) (by simp) (by simp) (by omega) (by omega),Jv hlt.2,qT,jH];simp [uSet,hbn]
  refine jo rfl (by conv=>lhs; simp [hap]) ?_ ?_
  .exact ZX.lastly_ok (hz _ _)
  have u3 : ∀ X Y l,(St S [(wo,some X),(bo,none)] l).upd wo Y=St S [(wo,some Y),(bo,none)] l:=fun X Y l=>by rw [jT hlt.1]; simp [uSet]
  refine ZM (r:=by conv=>lhs;simp[QV,↓ju,ZR,Zs,zz,jl,ji,V.nj,V.nj1,V.bK,ZX.lastly,g3]) (k:=?_);refine zw rfl (by conv=>lhs; simp [g3,u3]) rfl ?_;refine bk ?_;exact jn ⟨⟨lid S.nx 1,WP.step (n:=bs.length+ns.length) (g3 _ _) (by simp) (by simp) (by simp [lid]; omega) (by simp [lid]) (jN (by simp))⟩,rfl⟩
theorem s_w (wo:Nat) (tv:V) (htv:tv.nj1=true) (n:Int) (h0 : -9223372036854775808<=n) (h1:n<9223372036854775808):WrX Tryz.prog 123 [.ptr wo 0, .int .i64 n] wo tv [] (sW n):=by
 intro bo bs S E hi he hb;refine jc (c:=jf Tryz.f123) Tryz.func123 rfl rfl (by simp [Tryz.ntmps123]) ?_;rw [Tryz.ntmps123];intro hwf;have hlt:=hi.lt hwf;have hul:=av9 n;obtain ⟨ns,hns⟩ : ∃ ns,sW n=ns:=⟨_,rfl⟩
 have hcall:=fun u=>am3 (S:=S) (u:=u) (E:=E) n h0 h1;rw [hns] at hb hul hcall ⊢;unfold V.nj1 at htv;obtain ⟨cell,hw0,hbc⟩:=id hi;rcases hbc with ⟨rfl,rfl,rfl⟩ | ⟨rfl,hbo,hbn⟩
 .have gw := @old1 S bo hlt.1;have uw := @oldU S bo hlt.1;have hz : ∀ l,(Zs S [bo] [(bo,some (2,[tv,V.nils]))] []).ok (St S [(bo,some (2,[tv,V.nils]))] l):=fun l=>YI (by simp [WG,subO,jm]) (by simp [jW]) (by simp) (by simp);rw [show St S [] []=St S [(bo,some (2,[tv,V.nils]))] [] from old0 hlt.1 hw0];refine QT ?_;refine XD E ((Zs S [bo] [(bo,some (2,[tv,V.nils]))] []).lastly) [] [0,1,2,3,4,5,6,7,8,9,10] [10] (ho:=ZX.lastly_old (KF _ _ _ _)) (hz:=ZX.lastly_ok (hz [])) (r:=by conv=>lhs;simp[QV,↓ju,ZR,Zs,zz,jl,ji,V.nj,V.nj1,V.bK,ZX.lastly,gw,htv]) (k:=?_);refine qM rfl rfl (by rw [jH]; simp [Zs,ZX.lastly,lid]) ((hcall _).mono ?_ fun _ _ h=>h);rintro r T ⟨rfl,rfl⟩;refine ⟨ZX.lastly_ok (hz _), ?_⟩;refine ZM (r:=by conv=>lhs;simp[QV,↓ju,ZR,Zs,zz,jl,ji,V.nj,V.nj1,V.bK,ZX.lastly]) (k:=?_);have hap : ∀ X,jB 1 1 (St S [(bo,some X)] [some (1,ns.map vb)]) .nils (.slice (lid S.nx 0) 0 ns.length)=some (.slice (lid S.nx 1) 0 ns.length,St S [(bo,some X)] [some (1,ns.map vb),some (1,ns.map vb)]):=fun X=>by
   rw [Yw (s:=1) (new:=ns.map vb) (by simp) (by simp) (by omega) (by omega),qT,jH]
   rfl
  refine jo rfl (by conv=>lhs; simp [hap]) ?_ ?_
  .exact ZX.lastly_ok (hz _)
  refine ZM (r:=by conv=>lhs;simp[QV,↓ju,ZR,Zs,zz,jl,ji,V.nj,V.nj1,V.bK,ZX.lastly,gw]) (k:=?_);refine zw rfl (by conv=>lhs; simp [gw,uw]) rfl ?_;refine bk ?_;exact jn ⟨⟨lid S.nx 1,WP.step (n:=ns.length) (gw _ _) (by simp) (by simp) (by simp [lid]; omega) (by simp [lid]) (jN (by simp))⟩,rfl⟩
 .have g1 := @JN S wo bo hlt.1;have g2 := @Kh S wo bo hlt.2 hbn;have u1 := @Ww S wo bo hlt.1;have g3 : ∀ X l,(St S [(wo,some X),(bo,none)] l).get wo=some X:=fun X l=>by rw [jk hlt.1]; simp [uGet]
  have hz : ∀ c l,(Zs S [wo,bo] [(wo,some (2,[tv, .slice bo 0 bs.length])),(bo,none)] []).ok (St S [(wo,some (2,[tv, .slice bo 0 bs.length])),(bo,c)] l):=fun c l=>YI (by simp [WG,subO,jm]) (by simp [jW]) (by simp) (by simp);rw [show St S [] []=St S [(wo,some (2,[tv, .slice bo 0 bs.length])),(bo,some (1,bs.map vb))] [] from jfo hlt.1 hlt.2 hw0 hbo];refine QT ?_;refine XD E ((Zs S [wo,bo] [(wo,some (2,[tv, .slice bo 0 bs.length])),(bo,none)] []).lastly) [] [0,1,2,3,4,5,6,7,8,9,10] [10] (ho:=ZX.lastly_old (KF _ _ _ _)) (hz:=ZX.lastly_ok (hz _ [])) (r:=by conv=>lhs;simp[QV,↓ju,ZR,Zs,zz,jl,ji,V.nj,V.nj1,V.bK,ZX.lastly,g1,g3,htv]) (k:=?_);refine qM rfl rfl (by rw [jH]; simp [Zs,ZX.lastly,lid]) ((hcall _).mono ?_ fun _ _ h=>h);rintro r T ⟨rfl,rfl⟩;refine ⟨ZX.lastly_ok (hz _ _), ?_⟩;refine ZM (r:=by conv=>lhs;simp[QV,↓ju,ZR,Zs,zz,jl,ji,V.nj,V.nj1,V.bK,ZX.lastly]) (k:=?_);have hap : ∀ X,jB 1 1 (St S [(wo,some X),(bo,some (1,bs.map vb))] [some (1,ns.map vb)]) (.slice bo 0 bs.length) (.slice (lid S.nx 0) 0 ns.length)=some (.slice (lid S.nx 1) 0 (bs.length+ns.length),St S [(wo,some X),(bo,none)] [some (1,ns.map vb),some (1,bs.map vb++ns.map vb)]):=fun X=>by
   rw [qH (s:=1) (cells:=bs.map vb) (new:=ns.map vb) (g2 _ _ _) (by simp) (by simp) (by simp) (by omega) (by omega),Jv hlt.2,qT,jH];simp [uSet,hbn]
  refine jo rfl (by conv=>lhs; simp [hap]) ?_ ?_
  .exact ZX.lastly_ok (hz _ _)
  have u3 : ∀ X Y l,(St S [(wo,some X),(bo,none)] l).upd wo Y=St S [(wo,some Y),(bo,none)] l:=fun X Y l=>by rw [jT hlt.1]; simp [uSet]
  refine ZM (r:=by conv=>lhs;simp[QV,↓ju,ZR,Zs,zz,jl,ji,V.nj,V.nj1,V.bK,ZX.lastly,g3]) (k:=?_);refine zw rfl (by conv=>lhs; simp [g3,u3]) rfl ?_;refine bk ?_;exact jn ⟨⟨lid S.nx 1,WP.step (n:=bs.length+ns.length) (g3 _ _) (by simp) (by simp) (by simp [lid]; omega) (by simp [lid]) (jN (by simp))⟩,rfl⟩
end Go.Vw
namespace Wm
def KC (t:Int) (n:Nat):List Nat:=if t=127 then 65::(sW (Go.IntKind.i64.wrap (Go.IntKind.i32.wrap n))++[11]) else 66::(sW (Go.IntKind.i64.wrap n)++[11])
end Wm
namespace Go.Vw
open Go.Proofs Go.RowKit Wm
attribute [-simp] List.map_set
theorem zF (wo:Nat) (tv:V) (htv:tv.nj1=true) (n:Int):WrX Tryz.prog 63 [.ptr wo 0, .int .i64 n] wo tv [] (jS n):=by
 intro bo bs S E hi he hb;have hw:=jZ n;refine jc (c:=jf Tryz.f63) Tryz.func63 rfl rfl (by simp [Tryz.ntmps63]) ?_;rw [Tryz.ntmps63];intro hwf;refine XQ E ?_ (r:=by conv=>lhs;simp[QV,hw]);refine jb rfl ((u_w wo tv htv (n % 18446744073709551616) (by omega) (by omega)).at hwf hi (he.up hwf []) hb) ?_;rintro r T ⟨⟨bo',hp⟩,rfl⟩;refine ja ?_;refine bk ?_;exact jn ⟨⟨bo',hp⟩,rfl⟩
theorem aki (xs:List Int) : ∀ acc:ByteArray,(xs.foldl (fun r n=>r.push (UInt8.ofNat n.toNat)) acc).data.toList=acc.data.toList++xs.map fun n=>UInt8.ofNat n.toNat:=by
 induction xs with
 | nil=>intro acc; simp
 | cons x xs ih=>intro acc; simp only [List.foldl_cons,List.map_cons]; rw [ih]; simp [ByteArray.push]
theorem abb (l:List Nat):(strB l).data.toList=l.map fun n=>UInt8.ofNat n:=by
 simp only [strB,strV];rw [aki];simp
theorem jay (l:List Nat):(strB l).size=l.length:=by
 have:=congrArg List.length (abb l);rw [aB] at this;exact this
theorem aep {l:List Nat} (h : ∀ x∈l,x<256):strL (strB l)=l.map vb:=by
 unfold strL;rw [abb,List.map_map];refine aP fun x hx => ?_;have:=h x hx;have h8:(UInt8.ofNat x).toNat=x:=by rw [UInt8.toNat_ofNat']; exact Nat.mod_eq_of_lt this
 show V.int .u8 ((UInt8.ofNat x).toNat:Int)=V.int .u8 (x:Int);rw [h8]
theorem WP.add {wo bo bo':Nat} {tv:V} {bs cs:List Nat} {S T U:Store} {bo'':Nat} (h:WP wo bo tv (bs++cs) S bo' T) {ds:List Nat} (k:WP wo bo' tv (bs++cs++ds) T bo'' U):WP wo bo tv (bs++(cs++ds)) S bo'' U:=by
 rw [<-List.append_assoc]; exact h.trans k
theorem ado (wo:Nat) (tv:V) (htv:tv.nj1=true) (n:List Nat) (hn : ∀ x∈n,x<256):WrX Tryz.prog 67 [.ptr wo 0,vstr n] wo tv [] (jeh n):=by
 intro bo bs S E hi he hb;have hb1:bs.length+(jS n.length).length<=90000000000000:=by simp only [jeh,lA] at hb; omega
 have hls:=jay n;simp only [vstr];refine jc (c:=jf Tryz.f67) Tryz.func67 rfl rfl (by simp [Tryz.ntmps67]) ?_;rw [Tryz.ntmps67];intro hwf;refine XQ E ?_ (r:=by conv=>lhs;simp[QV,hls]);refine jb rfl ((zF wo tv htv n.length).at hwf hi (he.up hwf []) hb1) ?_;rintro r T ⟨⟨bo',hp⟩,rfl⟩;refine ja ?_;refine jD fun hwT => ?_;rw [<-jh hwT];obtain ⟨cur,hcur⟩ : ∃ cur,bs++jS n.length=cur:=⟨_,rfl⟩
 have hcl:cur.length+n.length<=100000000000000:=by rw [<-hcur]; simp only [jeh,lA] at hb ⊢; omega
 have hp0:=hp;rw [hcur] at hp;have hlt:=hp.wi.lt hwT;obtain ⟨cell,hw0,hbc⟩:=id hp.wi;have gw : ∀ l,(St T [] l).get wo=some (2,[tv,cell]):=fun l=>(jk hlt.1).trans hw0;have key : ∀ U,WP wo bo' tv (cur++n) T (lid T.nx 0) U->WP wo bo tv (bs++jeh n) S (lid T.nx 0) U:=fun U h=>by rw [<-hcur] at h; exact hp0.add h
 have hstr : ∀ S x,Yg S x (.str (strB n))=jB 1 1 S x (vl vb n):=fun S x=>by simp only [Yg,aep hn,vl]
 rcases hbc with ⟨rfl,rfl,rfl⟩ | ⟨rfl,hbo,hbn⟩
 .have uw : ∀ c l,(St T [] l).upd bo' c=St T [(bo',some c)] l:=fun c l=>by rw [jT hlt.1]; rfl
  have hap:jB 1 1 (St T [] []) .nils (vl vb n)=some (.slice (lid T.nx 0) 0 n.length,St T [] [some (1,n.map vb)]):=by
   have:=jeg (S:=St T [] []) (s:=1) (b:=1) (xs:=n.map vb) (fun x hx=>by obtain ⟨y,_,rfl⟩:=List.mem_map.1 hx; rfl) (by simp at hcl ⊢; omega) (by simp at hcl ⊢; omega);simp only [vl];rw [this,qT,jH];have hf:=ZF n;simp only [jF] at hf;simp only [List.flatMap_map,hf,aB]
   rfl
  refine bq gw hstr hap uw ?_;exact jn ⟨⟨lid T.nx 0,key _ (WP.step (n:=n.length) ((jk hlt.1).trans (by simp [uGet])) (by simp) (by simp) (by simp [lid]; omega) (by simp [lid]) (jN (by simp)))⟩,rfl⟩
 .have gb : ∀ l,(St T [] l).get bo'=some (1,cur.map vb):=fun l=>(jk hlt.2).trans hbo;have uw : ∀ c l,(St T [(bo',none)] l).upd wo c=St T [(bo',none),(wo,some c)] l:=fun c l=>by rw [jT hlt.1]; simp [uSet,Ne.symm hbn]
  have gw2 : ∀ l,(St T [(bo',none)] l).get wo=some (2,[tv, .slice bo' 0 cur.length]):=fun l=>by rw [jk hlt.1]; simp [uGet,Ne.symm hbn,hw0]
  have hap:jB 1 1 (St T [] []) (.slice bo' 0 cur.length) (vl vb n)=some (.slice (lid T.nx 0) 0 (cur.length+n.length),St T [(bo',none)] [some (1,(cur++n).map vb)]):=by
   rw [Kc (enc:=vb) (fun _=>rfl) (gb _) (by simp) (by omega) (by omega),ZF, <-List.map_append,Jv hlt.2,qT,jH]
   rfl
  refine bp gw gw2 hstr hap uw ?_;exact jn ⟨⟨lid T.nx 0,key _ (WP.step (n:=cur.length+n.length) ((jk hlt.1).trans (by simp [uGet,Ne.symm hbn])) (by simp) (by simp) (by simp [lid]; omega) (by simp [lid]) (jN (by simp)))⟩,rfl⟩
theorem EnvW.nil (wo bo:Nat) (S:Store):EnvW wo bo [] S:=⟨fun q hq=>(by cases hq),fun q hq=>(by cases hq)⟩
theorem qp (ls:List Int):(putW ls).length=ls.length:=by simp [putW]
theorem jce (n:Int) : -9223372036854775808<=IntKind.i64.wrap n/\IntKind.i64.wrap n<9223372036854775808:=by
 simp only [IntKind.wrap,IntKind.bits,IntKind.signed];simp;constructor<;>split<;>omega
theorem aar (wo:Nat) (tv:V) (htv:tv.nj1=true) (t:Int) (n:Nat):WrX Tryz.prog 75 [.ptr wo 0, .int .i64 t, .int .u64 n] wo tv [] (KC t n):=by
 intro bo bs S E hi he hb;refine jc (c:=jf Tryz.f75) Tryz.func75 rfl rfl (by simp [Tryz.ntmps75]) ?_;rw [Tryz.ntmps75];intro hwf;by_cases ht:t=127
 .subst ht;simp only [KC,if_true,av,lA,aF] at hb;refine bk ?_;refine XQ E ?_;refine jb rfl (Wu (k:=0) (ls:=[65]) hwf hi rfl (by simp; omega)) ?_;rintro _ T1 ⟨⟨b1,h1⟩,rfl⟩;refine ja ?_;refine jD fun w1 => ?_;rw [<-jh w1];refine bk ?_;refine XQ E ?_;refine jb rfl ((s_w wo tv htv (IntKind.i64.wrap (IntKind.i32.wrap n)) (jce _).1 (jce _).2).at w1 h1.wi (EnvW.nil _ _ _) (by simp [qp]; omega)) ?_;rintro _ T2 ⟨⟨b2,h2⟩,rfl⟩;refine ja ?_;refine jD fun w2 => ?_;rw [<-jh w2];refine bk ?_;refine XQ E ?_;refine jb rfl (Wu (k:=0) (ls:=[11]) w2 h2.wi rfl (by simp [qp]; omega)) ?_;rintro _ T3 ⟨⟨b3,h3⟩,rfl⟩;refine ja ?_;refine bk ?_;exact jn ⟨⟨b3,by simpa [KC,putW] using (h1.trans h2).trans h3⟩,rfl⟩
 .simp only [KC,if_neg ht,av,lA,aF] at hb;refine bi ht ?_;refine XQ E ?_;refine jb rfl (Wu (k:=0) (ls:=[66]) hwf hi rfl (by simp; omega)) ?_;rintro _ T1 ⟨⟨b1,h1⟩,rfl⟩;refine ja ?_;refine jD fun w1 => ?_;rw [<-jh w1];refine bk ?_;refine XQ E ?_;refine jb rfl ((s_w wo tv htv (IntKind.i64.wrap n) (jce _).1 (jce _).2).at w1 h1.wi (EnvW.nil _ _ _) (by simp [qp]; omega)) ?_;rintro _ T2 ⟨⟨b2,h2⟩,rfl⟩;refine ja ?_;refine jD fun w2 => ?_;rw [<-jh w2];refine bk ?_;refine XQ E ?_;refine jb rfl (Wu (k:=0) (ls:=[11]) w2 h2.wi rfl (by simp [qp]; omega)) ?_;rintro _ T3 ⟨⟨b3,h3⟩,rfl⟩;refine ja ?_;refine bk ?_;exact jn ⟨⟨b3,by simpa [KC,ht,putW] using (h1.trans h2).trans h3⟩,rfl⟩
end Go.Vw
namespace Go.Vw
open Go.Proofs Go.RowKit
attribute [-simp] List.map_set
theorem aqv:IntKind.u64.bits=64:=nr rfl
theorem ai6 {n:Nat} (h:n<4294967296):n % 18446744073709551616 &&& 4294967295=n:=by
 have e:n % 18446744073709551616=n:=by omega
 rw [e];have:=Nat.and_two_pow_sub_one_eq_mod n 32;rw [show (4294967295:Nat)=2^32-1 from rfl,this];exact Nat.mod_eq_of_lt h
theorem ae0 {n:Nat} (h:n<4294967296):IntKind.u64.wrap (n:Int)=n:=by
 have e:IntKind.u64.wrap (n:Int)=(n:Int) % 18446744073709551616:=rfl;rw [e]; omega
theorem akl {n:Nat} (h:n<4294967296):Int.fdiv (n:Int) 4294967296=0:=by
 rw [Int.fdiv_eq_ediv_of_nonneg _ (by omega)]; omega
theorem aus (n:Nat) (h:n<4294967296):bF 150 [.int .u64 1, .int .u64 (n:Int)] (.tuple [.int .u64 0, .int .u64 (n:Int)]):=by
 intro S;refine bE Tryz.func150 Tryz.ntmps150 fun hwf=>?_;have h1:=ai6 h;have h2:=ae0 h;have h3:=akl h;have h4:IntKind.u64.wrap 0=0:=by decide
 have h5:IntKind.u64.wrap 1=1:=by decide
 have h6:Int.fdiv 1 4294967296=0:=by decide
 have h7:Int.fdiv 0 4294967296=0:=by decide
 repeat first|refine QG ?_|refine QY ?_ (r:=by conv=>lhs;simp[QV,aqv,h1,h2,h3,h4,h5,h6,h7])
 exact jd (l:=[]) hwf (by simp [resV,Fr.lk]) rfl
theorem axl (n:Nat) (h:n<4294967296):bF 135 [.int .u64 1, .int .u64 (n:Int)] (.tuple [.int .u64 0, .int .u64 (n:Int)]):=by
 intro S;refine bE Tryz.func135 Tryz.ntmps135 fun hwf=>?_;refine bk ?_;refine QP ?_;refine QL (aus n h) ?_;refine bz ?_;exact jd (l:=[]) hwf (by simp [resV,Fr.lk]) rfl
def JJ (v:Int) (n m:Nat):List V:=List.replicate m (.int .i64 v)++List.replicate (n-m) (.int .i64 0)
theorem aja {v:Int} {n m:Nat} (h:m<=n):(JJ v n m).length=n:=by simp [JJ]; omega
theorem af8 {v:Int} {n m:Nat} (h:m<=n):Jn (JJ v n m) m ((((JJ v n m).drop 0).take (m*1)).take (min m (n-m)*1))=JJ v n (m+min m (n-m)):=by
 have e1:(((JJ v n m).drop 0).take (m*1)).take (min m (n-m)*1)=List.replicate (min m (n-m)) (V.int .i64 v):=by
  rw [List.drop_zero,Nat.mul_one,Nat.mul_one,JJ,List.take_left' (by simp)];rw [List.take_replicate]; congr 1; omega
 rw [e1,Jn,List.length_replicate,JJ,List.take_left' (by simp)];rw [List.drop_append,List.drop_eq_nil_of_le (by simp),List.length_replicate];simp only [aZ,List.drop_replicate,JJ];rw [List.replicate_append_replicate]
 congr 2; omega
theorem akn (v:Int) (n:Nat):jF bH (List.replicate n v)=List.replicate n (V.int .i64 v):=by
 rw [Ji,List.map_replicate]; rfl
theorem ae5 (v:Int) (n:Nat) (hn2:n<=65536):bF 111 [vl bH [v],bI n] (vl bH (List.replicate n v)):=by
 intro S;refine bE Tryz.func111 Tryz.ntmps111 fun hwf=>?_;have h2:=ae0 (n:=n) (by omega);have h5:IntKind.u64.wrap 1=1:=by decide
 have h6 : ¬ (9223372036854775807:Int)<(n:Int):=by omega
 have hw:IntKind.i64.wrap (n:Int)=n:=wrap_i64 (by omega) (by omega);have hb8:n*8<=140737488355328:=by omega
 have hb0:n<=140737488355328:=by omega
 refine bm h2 h5 ?_;refine QP ?_ (r:=by conv=>lhs;simp[QV,h2,h5]);refine QL (axl n (by omega)) ?_;refine QW ?_;have fin : ∀ X,X=St S [] [some (1,JJ v n n)]->zq S.nx (fun r T=>r=vl bH (List.replicate n v)/\T=S) (.slice (lid S.nx 0) 0 n) X:=by
  intro X hX;subst hX;have hf:=jdF (B:=S) (k:=0) (u:=[]) (l:=[some (1,JJ v n n)]) (enc:=bH) (fun _=>rfl) (fun _=>rfl) (List.replicate n v) (by simp) (by rw [akn]; simp [JJ]);rw [List.length_replicate] at hf;exact qc (l:=[none]) hwf (Ghost.toB hf _) (by simp)
 have hcp0:jcc 1 (St S [] [some (1,List.replicate n (V.int .i64 0))]) (.slice (lid S.nx 0) 0 n) (vl bH [v])=some (.int .i64 (min 1 n:Nat),St S [] [some (1,JJ v n (min 1 n))]):=by
  have e1:qb 1 (St S [] [some (1,List.replicate n (V.int .i64 0))]) (vl bH [v])=some ([V.int .i64 v],1):=rfl;simp only [jcc,e1,Yo,aD,Option.join_some];rw [if_pos (by simp),Yn (by simp)];cases n with
  | zero=>rfl
  | succ k =>
   have:min 1 (k+1)=1:=by omega
   rw [this];simp [JJ,Jn,List.replicate_succ]
 obtain ⟨m0,hm0⟩ : ∃ m0,min 1 n=m0:=⟨_,rfl⟩
 rw [hm0] at hcp0
 .refine bp h6 hw hb8 hb0 hcp0 ?_;refine bB [7,8] (fun c σ S' => ∃ m:Nat,(1<=m\/n=0)/\m<=n/\c=n-m/\σ=[(7, .slice (lid S.nx 0) 0 n),(8,bI m)]/\S'=St S [] [some (1,JJ v n m)]) (n-m0) ?_ ?_
  .exact ⟨m0,by omega,by omega,rfl,by simp [Fr.oy,Fr.lk,bI],rfl⟩
  .rintro c σ T ⟨m,hm1,hm2,rfl,rfl,rfl⟩;have hlen:=aja (v:=v) hm2;by_cases hlt:m<n
   .have hml:m<=n:=by omega
    have hcp:jcc 1 (St S [] [some (1,JJ v n m)]) (.slice (lid S.nx 0) m (n-m)) (.slice (lid S.nx 0) 0 m)=some (.int .i64 (min m (n-m):Nat),St S [] [some (1,JJ v n (m+min m (n-m)))]):=by
     have e1:qb 1 (St S [] [some (1,JJ v n m)]) (.slice (lid S.nx 0) 0 m)=some (((JJ v n m).drop 0).take (m*1),m):=by
      simp only [qb,Yo,aD,Option.join_some];rw [if_pos (by omega)]
     simp only [jcc,e1,Yo,aD,Option.join_some];rw [if_pos (by omega),af8 hm2,Yn (by simp)]
     rfl
    have hw2:IntKind.i64.wrap ((m:Int)+(min m (n-m):Nat))=((m+min m (n-m):Nat):Int):=by
     rw [wrap_i64 (by omega) (by omega)]; omega
    refine bi hlt ?_;refine bD (St S [] [none]) (St S [] [some (1,JJ v n m)]) [] ?_ (r:=by conv=>lhs; simp [QV,hml]);refine QI ?_ (r:=by conv=>lhs;simp[QV,hcp]);refine QW ?_;show zI _ _ _ _ _ _ _;exact again ⟨(by omega:n-(m+min m (n-m))<n-m),m+min m (n-m),by omega,by omega,rfl,by rw [hw2]; simp [Fr.oy,Fr.lk,bI],rfl⟩
   .have hmn:m=n:=by omega
    subst hmn;refine bi hlt ?_;exact fin _ rfl
end Go.Vw
namespace Go.Vw
open Wm
theorem Zc {α:Type} {P:Program} {f:FuncId} {args:List V} {ro:Nat} {enc:α->V} {p:Rd α} {E:EP} {K:Fr->Store->Prop} {σ:Fr} {t:Nat} {ag:List Arg} {r:List CO} {S:Store} {Z:ZX} {s:RS} {fs:List Nat}
  (ha:ag.map (ev σ)=args) (hf:fs.contains t=true) (hm:RdM P f args ro enc (lift p)) (hro:ro<Z.n0) (hks:ro∈Z.ks) (hget:S.get ro=some (12,rc s)) (hok:s.ok) (hzok : ∀ a',Z.ok (S.upd ro (12,rc (s.to a')))) (herr : ∀ e,p s.b s.a = .error e -> ∀ T,Kept Z.B Z.ks T->E (jY 46 e) T)
  (H : ∀ x a',p s.b s.a = .ok (x,a')->a'<=s.b.length->zf P Z E fs r K (σ.set t (enc x)) (S.upd ro (12,rc (s.to a')))) :
  zf P Z E fs (⟨some t,none, .call f ag⟩::r) K σ S:=by
 refine Zo ha hf ⟨[(ro,(12,rc s))], ?_, ?_,by simp [qS], ?_⟩
 .intro q hq;simp only [aM] at hq;subst hq;exact hget
 .intro q hq;simp only [qS,List.map_cons,List.map_nil,aM] at hq;subst hq;exact hro
 .cases hp:p s.b s.a with
  | error e =>
   refine .inr fun T hT hZ => ?_;refine (hm s T E hok (hT _ List.mem_cons_self) fun e' U he hk => ?_).mono ?_ fun _ _ h=>h
   .simp only [lift] at he;rw [hp] at he;cases he;exact herr e hp U (hZ.i.trans (hk.weak fun k hk=>by simp only [aM] at hk; subst hk; exact hks))
   .rintro X T' ⟨x,s',hx,_⟩;simp only [lift] at hx;rw [hp] at hx;cases hx
  | ok q =>
   obtain ⟨x,a'⟩:=q;have hpl:lift p s = .ok (x,s.to a'):=by simp only [lift]; rw [hp]
   by_cases ha':a'<=s.b.length
   .refine .inl ⟨[(ro,(12,rc (s.to a')))],enc x,rfl,fun T hT _ => ?_,hzok a',H x a' hp ha'⟩;refine ((hm s T (fun _ _=>False) hok (hT _ List.mem_cons_self) fun e' U he hk => ?_).mono ?_ fun _ _ h=>h).ok
    .rw [hpl] at he; cases he
    .rintro X T' ⟨y,s',hx,_,h1,h2⟩;rw [hpl] at hx;cases hx;exact ⟨h1,h2⟩
   .refine .inr fun T hT hZ => ?_;refine (hm s T E hok (hT _ List.mem_cons_self) fun e' U he hk => ?_).mono ?_ fun _ _ h=>h
    .rw [hpl] at he; cases he
    .rintro X T' ⟨y,s',hx,hok',_⟩;rw [hpl] at hx;cases hx;exact absurd hok'.1 ha'
theorem qB : ∀ xs:List V,jm xs xs
 | []=>trivial
 | x::xs=>⟨.inr rfl,qB xs⟩
end Go.Vw
namespace Wm
instance:Inhabited Func:=⟨⟨0,[],[]⟩⟩
def jaz (ls:List Int):Rd (List Int):=do
 let n <-u (32-ls.length) 7
 let c <-kind
 return ls++List.replicate n (c:Int)
def WM:Nat->List Int->Rd (List Int)
 | 0,ls=>Rd.pure ls
 | n+1,ls=>do
  let ls' <-jaz ls
  WM n ls'
def localsR:Rd (List Int):=do
 let n <-u 32 7
 WM n []
def jba (i:Nat) (m:MS):Except Flt MS:=match localsR m.b m.a with
 | .error e => .error e
 | .ok (ls,a1)=>match jgh 16 false m.ty m.b a1 0 with
  | .error e => .error e
  | .ok (q,a2,o) => .ok { m with a:=a2,ops:=o,fs:=m.fs.map fun l=>l.set i ⟨(l.getD i default).type,ls,q.1⟩ }
def WF:Nat->Nat->MS->Except Flt MS
 | 0,_,m => .ok m
 | k+1,i,m=>match zU (jba i) m with
  | .error e => .error e
  | .ok m'=>WF k (i+1) m'
def Ym (m:MS):Except Flt MS:=match index m.b m.a with
 | .error e => .error e
 | .ok (n,a1)=>if n≠(m.fs.getD []).length then .error (6,(m.a:Int),0) else WF (m.fs.getD []).length 0 { m with a:=a1,fs:=some (m.fs.getD []) }
def jcX (m:MS):Except Flt MS:=match index m.b m.a with
 | .error e => .error e
 | .ok (n,a1) => .ok { m with a:=a1,st:=n }
def skipP (m:MS):Except Flt MS := .ok { m with a:=m.b.length }
def putP {α:Type} (q:Rd α) (f:MS->α->MS) (m:MS):Except Flt MS:=match q m.b m.a with
 | .error e => .error e
 | .ok (x,a) => .ok (f { m with a:=a } x)
def memM (m:MS):Except Flt MS:=match one [0,1] m.b m.a with
 | .error e => .error e
 | .ok (c,a1)=>match u 16 7 m.b a1 with
  | .error e => .error e
  | .ok (n,a2) =>
   if c=1 then match u 16 7 m.b a2 with
    | .error e => .error e
    | .ok (x,a3)=>if x<n then .error (6,(a2:Int),0) else .ok { m with a:=a3,pg:=n,mo:=x }
   else .ok { m with a:=a2,pg:=n,mo:=16 }
def jaf (m:MS):Except Flt MS:=match u 1 7 m.b m.a with
 | .error e => .error e
 | .ok (n,a)=>if n=0 then .ok { m with a:=a } else memM { m with a:=a }
def secP (id:Nat):Option (MS->Except Flt MS):=match id with
 | 0=>some skipP
 | 1=>some (putP (many 32 sigR) fun m x=>{ m with ty:=x })
 | 2=>some (putP (many 32 importR) fun m x=>{ m with im:=x })
 | 3=>some jdE
 | 5=>some jaf
 | 6=>some (putP (many 32 globalR) fun m x=>{ m with gl:=x })
 | 7=>some (putP (many 32 exportR) fun m x=>{ m with ex:=x })
 | 8=>some jcX
 | 10=>some Ym
 | 11=>some (putP (many 32 dataR) fun m x=>{ m with da:=x })
 | _=>none
def magic:List Nat:=[0,97,115,109,1,0,0,0]
def YO:List Nat->Nat->Rd Unit
 | [],_=>Rd.pure ()
 | x::xs,i=>fun b a=>match byte1 b a with
  | .error e => .error e
  | .ok (c,a1)=>if c=x then YO xs (i+1) b a1 else .error (5,(i:Int),0)
def KD:Nat->Nat->Bool->MS->Except Flt (Bool × MS)
 | 0,_,coded,m => .ok (coded,m)
 | k+1,last,coded,m=>if m.a<m.b.length then match byte1 m.b m.a with
   | .error e => .error e
   | .ok (id,a1) =>
    if id=4\/id=9 then .error (11,(a1:Int)-1,0)
    else match secP id with
     | none => .error (6,(a1:Int)-1,0)
     | some p=>if id≠0/\id<=last then .error (6,(a1:Int)-1,0)
      else match zU p { m with a:=a1 } with
       | .error e => .error e
       | .ok m'=>KD k (max last id) (coded||decide (id=10)) m'
  else .ok (coded,m)
def m0 (b:List Nat):MS:=⟨b,0,[],[],none, -1,0,[],[], -1,[],0⟩
def Kd (b:List Nat):Except Flt MS:=match YO magic 0 b 0 with
 | .error e => .error e
 | .ok (_,a)=>match KD (b.length+1) 0 false { m0 b with a:=a } with
  | .error e => .error e
  | .ok (coded,m)=>if coded=false/\0<(m.fs.getD []).length then .error (6,(m.a:Int),0) else .ok m
end Wm
namespace Go.Vw
open Go.Proofs Go.RowKit Wm
attribute [-simp] List.map_set
def LC (ro lo:Nat) (cell:V) (ls:List Int) (S:Store):Prop :=
 (cell = .nils/\ls=[]/\lo=ro)\/(cell = .slice lo 0 ls.length/\S.get lo=some (1,ls.map bH)/\lo≠ro)
structure LI (ro bx fb fo i lo:Nat) (s:RS) (cs:List V) (ls:List Int) (S:Store):Prop where
 ok:s.ok
 get:S.get ro=some (12,rc s)
 hbx:S.get bx=some (1,[.ptr ro 0])
 hfb:S.get fb=some (1,[.ptr fo (3*i)])
 hfo : ∃ cell,S.get fo=some (3,cs.set (3*i+1) cell)/\LC ro lo cell ls S
 nb:bx≠ro/\bx≠fo/\bx≠lo
 nf:fb≠ro/\fb≠fo/\fb≠lo
 nr:fo≠ro/\fo≠lo
 len:3*i+2<cs.length
 hls:ls.length<=32
theorem ana (ro bx fb fo i lo:Nat) (s:RS) (cs:List V) (ls:List Int) (S:Store) (E:EP) (h:LI ro bx fb fo i lo s cs ls S) (hE : ∀ e,jaz ls s.b s.a = .error e -> ∀ T,Kept S [ro,fo,lo] T->E (jY 46 e) T) :
  VCallsX Tryz.prog 110 [.ptr bx 0, .ptr fb 0] S (fun r T => ∃ ls' a' lo',jaz ls s.b s.a = .ok (ls',a')/\LI ro bx fb fo i lo' (s.to a') cs ls' T/\Kept S [ro,fo,lo] T/\(lo'=lo\/S.nx<=lo')/\r = .int .i64 0) E:=by
 refine jc (c:=jf Tryz.f110) Tryz.func110 rfl rfl (by simp [Tryz.ntmps110]) ?_;rw [Tryz.ntmps110];intro hwf;obtain ⟨⟨h1,h2,h3,h4⟩,hs,hbx,hfb,⟨cell,hfo,hlc⟩,⟨nb1,nb2,nb3⟩,⟨nf1,nf2,nf3⟩,⟨nr1,nr2⟩,hlen,hls⟩:=h;obtain ⟨b,a,ty,im,fu,pg,mo,gl,ex,st,da,ops⟩:=s;simp only at h1 h2 h3 h4 hE;have hl:=jx hwf hs;have hlf:=jx hwf hfo;have hlb:=jx hwf hbx;have hlc':=jx hwf hfb;have g1 := @JN S ro fo hl;have g2 := @Kh S ro fo hlf nr1;have u1 := @Ww S ro fo hl;have u2 := @jav S ro fo hlf nr1;have gb : ∀ c d l,(St S [(ro,some c),(fo,some d)] l).get bx=some (1,[.ptr ro 0]):=fun c d l=>by rw [jk hlb]; simp [uGet,nb1,nb2,hbx]
 have gf : ∀ c d l,(St S [(ro,some c),(fo,some d)] l).get fb=some (1,[.ptr fo (3*i)]):=fun c d l=>by rw [jk hlc']; simp [uGet,nf1,nf2,hfb]
 obtain ⟨cc,hcc⟩ : ∃ cc,cs.set (3*i+1) cell=cc:=⟨_,rfl⟩
 have hcell:cc[3*i+1]? = some cell:=by rw [<-hcc,List.getElem?_set_self (by omega)]
 rw [hcc] at hfo;rw [show St S [] []=St S [(ro,some (12,[vl vb b,bI a,ty,im,fu,pg,mo,gl,ex,st,da,bI ops])),(fo,some (3,cc))] [] from jfo hl hlf hs hfo];refine bk ?_;obtain ⟨mx,hmx⟩ : ∃ mx,32-ls.length=mx:=⟨_,rfl⟩
 have w1:IntKind.i64.wrap (32-(ls.length:Int))=(mx:Int):=by rw [wrap_i64 (by omega) (by omega)]; omega
 have w2:IntKind.u64.wrap (mx:Int)=(mx:Int):=by rw [jZ]; omega
 have w3:IntKind.i64.wrap 32=32:=rfl;rcases hlc with ⟨rfl,rfl,hlr⟩ | ⟨rfl,hlo,hne⟩
 .have hm32:mx=32:=by simpa using hmx.symm
  subst hm32;have w4:IntKind.u64.wrap 32=32:=rfl;have hzk : ∀ a',(Zs S [ro,fo,lo] [(ro,some (12,[vl vb b, .junk,ty,im,fu,pg,mo,gl,ex,st,da, .junk])),(fo,some (3,cc))] []).ok (St S [(ro,some (12,[vl vb b,bI a',ty,im,fu,pg,mo,gl,ex,st,da,bI ops])),(fo,some (3,cc))] []):=fun a'=>YI (by simp [WG,subO,jm,qB]) (by simp [jW]) (by simp) (by simp);refine QT ?_;refine XD E (Zs S [ro,fo,lo] [(ro,some (12,[vl vb b, .junk,ty,im,fu,pg,mo,gl,ex,st,da, .junk])),(fo,some (3,cc))] []) [] [0,1,2,3,4,5,6,7,8,9] [12] (ho:=KF _ _ _ _) (hz:=hzk a) (r:=by conv=>lhs;simp[QV,↓ju,ZR,Zs,zz,jl,ji,V.nj,V.nj1,V.bK,gb,gf,g1,g2,hcell,w3,w4]) (k:=?_);refine Zc (s:=⟨b,a,ty,im,fu,pg,mo,gl,ex,st,da,ops⟩) rfl rfl (u_v ro 32 7 (by omega)) (by simp [Zs,lid]; omega) (by simp [Zs]) (g1 _ _ _) ⟨h1,h2,h3,h4⟩ (fun a'=>by rw [u1]; exact hzk a') ?_ ?_
  .intro e he T hk;exact hE e (by simp only [jaz,Rd.bind_apply,hmx]; rw [he]) T hk
  intro n a1 hn ha1;rw [u1];show zf _ _ _ _ _ _ _ (St S [(ro,some (12,[vl vb b,bI a1,ty,im,fu,pg,mo,gl,ex,st,da,bI ops])),(fo,some (3,cc))] []);have hnle:n<=32:=by
   simp only [u] at hn;split at hn
   .cases hn
   .split at hn
    .cases hn
    .cases hn; omega
  refine ZM (r:=by conv=>lhs;simp[QV,↓ju,ZR,Zs,zz,jl,ji,V.nj,V.nj1,V.bK]) (k:=?_);refine jy ?_;have q1:=fun u l => @jk S u l ro hl;have q2:=fun u l => @jk S u l fo hlf;have q3:=fun u l => @jk S u l bx hlb;have q4:=fun u l => @jk S u l fb hlc';refine QT ?_;refine XD E ((Zs S [ro,fo,lo] [(ro,some (12,[vl vb b, .junk,ty,im,fu,pg,mo,gl,ex,st,da, .junk])),(fo,some (3,cc))] []).lastly) [20] [0,1,2,3,4,5,8,6,7,9,10,11,12,13] [19] (ho:=ZX.lastly_old (KF _ _ _ _)) (hz:=ZX.lastly_ok (hzk a1)) (r:=by conv=>lhs;simp[QV,↓ju,ZR,Zs,zz,jl,ji,V.nj,V.nj1,V.bK,ZX.lastly,hcell,gb,gf,g1,g2]) (k:=?_);refine Zc (s:=⟨b,a1,ty,im,fu,pg,mo,gl,ex,st,da,ops⟩) rfl rfl (jaN ro) (by simp [Zs,ZX.lastly,lid]; omega) (by simp [Zs,ZX.lastly]) (g1 _ _ _) ⟨ha1,h2,h3,h4⟩ (fun a'=>by rw [u1]; exact ZX.lastly_ok (hzk a')) ?_ ?_
  .intro e he T hk;exact hE e (by simp only [jaz,Rd.bind_apply,hmx]; rw [hn]; simp only; rw [he]) T hk
  intro c a2 hc ha2;rw [u1];show zf _ _ _ _ _ _ _ (St S [(ro,some (12,[vl vb b,bI a2,ty,im,fu,pg,mo,gl,ex,st,da,bI ops])),(fo,some (3,cc))] []);refine ZM (r:=by conv=>lhs;simp[QV,↓ju,ZR,Zs,zz,jl,ji,V.nj,V.nj1,V.bK]) (k:=?_);refine JF rfl (ae5 (c:Int) n (by omega)) rfl ?_;obtain ⟨nc,hnc⟩ : ∃ nc,(List.replicate n (c:Int)).map bH=nc:=⟨_,rfl⟩
  have hap : ∀ X,jB 1 8 (St S [(ro,some X),(fo,some (3,cc))] []) .nils (vl bH (List.replicate n (c:Int)))=some (.slice (lid S.nx 0) 0 n,St S [(ro,some X),(fo,some (3,cc))] [some (1,nc)]):=by
   intro X;have e1:qb 1 (St S [(ro,some X),(fo,some (3,cc))] []) (vl bH (List.replicate n (c:Int)))=some (nc,n):=by
    rw [<-hnc, <-Ji];simp only [qb,vl];rw [if_pos (by simp)];simp only [jF,List.flatMap_map,aB,List.length_replicate]
   simp only [jB,e1];rw [if_pos (by omega),jH,qT]
   rfl
  have hok3:(Zs S [ro,fo,lo] [(ro,some (12,[vl vb b, .junk,ty,im,fu,pg,mo,gl,ex,st,da, .junk])),(fo,some (3,cc))] []).ok (St S [(ro,some (12,[vl vb b,bI a2,ty,im,fu,pg,mo,gl,ex,st,da,bI ops])),(fo,some (3,cc))] [some (1,nc)]):=YI (by simp [WG,subO,jm,qB]) (by simp [jW]) (by simp) (by simp);refine jo rfl (by conv=>lhs; simp [hap]) ?_ ?_
  .exact ZX.lastly_ok hok3
  refine ZM (r:=by conv=>lhs;simp[QV,↓ju,ZR,Zs,zz,jl,ji,V.nj,V.nj1,V.bK,ZX.lastly,hcell,gb,gf,g1,g2]) (k:=?_);have hccl:3*i+1<cc.length:=by rw [<-hcc,List.length_set]; omega
  refine zw rfl (by conv=>lhs; simp [g2,u2,hcell,hccl]) rfl ?_;refine bk ?_;have hst:jaz [] b a = .ok (List.replicate n (c:Int),a2):=by
   simp only [jaz,Rd.bind_apply,hmx,hn,hc,Rd.pure_apply,aZ]
  have hlen':(List.replicate n (c:Int)).length=n:=by simp
  refine jn ⟨List.replicate n (c:Int),a2,lid S.nx 0,hst,⟨⟨ha2,h2,h3,h4⟩, ?_, ?_, ?_,⟨.slice (lid S.nx 0) 0 n, ?_, .inr ⟨by rw [hlen'], ?_, ?_⟩⟩,⟨nb1,nb2, ?_⟩,⟨nf1,nf2, ?_⟩,⟨nr1, ?_⟩,hlen,by omega⟩,jN (by simp), .inr (by simp [lid]),rfl⟩
  .rw [q1]; simp [uGet,rc,RS.to]
  .rw [q3]; simp [uGet,nb1,nb2,hbx]
  .rw [q4]; simp [uGet,nf1,nf2,hfb]
  .rw [q2]; simp [uGet,nr1, <-hcc]
  .rw [hnc]; simp
  .simp [lid]; omega
  .simp [lid]; omega
  .simp [lid]; omega
  .simp [lid]; omega
 .have hll:=jx hwf hlo;have glo : ∀ c d l,(St S [(ro,some c),(fo,some d)] l).get lo=some (1,ls.map bH):=fun c d l=>by rw [jk hll]; simp [uGet,hne,Ne.symm nr2,hlo]
  refine QT ?_;refine XD E (Zs S [ro,fo,lo] [(ro,some (12,[vl vb b, .junk,ty,im,fu,pg,mo,gl,ex,st,da, .junk])),(fo,some (3,cc))] []) [] [0,1,2,3,4,5,6,7,8,9] [12] (ho:=KF _ _ _ _) (hz:=YI (by simp [WG,subO,jm,qB]) (by simp [jW]) (by simp) (by simp)) (r:=by conv=>lhs;simp[QV,↓ju,ZR,Zs,zz,jl,ji,V.nj,V.nj1,V.bK,gb,gf,g1,g2,hcell,w1,w2,glo]) (k:=?_);refine Zc (s:=⟨b,a,ty,im,fu,pg,mo,gl,ex,st,da,ops⟩) rfl rfl (u_v ro mx 7 (by omega)) (by simp [Zs,lid]; omega) (by simp [Zs]) (g1 _ _ _) ⟨h1,h2,h3,h4⟩ (fun a'=>by rw [u1]; exact YI (by simp [WG,subO,jm,qB,rc,RS.to]) (by simp [jW]) (by simp) (by simp)) ?_ ?_
  .intro e he T hk;exact hE e (by simp only [jaz,Rd.bind_apply,hmx]; rw [he]) T hk
  intro n a1 hn ha1;rw [u1];show zf _ _ _ _ _ _ _ (St S [(ro,some (12,[vl vb b,bI a1,ty,im,fu,pg,mo,gl,ex,st,da,bI ops])),(fo,some (3,cc))] []);have hnle:n<=mx:=by
   simp only [u] at hn;split at hn
   .cases hn
   .split at hn
    .cases hn
    .cases hn; omega
  refine ZM (r:=by conv=>lhs;simp[QV,↓ju,ZR,Zs,zz,jl,ji,V.nj,V.nj1,V.bK]) (k:=?_);refine jy ?_;have hst3 : ∀ X l,St S [(ro,some X),(fo,some (3,cc)),(lo,some (1,ls.map bH))] l=St S [(ro,some X),(fo,some (3,cc))] l:=by
   intro X l;refine Store.eq_of (fun o => ?_) rfl;rw [zj,zj];split
   .simp only [uGet];split
    .rfl
    .split
     .rfl
     .split
      .rename_i e; rw [e,hlo]
      .rfl
   .rfl
  have hzk : ∀ a',(Zs S [ro,fo,lo] [(ro,some (12,[vl vb b, .junk,ty,im,fu,pg,mo,gl,ex,st,da, .junk])),(fo,some (3,cc)),(lo,none)] []).ok (St S [(ro,some (12,[vl vb b,bI a',ty,im,fu,pg,mo,gl,ex,st,da,bI ops])),(fo,some (3,cc))] []):=fun a'=>by
   rw [<-hst3];exact YI (by simp [WG,subO,jm,qB]) (by simp [jW]) (by simp) (by simp)
  have hdel : ∀ X c,((St S [(ro,some X),(fo,some (3,cc))] []).del lo).add c=St S [(ro,some X),(fo,some (3,cc)),(lo,none)] [some c]:=by
   intro X c;rw [<-hst3,Jv hll,qT];simp [uSet,hne,Ne.symm nr2]
  have q1:=fun u l => @jk S u l ro hl;have q2:=fun u l => @jk S u l fo hlf;have q3:=fun u l => @jk S u l bx hlb;have q4:=fun u l => @jk S u l fb hlc';have nr3:=Ne.symm nr2;refine QT ?_;refine XD E ((Zs S [ro,fo,lo] [(ro,some (12,[vl vb b, .junk,ty,im,fu,pg,mo,gl,ex,st,da, .junk])),(fo,some (3,cc)),(lo,none)] []).lastly) [20] [0,1,2,3,4,5,8,6,7,9,10,11,12,13] [19] (ho:=ZX.lastly_old (KF _ _ _ _)) (hz:=ZX.lastly_ok (hzk a1)) (r:=by conv=>lhs;simp[QV,↓ju,ZR,Zs,zz,jl,ji,V.nj,V.nj1,V.bK,ZX.lastly,hcell,q1,q2,q3,q4,nb1,nb2,nb3,nf1,nf2,nf3,nr1,nr2,hbx,hfb,hne,nr3]) (k:=?_);refine Zc (s:=⟨b,a1,ty,im,fu,pg,mo,gl,ex,st,da,ops⟩) rfl rfl (jaN ro) (by simp [Zs,ZX.lastly,lid]; omega) (by simp [Zs,ZX.lastly]) (g1 _ _ _) ⟨ha1,h2,h3,h4⟩ (fun a'=>by rw [u1]; exact ZX.lastly_ok (hzk a')) ?_ ?_
  .intro e he T hk;exact hE e (by simp only [jaz,Rd.bind_apply,hmx]; rw [hn]; simp only; rw [he]) T hk
  intro c a2 hc ha2;rw [u1];show zf _ _ _ _ _ _ _ (St S [(ro,some (12,[vl vb b,bI a2,ty,im,fu,pg,mo,gl,ex,st,da,bI ops])),(fo,some (3,cc))] []);refine ZM (r:=by conv=>lhs;simp[QV,↓ju,ZR,Zs,zz,jl,ji,V.nj,V.nj1,V.bK]) (k:=?_);refine JF rfl (ae5 (c:Int) n (by omega)) rfl ?_;have hap : ∀ X,jB 1 8 (St S [(ro,some X),(fo,some (3,cc))] []) (.slice lo 0 ls.length) (vl bH (List.replicate n (c:Int)))=some (.slice (lid S.nx 0) 0 (ls.length+n),St S [(ro,some X),(fo,some (3,cc)),(lo,none)] [some (1,(ls++List.replicate n (c:Int)).map bH)]):=by
   intro X;have:=Kc (S:=St S [(ro,some X),(fo,some (3,cc))] []) (s:=1) (b:=8) (enc:=bH) (o:=lo) (len:=ls.length) (cells:=ls.map bH) (l:=List.replicate n (c:Int)) (fun _=>rfl) (glo _ _ _) (by simp) (by simp; omega) (by simp; omega);rw [this,hdel,List.length_replicate,Ji, <-List.map_append,jH]
   rfl
  have hok3:(Zs S [ro,fo,lo] [(ro,some (12,[vl vb b, .junk,ty,im,fu,pg,mo,gl,ex,st,da, .junk])),(fo,some (3,cc)),(lo,none)] []).ok (St S [(ro,some (12,[vl vb b,bI a2,ty,im,fu,pg,mo,gl,ex,st,da,bI ops])),(fo,some (3,cc)),(lo,none)] [some (1,(ls++List.replicate n (c:Int)).map bH)]):=YI (by simp [WG,subO,jm,qB]) (by simp [jW]) (by simp) (by simp);obtain ⟨nc,hnc⟩ : ∃ nc,(ls++List.replicate n (c:Int)).map bH=nc:=⟨_,rfl⟩
  rw [hnc] at hok3;simp only [hnc] at hap;refine jo rfl (by conv=>lhs; simp [hap]) ?_ ?_
  .exact ZX.lastly_ok hok3
  refine ZM (r:=by conv=>lhs;simp[QV,↓ju,ZR,Zs,zz,jl,ji,V.nj,V.nj1,V.bK,ZX.lastly,hcell,q1,q2,q3,q4,nb1,nb2,nb3,nf1,nf2,nf3,nr1,nr2,hbx,hfb,hne,nr3]) (k:=?_);have hup : ∀ X d l,(St S [(ro,some X),(fo,some (3,cc)),(lo,none)] l).upd fo d=St S [(ro,some X),(fo,some d),(lo,none)] l:=by
   intro X d l;rw [jT hlf];simp [uSet,nr1]
  have hccl:3*i+1<cc.length:=by rw [<-hcc,List.length_set]; omega
  refine zw rfl (by conv=>lhs; simp [q2,nr1,hup,hcell,hccl]) rfl ?_;refine bk ?_;have hst:jaz ls b a = .ok (ls++List.replicate n (c:Int),a2):=by
   simp only [jaz,Rd.bind_apply,hmx,hn,hc,Rd.pure_apply]
  have hlen':(ls++List.replicate n (c:Int)).length=ls.length+n:=by simp
  refine jn ⟨ls++List.replicate n (c:Int),a2,lid S.nx 0,hst,⟨⟨ha2,h2,h3,h4⟩, ?_, ?_, ?_,⟨.slice (lid S.nx 0) 0 (ls.length+n), ?_, .inr ⟨by rw [hlen'], ?_, ?_⟩⟩,⟨nb1,nb2, ?_⟩,⟨nf1,nf2, ?_⟩,⟨nr1, ?_⟩,hlen,by omega⟩,jN (by simp), .inr (by simp [lid]),rfl⟩
  .rw [q1]; simp [uGet,rc,RS.to]
  .rw [q3]; simp [uGet,nb1,nb2,nb3,hbx]
  .rw [q4]; simp [uGet,nf1,nf2,nf3,hfb]
  .rw [q2]; simp [uGet,nr1, <-hcc]
  .simp [hnc]
  .simp [lid]; omega
  .simp [lid]; omega
  .simp [lid]; omega
  .simp [lid]; omega
end Go.Vw
namespace Wm
theorem abi {α:Type} {p:Rd α} {b:List Nat} : ∀ {n a a1:Nat} {xs:List α},jag p n b a = .ok (xs,a1) -> ∀ x∈xs, ∃ a1 a2,p b a1 = .ok (x,a2)
 | 0,a,a1,xs,h,x,hx=>by cases h; cases hx
 | n+1,a,a1,xs,h,x,hx=>by
  simp only [jag,Rd.bind_apply,Rd.pure_apply] at h;split at h
  .cases h
  .rename_i h0;split at h
   .cases h
   .rename_i h1;cases h;rcases aE.1 hx with rfl | hx
    .exact ⟨_,_,h0⟩
    .exact abi h1 x hx
theorem ao3 {α:Type} {p:Rd α} {most:Nat} {b:List Nat} {a a1:Nat} {xs:List α} (h:many most p b a = .ok (xs,a1)) : ∀ x∈xs, ∃ a1 a2,p b a1 = .ok (x,a2):=by
 simp only [many,Rd.bind_apply] at h;split at h
 .cases h
 .exact abi h
theorem aop {b:List Nat} {a a1:Nat} {x:Sig} (h:sigR b a = .ok (x,a1)):x.inn.length<=8/\x.out.length<=8:=by
 simp only [sigR,Rd.bind_apply,Rd.pure_apply] at h;split at h
 .cases h
 .split at h
  .cases h
  .rename_i h1;split at h
   .cases h
   .rename_i h2;cases h;simp only [aB];exact ⟨ZC h1,ZC h2⟩
end Wm
namespace Go.Vw
open Go.Proofs Go.RowKit Wm
theorem atd (ro:Nat) (es:Ups):SecR Tryz.prog ro (.meth 36 (.ptr ro 0)) [] es (putP (many 32 sigR) fun m x=>{ m with ty:=x }):=by
 refine jex (ass ro) rfl (fun fo m _ => ?_) (fun m m' ho h ha => ?_) es
 .simp only [setR,putP];rw [show (msR fo m).b=m.b from rfl,show (msR fo m).a=m.a from rfl];cases many 32 sigR m.b m.a with
  | error e=>rfl
  | ok q=>rfl
 .simp only [putP] at h;split at h
  .cases h
  .rename_i hq;cases h;exact ⟨⟨ha,ho.b,ho.x,ho.o,⟨by have:=ZC hq; simp only; omega,fun s hs=>by obtain ⟨_,_,h⟩:=ao3 hq s hs; exact aop h⟩,ho.im,ho.fs⟩,rfl,rfl⟩
theorem aks (ro:Nat) (es:Ups):SecR Tryz.prog ro (.meth 37 (.ptr ro 0)) [] es (putP (many 32 importR) fun m x=>{ m with im:=x }):=by
 refine jex (als ro) rfl (fun fo m _ => ?_) (fun m m' ho h ha => ?_) es
 .simp only [setR,putP];rw [show (msR fo m).b=m.b from rfl,show (msR fo m).a=m.a from rfl];cases many 32 importR m.b m.a with
  | error e=>rfl
  | ok q=>rfl
 .simp only [putP] at h;split at h
  .cases h
  .rename_i hq;cases h;exact ⟨⟨ha,ho.b,ho.x,ho.o,ho.ty,ZC hq,ho.fs⟩,rfl,rfl⟩
theorem alr (ro:Nat) (es:Ups):SecR Tryz.prog ro (.meth 40 (.ptr ro 0)) [] es (putP (many 32 globalR) fun m x=>{ m with gl:=x }):=by
 refine jex (amh ro) rfl (fun fo m _ => ?_) (fun m m' ho h ha => ?_) es
 .simp only [setR,putP];rw [show (msR fo m).b=m.b from rfl,show (msR fo m).a=m.a from rfl];cases many 32 globalR m.b m.a with
  | error e=>rfl
  | ok q=>rfl
 .simp only [putP] at h;split at h
  .cases h
  .rename_i hq;cases h;exact ⟨⟨ha,ho.b,ho.x,ho.o,ho.ty,ho.im,ho.fs⟩,rfl,rfl⟩
theorem amg (ro:Nat) (es:Ups):SecR Tryz.prog ro (.meth 41 (.ptr ro 0)) [] es (putP (many 32 exportR) fun m x=>{ m with ex:=x }):=by
 refine jex (alo ro) rfl (fun fo m _ => ?_) (fun m m' ho h ha => ?_) es
 .simp only [setR,putP];rw [show (msR fo m).b=m.b from rfl,show (msR fo m).a=m.a from rfl];cases many 32 exportR m.b m.a with
  | error e=>rfl
  | ok q=>rfl
 .simp only [putP] at h;split at h
  .cases h
  .rename_i hq;cases h;exact ⟨⟨ha,ho.b,ho.x,ho.o,ho.ty,ho.im,ho.fs⟩,rfl,rfl⟩
theorem ahf (ro:Nat) (es:Ups):SecR Tryz.prog ro (.meth 45 (.ptr ro 0)) [] es (putP (many 32 dataR) fun m x=>{ m with da:=x }):=by
 refine jex (atr ro) rfl (fun fo m _ => ?_) (fun m m' ho h ha => ?_) es
 .simp only [setR,putP];rw [show (msR fo m).b=m.b from rfl,show (msR fo m).a=m.a from rfl];cases many 32 dataR m.b m.a with
  | error e=>rfl
  | ok q=>rfl
 .simp only [putP] at h;split at h
  .cases h
  .rename_i hq;cases h;exact ⟨⟨ha,ho.b,ho.x,ho.o,ho.ty,ho.im,ho.fs⟩,rfl,rfl⟩
theorem u_le {most:Nat} {e:Int} {b:List Nat} {a n a1:Nat} (h:u most e b a = .ok (n,a1)):n<=most:=by
 simp only [u] at h;split at h
 .cases h
 .split at h
  .cases h
  .cases h; omega
theorem atj (fo:Nat) (m:MS):memP (msR fo m)=match memM m with | .error e => .error e | .ok m' => .ok (0,msR fo m'):=by
 simp only [memP,memM];rw [show (msR fo m).b=m.b from rfl,show (msR fo m).a=m.a from rfl];cases one [0,1] m.b m.a with
 | error e=>rfl
 | ok q =>
  obtain ⟨c,a1⟩:=q;simp only;cases u 16 7 m.b a1 with
  | error e=>rfl
  | ok q =>
   obtain ⟨n,a2⟩:=q;simp only;by_cases hc:c=1
   .rw [if_pos hc,if_pos hc];cases u 16 7 m.b a2 with
    | error e=>rfl
    | ok q =>
     obtain ⟨x,a3⟩:=q;simp only;by_cases hx:x<n
     .rw [if_pos hx,if_pos hx]
     .rw [if_neg hx,if_neg hx]; rfl
   .rw [if_neg hc,if_neg hc]; rfl
theorem abk {m m':MS} (h:memM m = .ok m'):m'.b=m.b/\m'.fs=m.fs/\m'.ops=m.ops/\m'.ty=m.ty/\m'.im=m.im:=by
 simp only [memM] at h;split at h
 .cases h
 .split at h
  .cases h
  .split at h
   .split at h
    .cases h
    .split at h
     .cases h
     .cases h; exact ⟨rfl,rfl,rfl,rfl,rfl⟩
   .cases h; exact ⟨rfl,rfl,rfl,rfl,rfl⟩
theorem aoa (ro:Nat) (es:Ups):SecR Tryz.prog ro (.meth 39 (.ptr ro 0)) [] es jaf:=by
 refine jex (an8 ro) rfl (fun fo m _ => ?_) (fun m m' ho h ha => ?_) es
 .simp only [jds,manyRS,jaf,lift];rw [show (msR fo m).b=m.b from rfl,show (msR fo m).a=m.a from rfl];cases hu:u 1 7 m.b m.a with
  | error e=>rfl
  | ok q =>
   obtain ⟨n,a1⟩:=q;have hn:=u_le hu;have hto:(msR fo m).to a1=msR fo { m with a:=a1 }:=rfl;simp only [hto];rcases bc n 1 with h0 | h0
   .have:n=0:=by omega
    subst this
    rfl
   .have:n=1:=by omega
    subst this;simp only [zO,atj];rw [if_neg (by decide)];cases memM { m with a:=a1 } with
    | error e=>rfl
    | ok m'=>rfl
 .simp only [jaf] at h;split at h
  .cases h
  .split at h
   .cases h
    exact ⟨⟨ha,ho.b,ho.x,ho.o,ho.ty,ho.im,ho.fs⟩,rfl,rfl⟩
   .obtain ⟨k1,k2,k3,k4,k5⟩:=abk h;refine ⟨⟨ha,by rw [k1]; exact ho.b,by rw [k1]; exact ho.x,by rw [k3]; exact ho.o,by rw [k4]; exact ho.ty,by rw [k5]; exact ho.im,by rw [k2]; exact ho.fs⟩,k2,k1⟩
end Go.Vw
namespace Go.Vw
open Go.Proofs Go.RowKit Wm
attribute [-simp] List.map_set
theorem anb (ro bx:Nat):SecR Tryz.prog ro (.func 35 [.ptr bx 0]) [] [(bx,(1,[.ptr ro 0]))] skipP:=by
 intro fo m S E hi he hE;refine ⟨rfl, ?_⟩;refine jc (c:=jf Tryz.f35) Tryz.func35 rfl rfl (by simp [Tryz.ntmps35]) ?_;rw [Tryz.ntmps35];intro hwf;have hl:=jx hwf hi.get;have hb:=he.has (bx,(1,[.ptr ro 0])) List.mem_cons_self;have hne:=(he.ne (bx,(1,[.ptr ro 0])) List.mem_cons_self).1;simp only at hb hne;have hg := @old1 S ro hl;have hu := @oldU S ro hl;have hgb:=jbt hwf hne hb;have hput:=fun (mx:MS)=>hi.put (m':=mx) hwf;obtain ⟨b,a,ty,im,fs,pg,mo,gl,ex,st,da,ops⟩:=m;have ⟨h1,h2,h3,h4,h5,h6,h7⟩:=hi.ok;rw [show St S [] []=St S [(ro,some (12,[vl vb b,bI a,vl je ty,vl jp im,fuV fo fs,bH pg,bH mo,vl jv gl,vl jr ex,bH st,vl jq da,bI ops]))] [] from old0 hl hi.get];refine QT ?_;refine XD E (ZR S ro b (vl je ty) (vl jp im) (fuV fo fs) (bH pg) (bH mo) (vl jv gl) (vl jr ex) (bH st) (vl jq da) []) [] [0,1,2,3,4,5,6,7,8] [] (ho:=Ka _ _ _ _ _ _ _ _ _ _ _ _ _) (hz:=zo (by simp [JR]) (by simp [jW,subO,jm]) (by simp)) (r:=by conv=>lhs;simp[QV,↓ju,ZR,Zs,zz,jl,ji,V.nj,V.nj1,V.bK,hgb,hg]) (k:=?_);refine jo rfl (by conv=>lhs;simp[QV,hg,hu]) ?_ ?_
 .exact zo (by simp [JR]) (by simp [jW,subO,jm]) (by simp)
 refine jy ?_;exact jn ⟨⟨b,b.length,ty,im,fs,pg,mo,gl,ex,st,da,ops⟩,⟨rfl,rfl,rfl,hput _ ⟨aT _,h2,h3,h4,h5,h6,h7⟩ rfl,jaO (by simp) _ _⟩,rfl⟩
theorem aud (ro bx:Nat):SecR Tryz.prog ro (.func 42 [.ptr bx 0]) [] [(bx,(1,[.ptr ro 0]))] jcX:=by
 intro fo m S E hi he hE;refine ⟨rfl, ?_⟩;refine jc (c:=jf Tryz.f42) Tryz.func42 rfl rfl (by simp [Tryz.ntmps42]) ?_;rw [Tryz.ntmps42];intro hwf;have hl:=jx hwf hi.get;have hb:=he.has (bx,(1,[.ptr ro 0])) List.mem_cons_self;have hne:=(he.ne (bx,(1,[.ptr ro 0])) List.mem_cons_self).1;simp only at hb hne;have hg := @old1 S ro hl;have hu := @oldU S ro hl;have hgb:=jbt hwf hne hb;have hput:=fun (mx:MS)=>hi.put (m':=mx) hwf;obtain ⟨b,a,ty,im,fs,pg,mo,gl,ex,st,da,ops⟩:=m;have ⟨h1,h2,h3,h4,h5,h6,h7⟩:=hi.ok;have h4':ops<=1000:=by simp only at h4; omega
 have kro:=jbq ro fo ⟨b,a,ty,im,fs,pg,mo,gl,ex,st,da,ops⟩;rw [show St S [] []=St S [(ro,some (12,[vl vb b,bI a,vl je ty,vl jp im,fuV fo fs,bH pg,bH mo,vl jv gl,vl jr ex,bH st,vl jq da,bI ops]))] [] from old0 hl hi.get];refine QT ?_;refine XD E (ZR S ro b (vl je ty) (vl jp im) (fuV fo fs) (bH pg) (bH mo) (vl jv gl) (vl jr ex) .junk (vl jq da) []) [] [0,1,2,3,4,5,6] [3] (ho:=Ka _ _ _ _ _ _ _ _ _ _ _ _ _) (hz:=zo (by simp [JR]) (by simp [jW,subO,jm]) (by simp)) (r:=by conv=>lhs;simp[QV,↓ju,ZR,Zs,zz,jl,ji,V.nj,V.nj1,V.bK,hgb]) (k:=?_);refine JO (hok:=⟨h1,h2,h3,h4'⟩) rfl rfl (zl ro) hl (by simp [JR]) (by simp [jW,subO,jm]) (by simp) ?_ ?_
 .intro e hx T hk;exact hE e (by simp only [jcX]; rw [hx]) T (hk.weak (by simp; exact kro))
 intro n a1 hn ha1;refine ZM (r:=by conv=>lhs;simp[QV,↓ju,ZR,Zs,zz,jl,ji,V.nj,V.nj1,V.bK,hg]) (k:=?_);refine jo rfl (by conv=>lhs;simp[QV,hg,hu]) ?_ ?_
 .exact zo (by simp [JR]) (by simp [jW,subO,jm]) (by simp)
 refine jy ?_;exact jn ⟨⟨b,a1,ty,im,fs,pg,mo,gl,ex,n,da,ops⟩,⟨by simp only [jcX,hn],rfl,rfl,hput _ ⟨ha1,h2,h3,h4,h5,h6,h7⟩ rfl,jaO (by simp) _ _⟩,rfl⟩
theorem VCallsX.wf {P:Program} {f:FuncId} {args:List V} {S:Store} {Q:V->Store->Prop} {E:EP} (h:VCallsX P f args S Q E):VCallsX P f args S (fun r T=>Q r T/\T.Wf) E:=by
 intro m β w vs hS hr;refine (h m β w vs hS hr).mono ?_;rintro e w' (⟨v,x,S1,m1,β1,he,hQ,h1,h2,h3⟩ | h)
 .first
   | exact .inl ⟨v,x,S1,m1,β1,he,⟨hQ,h1.wf⟩,h1,h2,h3⟩
   | exact .inl ⟨v,x,S1,m1,β1,he,⟨hQ,h2.wf⟩,h1,h2,h3⟩
 .exact .inr h
theorem LI.mono {ro bx fb fo i lo:Nat} {s s':RS} {cs:List V} {ls:List Int} {S T:Store} (h:LI ro bx fb fo i lo s cs ls S) (hw:S.Wf) (hok:s'.ok) (hget:T.get ro=some (12,rc s')) (hk : ∀ o,o<S.nx->o≠ro->(o=lo\/o=bx\/o=fb\/o=fo)->T.get o=S.get o):LI ro bx fb fo i lo s' cs ls T:=by
 obtain ⟨cell,hfo,hlc⟩:=h.hfo;refine ⟨hok,hget, ?_, ?_,⟨cell, ?_, ?_⟩,h.nb,h.nf,h.nr,h.len,h.hls⟩
 .rw [hk bx (jx hw h.hbx) h.nb.1 (by simp)]; exact h.hbx
 .rw [hk fb (jx hw h.hfb) h.nf.1 (by simp)]; exact h.hfb
 .rw [hk fo (jx hw hfo) h.nr.1 (by simp)]; exact hfo
 .rcases hlc with h0 | ⟨e1,e2,e3⟩
  .exact .inl h0
  .exact .inr ⟨e1,by rw [hk lo (jx hw e2) e3 (by simp)]; exact e2,e3⟩
theorem aqx (ro bx fb fo i:Nat) (s:RS) (cs:List V) (S:Store) (E:EP) (h:LI ro bx fb fo i ro s cs [] S) (hE : ∀ e,localsR s.b s.a = .error e -> ∀ T,Kept S [ro,fo] T->E (jY 46 e) T) :
  VCallsX Tryz.prog 95 [.ptr ro 0,bH 32, .func 110 [.ptr bx 0, .ptr fb 0]] S (fun r T => ∃ ls a' lo,localsR s.b s.a = .ok (ls,a')/\LI ro bx fb fo i lo (s.to a') cs ls T/\Kept S [ro,fo] T/\(lo=ro\/S.nx<=lo)) E:=by
 refine jc (c:=jf Tryz.f95) Tryz.func95 rfl rfl (by simp [Tryz.ntmps95]) ?_;rw [Tryz.ntmps95];intro hwf;have hw32:IntKind.u64.wrap 32=32:=rfl;have hok:=h.ok;have hs:=h.get;have hl:=jx hwf hs;obtain ⟨b,a,ty,im,fu,pg,mo,gl,ex,st,da,ops⟩:=s;obtain ⟨h1,h2,h3,h4⟩:=hok;simp only at h1 h2 h3 h4 hE;rw [show St S [] []=St S [(ro,some (12,[vl vb b,bI a,ty,im,fu,pg,mo,gl,ex,st,da,bI ops]))] [] from old0 hl hs];refine bk ?_;refine Wa 7 1 rfl (by conv=>lhs; simp [Fr.set]) ?_;refine XQ E ?_ (r:=by conv=>lhs;simp[QV,hw32]);refine jL (hok:=⟨h1,h2,h3,h4⟩) rfl (u_v ro 32 7 (by omega)) hl ?_ ?_
 .intro e he T hk;exact hE e (by simp only [localsR,Rd.bind_apply]; rw [he]) T (hk.weak (by simp))
 intro n a1 hn ha1;have hnle:=u_le hn;refine XN ?_;refine ja ?_;refine bk ?_;refine bB [2,7,11,12] (fun c σ' T => ∃ (k:Nat) (ls:List Int) (a' lo q:Nat),k<=n/\c=n-k/\a'<=b.length/\WM n [] b a1=WM (n-k) ls b a'/\LI ro bx fb fo i lo ⟨b,a',ty,im,fu,pg,mo,gl,ex,st,da,ops⟩ cs ls T/\Kept S [ro,fo] T/\(lo=ro\/S.nx<=lo)/\T.get q=some (1,List.replicate k (V.int .i64 0))/\S.nx<=q/\q≠lo/\σ'=[(2, .func 110 [.ptr bx 0, .ptr fb 0]),(7, .slice q 0 k),(11,bI n),(12,bI k)]) n ?_ ?_
 .refine ⟨0,[],a1,ro,lid S.nx 0,by omega,rfl,ha1,rfl,h.mono hwf ⟨ha1,h2,h3,h4⟩ (old1 hl _ _) ?_,jN (by simp), .inl rfl,by simp,by simp [lid],by simp [lid]; omega,by simp [Fr.oy]⟩;intro o ho hne _;rw [jk ho]; simp [uGet,hne]
 .rintro c σ' T ⟨k,ls,a',lo,q,hk,rfl,ha',hloc,hli,hkp,hlo,hq,hqn,hql,rfl⟩;refine jD fun hwT => ?_;rw [<-jh hwT];by_cases hkt:k<n
  .have hw:=jP hkt (by omega);have hgo:WM (n-k) ls=Rd.bind (jaz ls) fun ls'=>WM (n-(k+1)) ls':=by
    rw [show n-k=(n-(k+1))+1 by omega]; rfl
   have hall:localsR b a=WM (n-k) ls b a':=by
    simp only [localsR,Rd.bind_apply]; rw [hn]; exact hloc
   rw [hgo] at hloc hall;simp only [Rd.bind] at hloc hall;refine bi hkt ?_;refine XQ E ?_;rw [jh hwT];refine jV rfl rfl ⟨rfl,(ana ro bx fb fo i lo _ cs ls T E hli fun e he T' hk'=>hE e (by rw [hall,he]) T' ⟨aU hkp.1 hk'.1,fun o ho hno => ?_⟩).wf⟩ ?_
   .rw [hk'.2 o (aK ho hkp.1) (by simp only [aE,List.not_mem_nil,or_false,not_or] at hno ⊢; exact ⟨hno.1,hno.2,by rcases hlo with h0 | h0<;>omega⟩)];exact hkp.2 o ho hno
   rintro r T' ⟨⟨ls',a2,lo',hst,hli',hk',hlo',rfl⟩,hwT'⟩;rw [<-jh hwT'];obtain ⟨_,hfoS,_⟩:=h.hfo;have lfo:=jx hwf hfoS;have lbx:=jx hwf h.hbx;have lfb:=jx hwf h.hfb;have lq:=jx hwT hq;have hql':q≠lo':=by rcases hlo' with h0 | h0<;>omega
   have hq':T'.get q=some (1,List.replicate k (V.int .i64 0)):=by
    rw [hk'.2 q lq (by simp only [aE,List.not_mem_nil,or_false,not_or]; exact ⟨by omega,by omega,hql⟩)]; exact hq
   have lq':=jx hwT' hq';have hap:jB 1 8 (St T' [] [some (1,[V.int .i64 0])]) (.slice q 0 k) (.slice (lid T'.nx 0) 0 1)=some (.slice (lid T'.nx 1) 0 (k+1),St T' [(q,none)] [some (1,[V.int .i64 0]),some (1,List.replicate (k+1) (V.int .i64 0))]):=by
    rw [qH (s:=1) (cells:=List.replicate k (V.int .i64 0)) (new:=[V.int .i64 0]) (by rw [jk lq']; exact hq') (by simp) (by simp) (by simp) (by omega) (by omega),Jv lq',jH,qT];simp [uSet,List.replicate_succ']
   refine XN ?_ (r:=by conv=>lhs;simp[QV,hap]);refine ja ?_;refine bi hw ?_;have hroq:ro≠q:=by omega
   have hget2 : ∀ l,(St T' [(q,none)] l).get ro=some (12,rc ⟨b,a2,ty,im,fu,pg,mo,gl,ex,st,da,ops⟩):=fun l=>by rw [jk (jx hwT' hli'.get)]; simp [uGet,hroq]; exact hli'.get
   have hnx:=hkp.1;have hnx':=hk'.1;have hkp2 : ∀ l,Kept S [ro,fo] (St T' [(q,none)] l):=fun l=>⟨by rw [jH]; simp [lid]; omega,fun o ho hno=>by
    have hoq:o≠q:=by omega
    rw [jk (by omega)];simp only [uGet,if_neg hoq];rw [hk'.2 o (by omega) (by simp only [aE,List.not_mem_nil,or_false,not_or] at hno ⊢; exact ⟨hno.1,hno.2,by rcases hlo with h0 | h0<;>omega⟩)];exact hkp.2 o ho hno⟩
   have hlo2:lo'=ro\/S.nx<=lo':=by rcases hlo' with h0 | h0<;>omega
   have hll:lo'<T'.nx:=by
    obtain ⟨_,_,hlc⟩:=hli'.hfo;rcases hlc with ⟨_,_,h0⟩ | ⟨_,h0,_⟩
    .have:=jx hwT' hli'.get; omega
    .exact jx hwT' h0
   have hne2:lid T'.nx 1≠lo':=by simp [lid]; omega
   have hli2 : ∀ l,LI ro bx fb fo i lo' ⟨b,a2,ty,im,fu,pg,mo,gl,ex,st,da,ops⟩ cs ls' (St T' [(q,none)] l):=fun l=>hli'.mono hwT' hli'.ok (hget2 _) (fun o ho hne hh=>by rw [jk ho]; simp [uGet]; intro e; omega);show zI _ _ _ _ _ _ _;exact again ⟨(by omega:n-(k+1)<n-k),k+1,ls',a2,lo',lid T'.nx 1,by omega,rfl,hli'.ok.1,by rw [hloc,hst],hli2 _,hkp2 _,hlo2,by simp,by simp [lid]; omega,hne2,by simp [Fr.oy,hw]⟩
  .have hke:k=n:=by omega
   subst hke;refine bi hkt ?_;rw [jh hwT];have hfin:localsR b a = .ok (ls,a'):=by
    simp only [localsR,Rd.bind_apply]; rw [hn]; simp only; rw [hloc,Nat.sub_self]; rfl
   exact jn ⟨ls,a',lo,hfin,hli,hkp,hlo⟩
end Go.Vw
namespace Go.Vw
open Wm
theorem ab7 (x y:V) (ls:List Int) (bd:List Wm.Ins) (hx:nl x=vl bH ls) (hy:nl y=vl encI bd) : ∀ (l:List Wm.Func) (cs:List V) (i:Nat) (f:Wm.Func),cs.map nl=jF encF l->l[i]? = some f ->
  ((cs.set (3*i+1) x).set (3*i+2) y).map nl=jF encF (l.set i ⟨f.type,ls,bd⟩)
 | [],_,_,_,_,h=>by simp at h
 | g::l,c0::c1::c2::cs,i,f,h,hi=>by
  have e:jF encF (g::l)=bH g.type::vl bH g.locals::vl encI g.body::jF encF l:=by simp [jF,encF,V.cells]
  rw [e] at h;simp only [List.map_cons,List.cons.injEq] at h;obtain ⟨h0,h1,h2,h3⟩:=h;cases i with
  | zero =>
   simp only [aD,ar] at hi;subst hi;simp [jF,encF,V.cells,h0,hx,hy];exact h3
  | succ i =>
   simp only [List.getElem?_cons_succ] at hi;have:=ab7 x y ls bd hx hy l cs i f h3 hi;have a1:3*(i+1)+1=(3*i+1)+1+1+1:=by omega
   have a2:3*(i+1)+2=(3*i+2)+1+1+1:=by omega
   rw [a1,a2];simp only [am,List.map_cons];have e2:jF encF (g::l.set i ⟨f.type,ls,bd⟩)=bH g.type::vl bH g.locals::vl encI g.body::jF encF (l.set i ⟨f.type,ls,bd⟩):=by simp [jF,encF,V.cells]
   rw [e2,this,h0,h1,h2]
 | g::l,[],_,_,h,_=>by simp [jF,encF,V.cells] at h
 | g::l,[_],_,_,h,_=>by simp [jF,encF,V.cells] at h
 | g::l,[_,_],_,_,h,_=>by simp [jF,encF,V.cells] at h
theorem aeq {p:Nat->Bool} {x:V} (hx:x.ids p=true) : ∀ (cs:List V) (i:Nat),V.idsL p cs=true->V.idsL p (cs.set i x)=true:=by
 intro cs i h;rw [Jc] at h ⊢;rw [ax] at h ⊢;intro y hy;rcases List.mem_or_eq_of_mem_set hy with h1 | h1
 .exact h y h1
 .rw [h1]; exact hx
theorem abc : ∀ (l:List Wm.Func) (cs:List V),cs.map nl=jF encF l->cs.length=3*l.length:=by
 intro l cs h;have:=congrArg List.length h;rw [aB,zS jga] at this;omega
end Go.Vw
namespace Go.Vw
open Go.Proofs Go.RowKit Wm
attribute [-simp] List.map_set
theorem aix {α:Type} {P:Program} {f:FuncId} {args:List V} {ro:Nat} {enc:α->V} {p:Rt α} {E:EP} {K:Fr->Store->Prop} {σ:Fr} {t:Nat} {ag:List Arg} {r:List CO} {S:Store} {Z:ZX} {b:List Nat} {a o:Nat} {ts:List Wm.Sig} {im fu pg mo gl ex st da:V} {fs:List Nat}
  (ha:ag.map (ev σ)=args) (hf:fs.contains t=true) (hm:RdT P f args ro enc p) (hro:ro<Z.n0) (hks:ro∈Z.ks) (hget:S.get ro=some (12,rct b a ts im fu pg mo gl ex st da o)) (h1:a<=b.length) (h2:b.length<=16384) (h3 : ∀ x∈b,x<256) (h4:o<=512) (h5:TyOk ts)
  (hzok : ∀ a' o',Z.ok (S.upd ro (12,rct b a' ts im fu pg mo gl ex st da o'))) (herr : ∀ e,p ts b a o = .error e -> ∀ T,Kept Z.B Z.ks T->E (jY 46 e) T)
  (H : ∀ x a' o',p ts b a o = .ok (x,a',o')->a'<=b.length->o'<=512->zf P Z E fs r K (σ.set t (enc x)) (S.upd ro (12,rct b a' ts im fu pg mo gl ex st da o'))) :
  zf P Z E fs (⟨some t,none, .call f ag⟩::r) K σ S:=by
 refine Zo ha hf ⟨[(ro,(12,rct b a ts im fu pg mo gl ex st da o))], ?_, ?_,by simp [qS], ?_⟩
 .intro q hq;simp only [aM] at hq;subst hq;exact hget
 .intro q hq;simp only [qS,List.map_cons,List.map_nil,aM] at hq;subst hq;exact hro
 .have bad:(∃ e,p ts b a o = .error e)\/(∃ x a' o',p ts b a o = .ok (x,a',o') /\ ¬ (a'<=b.length/\o'<=512))\/(∃ x a' o',p ts b a o = .ok (x,a',o')/\a'<=b.length/\o'<=512):=by
   cases hp:p ts b a o with
   | error e=>exact .inl ⟨e,rfl⟩
   | ok q =>
    by_cases hq:q.2.1<=b.length/\q.2.2<=512
    .exact .inr (.inr ⟨q.1,q.2.1,q.2.2,rfl,hq⟩)
    .exact .inr (.inl ⟨q.1,q.2.1,q.2.2,rfl,hq⟩)
  rcases bad with ⟨e,hp⟩ | ⟨x,a',o',hp,hno⟩ | ⟨x,a',o',hp,k1,k2⟩
  .refine .inr fun T hT hZ => ?_;refine (hm b a ts im fu pg mo gl ex st da o T E h1 h2 h3 h4 h5 (hT _ List.mem_cons_self) fun e' he U hk => ?_).mono ?_ fun _ _ h=>h
   .rw [hp] at he;cases he;exact herr e hp U (hZ.i.trans (hk.weak fun k hk=>by simp only [aM] at hk; subst hk; exact hks))
   .rintro X T' ⟨x,_,_,hx,_⟩;rw [hp] at hx;cases hx
  .refine .inr fun T hT hZ => ?_;refine (hm b a ts im fu pg mo gl ex st da o T E h1 h2 h3 h4 h5 (hT _ List.mem_cons_self) fun e' he U hk => ?_).mono ?_ fun _ _ h=>h
   .rw [hp] at he; cases he
   .rintro X T' ⟨y,_,_,hx,q1,q2,_⟩;rw [hp] at hx;cases hx;exact absurd ⟨q1,q2⟩ hno
  .refine .inl ⟨[(ro,(12,rct b a' ts im fu pg mo gl ex st da o'))],enc x,rfl,fun T hT _ => ?_,hzok a' o',H x a' o' hp k1 k2⟩;refine ((hm b a ts im fu pg mo gl ex st da o T (fun _ _=>False) h1 h2 h3 h4 h5 (hT _ List.mem_cons_self) fun e' he U hk => ?_).mono ?_ fun _ _ h=>h).ok
   .rw [hp] at he; cases he
   .rintro X T' ⟨y,_,_,hx,_,_,q1,q2⟩;rw [hp] at hx;cases hx;exact ⟨q1,q2⟩
theorem YW (x:V) : ∀ (xs:List V) (k:Nat),jm (xs.set k .junk) (xs.set k x)
 | [],_=>trivial
 | y::ys,0=>⟨.inl rfl,qB ys⟩
 | y::ys,k+1=>⟨.inr rfl,YW x ys k⟩
theorem jfr (xs:List V) (k:Nat):jm (xs.set k .junk) xs:=by
 by_cases h:k<xs.length
 .have:=YW xs[k] xs k
  rwa [List.set_getElem_self] at this
 .rw [List.set_eq_of_length_le (by omega)]; exact qB xs
theorem LI.frz {ro bx fb fo i lo:Nat} {s:RS} {cs:List V} {ls:List Int} {T:Store} (h:LI ro bx fb fo i lo s cs ls T) (hw:T.Wf) : ∃ x T',(∀ (N b:Nat) (σ:Fr),Reach N b σ T σ T')/\T'.get ro=some (12,rc s)/\T'.get bx=some (1,[.ptr ro 0])/\T'.get fb=some (1,[.ptr fo (3*i)])/\T'.get fo=some (3,cs.set (3*i+1) x)/\nl x=vl bH ls/\x.ids (fun _=>false)=true/\T'.nx=T.nx /\ ∀ o,o≠fo->o≠lo->T'.get o=T.get o:=by
 obtain ⟨hok,hget,hbx,hfb,⟨cell,hfo,hlc⟩,nb,nf,nr,hlen,hls⟩:=h;rcases hlc with ⟨rfl,rfl,rfl⟩ | ⟨rfl,hlo,hne⟩
 .exact ⟨.nils,T,fun N b σ=>Reach.refl σ T,hget,hbx,hfb,hfo,rfl,rfl,rfl,fun _ _ _=>rfl⟩
 .have hg:Ghost (.slice lo 0 ls.length) T (.list (ls.map bH)) (T.del lo):=Ghost.freeze1 hlo (by simp [bH,V.bK]) (by simp);have hne':=nr.2;have hd : ∀ o,o≠lo->(T.del lo).get o=T.get o:=fun o ho=>by rw [ZU,if_neg ho]
  have hr:=fun (N b:Nat) (σ:Fr)=>Reach.cell (N:=N) (b0:=b) (σ:=σ) hg (Kr _ _ _) hfo (by rw [List.getElem?_set_self (by omega)]) (by rw [hd _ hne']; exact hfo);have hu : ∀ o,o≠fo->o≠lo->((T.del lo).upd fo (3,(cs.set (3*i+1) (.slice lo 0 ls.length)).set (3*i+1) (.list (ls.map bH)))).get o=T.get o:=fun o h1 h2=>by rw [jQ,if_neg h1,hd o h2]
  refine ⟨.list (ls.map bH),_,hr, ?_, ?_, ?_, ?_,rfl, ?_,rfl,hu⟩
  .rw [hu ro (Ne.symm nr.1) (Ne.symm hne)]; exact hget
  .rw [hu bx nb.2.1 nb.2.2]; exact hbx
  .rw [hu fb nf.2.1 nf.2.2]; exact hfb
  .rw [jQ,if_pos rfl,List.set_set]
  .exact jaQ _ _ _
def CodeC (fo0 n i:Nat):FC:=fun fo fs S=>fo=fo0 /\ ∃ l cs,fs=some l/\l.length=n/\S.get fo=some (3,cs) /\ ∀ j,i<=j->j<n->cs[3*j+1]? = some .nils
theorem CodeC.stable (fo0 n i ro:Nat):(CodeC fo0 n i).stable ro:=by
 rintro fo fs S c hw hne ⟨h0,l,cs,h1,h2,h3,h4⟩;refine ⟨h0,l,cs,h1,h2, ?_,h4⟩;rw [jk (jx hw h3)];simp only [uGet];rw [if_neg (hne (by rw [h1]; rfl))];exact h3
theorem anl (ro bx fb fo0 n i:Nat) (hin:i<n):SecVC (CodeC fo0 n i) (CodeC fo0 n (i+1)) Tryz.prog ro (.func 109 [.ptr bx 0, .ptr fb 0]) [] [(bx,(1,[.ptr ro 0])),(fb,(1,[.ptr fo0 (3*i)]))] (jba i):=by
 rintro fo m S E ⟨rfl,l,cs,hfs,hln,hfo,hnil⟩ hi he hE;refine ⟨rfl, ?_⟩;refine jc (c:=jf Tryz.f109) Tryz.func109 rfl rfl (by simp [Tryz.ntmps109]) ?_;rw [Tryz.ntmps109];intro hwf;have hbx:=he.has (bx,(1,[.ptr ro 0])) (by simp);have hfb:=he.has (fb,(1,[.ptr fo (3*i)])) (by simp);have nbx:=he.ne (bx,(1,[.ptr ro 0])) (by simp);have nfb:=he.ne (fb,(1,[.ptr fo (3*i)])) (by simp);simp only [hfs,Option.isSome_some,forall_const] at hbx hfb nbx nfb;obtain ⟨hnr,cs',hfo',hcs,hids⟩:=hi.fu l hfs;have hce:cs'=cs:=by rw [hfo] at hfo'; cases hfo'; rfl
 subst hce;have hcl:=abc l cs' hcs;have hnil0:=hnil i (aT _) hin;have hset:cs'.set (3*i+1) .nils=cs':=by
  obtain ⟨h1,h2⟩:=ab.1 hnil0;rw [<-h2,List.set_getElem_self]
 obtain ⟨f,hf⟩ : ∃ f,l[i]? = some f:=⟨_,aa (by omega)⟩
 have hown:ownM ro fo m=[ro,fo]:=by unfold ownM; rw [hfs]
 rw [hown] at hE;have hli:LI ro bx fb fo i ro (msR fo m) cs' [] S:=⟨adq hi.ok,hi.get,hbx,hfb,⟨.nils,by rw [hset]; exact hfo, .inl ⟨rfl,rfl,rfl⟩⟩,⟨nbx.1,nbx.2,nbx.1⟩,⟨nfb.1,nfb.2,nfb.1⟩,⟨hnr,hnr⟩,by omega,by simp⟩
 rw [jh hwf];refine XQ E ?_ (r:=by conv=>lhs;simp[QV,hbx]);refine jb rfl ((aqx ro bx fb fo i (msR fo m) cs' S E hli fun e he' T hk=>hE e ?_ T hk).wf) ?_
 .simp only [jba];rw [show (msR fo m).b=m.b from rfl,show (msR fo m).a=m.a from rfl] at he';rw [he']
 rintro r T ⟨⟨ls,a1,lo,hloc,hli1,hk1,hlo⟩,hwT⟩;rw [show (msR fo m).b=m.b from rfl,show (msR fo m).a=m.a from rfl] at hloc;refine ja ?_;obtain ⟨x,T1,hre,gro,gbx,gfb,gfo,hxi,hn1',hn1,hsame⟩:=hli1.frz hwT;refine Jf (hre _ _ _) ?_;refine jD fun hw1 => ?_;have hkk:Kept S [ro,fo] T1:=⟨by rw [hn1]; exact hk1.1,fun o ho hno=>by
  rw [hsame o (fun e=>hno (by simp [e])) (fun e => ?_)]
  .exact hk1.2 o ho hno
  .rcases hlo with h0 | h0
   .exact hno (by simp [e,h0])
   .omega⟩
 obtain ⟨b,a,ty,im,fs,pg,mo,gl,ex,st,da,ops⟩:=m;simp only at hfs hloc;subst hfs;have ⟨h1,h2,h3,h4,h5,h6,h7⟩:=hi.ok;have ha1:a1<=b.length:=hli1.ok.1;simp only at h2 h3 h4 h5 h6 h7;obtain ⟨cs2,hcs2⟩ : ∃ cs2,cs'.set (3*i+1) x=cs2:=⟨_,rfl⟩
 rw [hcs2] at gfo;have hl2:3*i+2<cs2.length:=by rw [<-hcs2,List.length_set]; omega
 have hl:=jx hw1 gro;have hlf:=jx hw1 gfo;have hlb:=jx hw1 gbx;have hlc:=jx hw1 gfb;have g1 := @JN T1 ro fo hl;have g2 := @Kh T1 ro fo hlf hnr;have u1 := @Ww T1 ro fo hl;have u2 := @jav T1 ro fo hlf hnr;have gb : ∀ c d l,(St T1 [(ro,some c),(fo,some d)] l).get bx=some (1,[.ptr ro 0]):=fun c d l=>by rw [jk hlb]; simp [uGet,nbx.1,nbx.2,gbx]
 have gf : ∀ c d l,(St T1 [(ro,some c),(fo,some d)] l).get fb=some (1,[.ptr fo (3*i)]):=fun c d l=>by rw [jk hlc]; simp [uGet,nfb.1,nfb.2,gfb]
 rw [<-jh hw1];rw [show St T1 [] []=St T1 [(ro,some (12,[vl vb b,bI a1,vl je ty,vl jp im,fuV fo (some l),bH pg,bH mo,vl jv gl,vl jr ex,bH st,vl jq da,bI ops])),(fo,some (3,cs2))] [] from jfo hl hlf gro gfo];refine bj gb g1 u1 ?_;have hzk : ∀ a' o' y,(Zs T1 [ro,fo] [(ro,some (12,[vl vb b, .junk,vl je ty,vl jp im,fuV fo (some l),bH pg,bH mo,vl jv gl,vl jr ex,bH st,vl jq da, .junk])),(fo,some (3,cs2.set (3*i+2) .junk))] []).ok (St T1 [(ro,some (12,[vl vb b,bI a',vl je ty,vl jp im,fuV fo (some l),bH pg,bH mo,vl jv gl,vl jr ex,bH st,vl jq da,bI o'])),(fo,some (3,cs2.set (3*i+2) y))] []):=fun a' o' y=>YI (by simp [WG,subO,jm,YW]) (by simp [jW]) (by simp) (by simp);have hzk0 : ∀ a' o',(Zs T1 [ro,fo] [(ro,some (12,[vl vb b, .junk,vl je ty,vl jp im,fuV fo (some l),bH pg,bH mo,vl jv gl,vl jr ex,bH st,vl jq da, .junk])),(fo,some (3,cs2.set (3*i+2) .junk))] []).ok (St T1 [(ro,some (12,[vl vb b,bI a',vl je ty,vl jp im,fuV fo (some l),bH pg,bH mo,vl jv gl,vl jr ex,bH st,vl jq da,bI o'])),(fo,some (3,cs2))] []):=fun a' o'=>YI (by simp [WG,subO,jm,jfr]) (by simp [jW]) (by simp) (by simp)
 refine QT ?_;refine XD E (Zs T1 [ro,fo] [(ro,some (12,[vl vb b, .junk,vl je ty,vl jp im,fuV fo (some l),bH pg,bH mo,vl jv gl,vl jr ex,bH st,vl jq da, .junk])),(fo,some (3,cs2.set (3*i+2) .junk))] []) [] [0,1,2,3,4,5,6,7,8] [11] (ho:=KF _ _ _ _) (hz:=hzk0 a1 0) (r:=by conv=>lhs;simp[QV,↓ju,ZR,Zs,zz,jl,ji,V.nj,V.nj1,V.bK,gb,gf,g1,g2]) (k:=?_);have hcp : ∀ e,jgh 16 false ty b a1 0 = .error e->jba i ⟨b,a,ty,im,some l,pg,mo,gl,ex,st,da,ops⟩ = .error e:=fun e h=>by simp only [jba,hloc,h]
 refine aix (b:=b) (a:=a1) (o:=0) (ts:=ty) rfl rfl (alh ro 16 0 rfl false) (by simp [Zs,lid]; omega) (by simp [Zs]) (g1 _ _ _) ha1 h2 h3 (by omega) h5 (fun a' o'=>by rw [u1]; exact hzk0 a' o') ?_ ?_
 .intro e he T hk;exact hE e (hcp e he) T (hkk.trans hk)
 rintro ⟨bd,oth⟩ a2 o2 hb ha2 ho2;rw [u1];simp only [rct,YE];refine ZM (r:=by conv=>lhs;simp[QV,↓ju,ZR,Zs,zz,jl,ji,V.nj,V.nj1,V.bK,gb,gf,g1,g2]) (k:=?_);refine jo rfl (by conv=>lhs; simp [g2,u2,hl2]) ?_ ?_
 .exact hzk a2 o2 _
 refine ZM (r:=by conv=>lhs;simp[QV,↓ju,ZR,Zs,zz,jl,ji,V.nj,V.nj1,V.bK]) (k:=?_);refine jy ?_;have hgd:l.getD i default=f:=by rw [af,hf]; rfl
 have hcode:jba i ⟨b,a,ty,im,some l,pg,mo,gl,ex,st,da,ops⟩ = .ok ⟨b,a2,ty,im,some (l.set i ⟨f.type,ls,bd⟩),pg,mo,gl,ex,st,da,o2⟩:=by simp only [jba,hloc,hb,aW,hgd]
 refine jn ⟨⟨b,a2,ty,im,some (l.set i ⟨f.type,ls,bd⟩),pg,mo,gl,ex,st,da,o2⟩,fo,⟨hcode,rfl,⟨⟨ha2,h2,h3,ho2,h5,h6,fun l' hl' => ?_⟩, ?_, ?_⟩, ?_,fun _ => .inl ⟨rfl,rfl⟩⟩,⟨rfl,_,_,rfl,by rw [List.length_set]; exact hln,g2 _ _ _,fun j hj hjn => ?_⟩,rfl⟩
 .cases hl'
  rw [List.length_set];exact h7 l rfl
 .rw [g1];simp [msR,rc,fuV]
 .intro l' hl';cases hl';refine ⟨hnr,_,g2 _ _ _, ?_, ?_⟩
  .rw [<-hcs2];exact ab7 x _ ls bd hxi rfl l cs' i f hcs hf
  .rw [<-hcs2];exact aeq (jaQ _ _ _) _ _ (aeq hn1' _ _ hids)
 .rw [hown];exact hkk.trans (jN (by simp))
 .rw [<-hcs2,List.getElem?_set_ne (by omega),List.getElem?_set_ne (by omega)];exact hnil j (by omega) hjn
end Go.Vw
