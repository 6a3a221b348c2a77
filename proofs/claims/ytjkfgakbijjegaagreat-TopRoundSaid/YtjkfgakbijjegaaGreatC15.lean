import Derived.Test.YtjkfgakbijjegaaGreatC14
/- Part of the proof. -/
set_option linter.unusedVariables false
set_option linter.unusedSimpArgs false
set_option maxRecDepth 10000
set_option maxHeartbeats 2000000

namespace Wm
def ZB (m:Mod):Int:=imx (imx (imx (imx (imx m.types.length m.imports.length) m.funcs.length) m.globals.length) m.exports.length) m.datas.length
def few (m:Mod):Bool := !decide (ZB m > 64)&&(!m.types.any jdI&&(!m.imports.any jdJ&&(!m.exports.any jdK&&(!m.datas.any jdL && !m.funcs.any jcf))))
structure okM (m:Mod):Prop where
 ty:m.types.length<1000000 /\ ∀ s∈m.types,jdp s
 im:m.imports.length<1000000 /\ ∀ x∈m.imports,bytes x.mod/\bytes x.name
 fs:m.funcs.length<1000000 /\ ∀ x∈m.funcs,okF x
 gl:m.globals.length<1000000
 ex:m.exports.length<1000000 /\ ∀ x∈m.exports,bytes x.name
 da:m.datas.length<1000000 /\ ∀ x∈m.datas,okD x/\bytes x.bytes
end Wm
namespace Go.Vw
open Go.Proofs Go.RowKit Wm
attribute [-simp] List.map_set
theorem aon (x:Wm.Func) (h:okF x):bF 56 [encF x] (.bool (jcf x)):=by
 intro S;obtain ⟨a1,a2,a3⟩:=x;obtain ⟨o1,o2,o3⟩:=h;simp only at o1 o2 o3;simp only [encF];refine bE Tryz.func56 Tryz.ntmps56 fun hwf=>?_;by_cases h1:(a2.length:Int) > 4096
 .refine bi h1 ?_;exact jd hwf (by simp [jcf,h1]) rfl
 .refine bk ?_;refine QP ?_ (r:=by conv=>lhs;simp[QV,h1]);refine QL (adx _ a3 (aT _) o3 o2 512 0 (by omega) (by omega) (by omega) (by omega)) ?_;refine bz ?_;exact jd hwf (by simp [jcf,h1]) rfl
theorem aci (m:Mod) (h:okM m):bF 12 [jR m] (.bool (few m)):=by
 intro S;obtain ⟨m1,m2,m3,m4,m5,m6,m7,m8,m9⟩:=m;obtain ⟨⟨k1,k2⟩,⟨k3,k4⟩,⟨k5,k6⟩,k7,⟨k8,k9⟩,k10,k11⟩:=h;simp only at k1 k2 k3 k4 k5 k6 k7 k8 k9 k10 k11;have hmx : ∀ a b c d e f:Int,Ye (.int .i64 a) [.int .i64 b, .int .i64 c, .int .i64 d, .int .i64 e, .int .i64 f]=some (.int .i64 (imx (imx (imx (imx (imx a b) c) d) e) f)):=fun a b c d e f=>by simp [Ye,imx]
 have q1:=aqw m1 jdI 48 [] rfl (by omega) (fun x _=>ark x);have q2:=an4 m2 jdJ 50 [] rfl (by omega) (fun x _=>aqi x);have q3:=ao8 m7 jdK 52 [] rfl (by omega) (fun x _=>aqa x);have q4:=aoy m9 jdL 54 [] rfl (by omega) (fun x _=>aqc x);have q5:=aox m3 jcf 56 [] rfl (by omega) (fun x hx=>aon x (k6 x hx));simp only [jR];obtain ⟨b1,hb1⟩ : ∃ b,m1.any jdI=b:=⟨_,rfl⟩
 obtain ⟨b2,hb2⟩ : ∃ b,m2.any jdJ=b:=⟨_,rfl⟩
 obtain ⟨b3,hb3⟩ : ∃ b,m7.any jdK=b:=⟨_,rfl⟩
 obtain ⟨b4,hb4⟩ : ∃ b,m9.any jdL=b:=⟨_,rfl⟩
 obtain ⟨b5,hb5⟩ : ∃ b,m3.any jcf=b:=⟨_,rfl⟩
 rw [hb1] at q1;rw [hb2] at q2;rw [hb3] at q3;rw [hb4] at q4;rw [hb5] at q5;obtain ⟨mp,hmp⟩ : ∃ mp,imx (imx (imx (imx (imx (m1.length:Int) m2.length) m3.length) m6.length) m7.length) m9.length=mp:=⟨_,rfl⟩
 refine bE Tryz.func12 Tryz.ntmps12 fun hwf=>?_;by_cases h0:mp > 64
 .refine bj hmx hmp h0 ?_;exact jd hwf (by simp [few,ZB,hmp,h0]) rfl
 .refine bj hmx hmp h0 ?_;refine QP ?_;refine jA rfl q1 ?_;by_cases h1:b1=true
  .refine bv h1 ?_;refine bA ?_;exact jd hwf (by simp [few,hb1,h1]) rfl
  .have h1:b1=false:=by simpa using h1
   refine bv h1 ?_;refine jA rfl q2 ?_;by_cases h2:b2=true
   .refine bv h2 ?_;refine bA ?_;exact jd hwf (by simp [few,hb2,h2]) rfl
   .have h2:b2=false:=by simpa using h2
    refine bv h2 ?_;refine jA rfl q3 ?_;by_cases h3:b3=true
    .refine bv h3 ?_;refine bA ?_;exact jd hwf (by simp [few,hb3,h3]) rfl
    .have h3:b3=false:=by simpa using h3
     refine bv h3 ?_;refine jA rfl q4 ?_;by_cases h4:b4=true
     .refine bv h4 ?_;refine bA ?_;exact jd hwf (by simp [few,hb4,h4]) rfl
     .have h4:b4=false:=by simpa using h4
      refine bv h4 ?_;refine jA rfl q5 ?_;by_cases h5:b5=true
      .refine bv h5 ?_;refine bA ?_;exact jd hwf (by simp [few,ZB,hmp,h0,hb1,hb2,hb3,hb4,hb5,h1,h2,h3,h4,h5]) rfl
      .have h5:b5=false:=by simpa using h5
       refine bv h5 ?_;refine bA ?_;exact jd hwf (by simp [few,ZB,hmp,h0,hb1,hb2,hb3,hb4,hb5,h1,h2,h3,h4,h5]) rfl
end Go.Vw
namespace Wm
def KB (tys:List Sig) (f:Func):List Nat:=jS f.locals.length++(f.locals.flatMap (fun t=>putW [1,t])++(zg tys f.body++[11]))
def qa (tys:List Sig) (f:Func):List Nat:=jS (KB tys f).length++KB tys f
end Wm
namespace Go.Vw
open Go.Proofs Go.RowKit Wm
attribute [-simp] List.map_set
theorem WI.keep {wo bo xo xb xb':Nat} {tv tx:V} {bs xs:List Nat} {T U:Store} (h:WI wo bo tv bs T) (hw:T.Wf) (hp:WP xo xb tx xs T xb' U) (h1:wo≠xo/\wo≠xb) (h2:bo≠xo/\bo≠xb):WI wo bo tv bs U:=by
 have hlt:=h.lt hw;obtain ⟨cell,k1,k2⟩:=h;refine ⟨cell,(hp.kept.2 wo hlt.1 (by simp only [aE,List.not_mem_nil,or_false,not_or]; exact h1)).trans k1, ?_⟩;rcases k2 with k2 | ⟨k2,k3,k4⟩
 .exact .inl k2
 .exact .inr ⟨k2,(hp.kept.2 bo hlt.2 (by simp only [aE,List.not_mem_nil,or_false,not_or]; exact h2)).trans k3,k4⟩
theorem ars (last:Int->Bool) (f:Nat) (n:Int):lebZ last f n≠[]:=by
 cases f<;>simp only [lebZ]
 .simp
 .split<;>simp
theorem aac (n:Int):jS n≠[]:=ars _ _ _
theorem WI.slice {wo bo:Nat} {tv:V} {bs:List Nat} {T:Store} (h:WI wo bo tv bs T) (hne:bs≠[]):T.get wo=some (2,[tv, .slice bo 0 bs.length])/\T.get bo=some (1,bs.map vb)/\bo≠wo:=by
 obtain ⟨cell,k1,k2⟩:=h;rcases k2 with ⟨_,k2,_⟩ | ⟨rfl,k3,k4⟩
 .exact absurd k2 hne
 .exact ⟨k1,k3,k4⟩
theorem aih (wo:Nat) (tys:List Wm.Sig) (htl:tys.length<1000000) (hto : ∀ t∈tys,jdp t) (f:Wm.Func) (hf:okF f) (hfn:nL f.body):WrX Tryz.prog 81 [.ptr wo 0,encF f] wo (vl je tys) [] (qa tys f):=by
 intro bo bs S E hi he hb;obtain ⟨o1,o2,o3⟩:=hf;have hbody:=fun xo=>ac3 xo tys htl hto _ f.body (aT _) o2 o3 hfn;obtain ⟨ty,ls,bd⟩:=f;simp only at o1 o2 o3 hbody;obtain ⟨out,hout⟩ : ∃ out,KB tys ⟨ty,ls,bd⟩=out:=⟨_,rfl⟩
 simp only [qa,hout,lA] at hb ⊢;have hol:out.length=(jS ls.length).length+((ls.flatMap (fun t=>putW [1,t])).length+((zg tys bd).length+1)):=by rw [<-hout]; simp [KB]
 simp only [encF];refine jc (c:=jf Tryz.f81) Tryz.func81 rfl rfl (by simp [Tryz.ntmps81]) ?_;rw [Tryz.ntmps81];intro hwf;have hlt:=hi.lt hwf;obtain ⟨cell,hw0,hbc⟩:=id hi;have gw : ∀ l,(St S [] l).get wo=some (2,[vl je tys,cell]):=fun l=>(jk hlt.1).trans hw0;refine bk ?_;refine qi 3 rfl (WH (k:=0) (s:=3) (cs:=[bH ty,vl bH ls,vl encI bd]) (by simp) (by simp) rfl (by simp)) (by conv=>lhs; simp [Fr.set]) ?_;refine bi gw ?_;obtain ⟨xo,hxo⟩ : ∃ xo,lid S.nx 1=xo:=⟨_,rfl⟩
 refine jD fun w0 => ?_;have i0:=hi.up hwf [none,some (2,[vl je tys,V.nils])];have x0:WI xo xo (vl je tys) [] (St S [] [none,some (2,[vl je tys,V.nils])]):=⟨.nils,by rw [<-hxo]; simp, .inl ⟨rfl,rfl,rfl⟩⟩
 have hk0:Kept S [wo,bo] (St S [] [none,some (2,[vl je tys,V.nils])]):=jN (by simp);have hn0:(St S [] [none,some (2,[vl je tys,V.nils])]).nx=S.nx+2:=by rw [jH]; rfl
 have nx:S.nx<=xo/\xo<S.nx+2:=by rw [<-hxo]; simp [lid]
 generalize St S [] [none,some (2,[vl je tys,V.nils])]=S1 at w0 i0 x0 hk0 hn0 ⊢;rw [hxo];rw [<-jh w0];refine XQ E ?_;refine jb rfl ((zF xo (vl je tys) rfl ls.length).at w0 x0 (EnvW.nil _ _ _) (by simp only [aF]; omega)) ?_;rintro _ T1 ⟨⟨b1,h1⟩,rfl⟩;refine ja ?_;refine jD fun w1 => ?_;rw [<-jh w1];have nb1:b1=xo\/S.nx<=b1:=by rcases h1.own with h | h<;>omega
 have i1:=i0.keep w0 h1 ⟨by omega,by omega⟩ ⟨by omega,by omega⟩;have hn1:=h1.kept.1;refine bk ?_;refine bB [0,3,4,19,20,21] (fun c σ T => ∃ (k xb:Nat),k<=ls.length/\c=ls.length-k/\WP xo b1 (vl je tys) ([]++jS ls.length++(ls.take k).flatMap (fun t=>putW [1,t])) T1 xb T/\WI wo bo (vl je tys) bs T/\σ=[(0, .ptr wo 0),(3, .ref (.agg [bH ty,vl bH ls,vl encI bd])),(4, .ptr xo 0),(19,vl bH ls),(20,bI ls.length),(21,bI k)]) ls.length ?_ ?_
 .refine ⟨0,b1,Nat.zero_le _,rfl, ?_, ?_,by simp [Fr.oy]⟩
  .rw [jh w1];simpa using WP.refl h1.wi
  .rw [jh w1]; exact i1
 .rintro c σ T ⟨k,xb,hk,rfl,hp,hiw,rfl⟩;refine jD fun hwT => ?_;have nxb:xb=xo\/S.nx<=xb:=by rcases hp.own with h | h<;>omega
  have hnT:=hp.kept.1;rw [<-jh hwT];by_cases hkt:k<ls.length
  .have hw:=jP hkt (by omega);have hft:=JV (fun t=>putW [1,t]) ls (k+1);rw [List.take_succ_eq_append_getElem hkt,List.flatMap_append,lA] at hft;simp only [List.flatMap_cons,List.flatMap_nil,List.append_nil,qp,av,aF] at hft;refine bi hkt ?_;refine XQ E ?_;refine jb rfl (Wu (k:=0) (ls:=[1,ls[k]]) hwT hp.wi rfl (by simp only [lA,av,aF]; omega)) ?_;rintro _ U ⟨⟨b3,h3⟩,rfl⟩;refine ja ?_;have i3:=hiw.keep hwT h3 ⟨by omega,by omega⟩ ⟨by omega,by omega⟩;refine bi hw ?_;show zI _ _ _ _ _ _ _;exact again ⟨al hkt (aN k),k+1,b3,hkt,rfl,(by rw [List.take_succ_eq_append_getElem hkt,List.flatMap_append, <-List.append_assoc]; simpa using hp.trans h3),i3,by simp [Fr.oy,hw]⟩
  .have hke:k=ls.length:=by omega
   subst hke;rw [List.take_length] at hp;refine bi hkt ?_;refine XQ E ?_;refine jb rfl ((hbody xo).at hwT hp.wi (EnvW.nil _ _ _) (by simp only [lA,aF]; omega)) ?_;rintro _ T3 ⟨⟨b3,h3⟩,rfl⟩;refine ja ?_;refine jD fun w3 => ?_;rw [<-jh w3];have i3:=hiw.keep hwT h3 ⟨by omega,by omega⟩ ⟨by omega,by omega⟩;have nb3:b3=xo\/S.nx<=b3:=by rcases h3.own with h | h<;>omega
   have hn3:=h3.kept.1;refine bk ?_;refine XQ E ?_;refine jb rfl (Wu (k:=0) (ls:=[11]) w3 h3.wi rfl (by simp only [lA,av,aF]; omega)) ?_;rintro _ T4 ⟨⟨b4,h4⟩,rfl⟩;refine ja ?_;refine jD fun w4 => ?_;rw [<-jh w4];have i4:=i3.keep w3 h4 ⟨by omega,by omega⟩ ⟨by omega,by omega⟩;have nb4:b4=xo\/S.nx<=b4:=by rcases h4.own with h | h<;>omega
   have hn4:=h4.kept.1;have hfin:=((h1.trans hp).trans h3).trans h4;have hcode:[]++jS ls.length++ls.flatMap (fun t=>putW [1,t])++zg tys bd++putW [11]=out:=by rw [<-hout]; simp [KB,putW]
   rw [hcode] at hfin;have hone:out≠[]:=by rw [<-hcode]; simp [putW]
   obtain ⟨k1,k2,k3⟩:=hfin.wi.slice hone;have hkS:Kept S [wo,bo] T4:=by
    refine ⟨aU hk0.1 hfin.kept.1,fun o ho hno => ?_⟩;rw [hfin.kept.2 o (aK ho hk0.1) (by simp; omega)];exact hk0.2 o ho hno
   have hx4:=jx w4 k1;have hb4:=jx w4 k2;have gx : ∀ l,(St T4 [] l).get xo=some (2,[vl je tys, .slice b4 0 out.length]):=fun l=>(jk hx4).trans k1;have gb : ∀ l,(St T4 [] l).get b4=some (1,out.map vb):=fun l=>(jk hb4).trans k2;refine bk ?_;refine XQ E ?_ (r:=by conv=>lhs;simp[QV,gx,gb]);refine jb rfl ((zF wo (vl je tys) rfl out.length).at w4 i4 (EnvW.nil _ _ _) (by omega)) ?_;rintro _ T5 ⟨⟨b5,h5⟩,rfl⟩;refine ja ?_;refine jD fun w5 => ?_;rw [<-jh w5];have x5:=hfin.wi.keep w4 h5 ⟨by omega,by omega⟩ ⟨by omega,by omega⟩;obtain ⟨m1,m2,m3⟩:=x5.slice hone;obtain ⟨cur,hcur⟩ : ∃ cur,bs++jS out.length=cur:=⟨_,rfl⟩
   have hcl:cur.length=bs.length+(jS out.length).length:=by rw [<-hcur]; simp
   have hcne:cur≠[]:=by rw [<-hcur]; simp [aac]
   have h5':WP wo bo (vl je tys) (bs++jS out.length) S b5 T5:=(⟨i4,hkS, .inl rfl⟩:WP wo bo (vl je tys) bs S bo T4).trans h5;rw [hcur] at h5 h5';obtain ⟨c1,c2,c3⟩:=h5.wi.slice hcne;have l1:=jx w5 c1;have l2:=jx w5 c2;have l3:=jx w5 m1;have l4:=jx w5 m2;have nb5:b5≠xo/\b5≠b4:=by rcases h5.own with h | h<;>omega
   have nwo:wo≠xo/\wo≠b4:=by omega
   have g1 := @JN T5 wo b5 l1;have g2 := @Kh T5 wo b5 l2 c3;have g3 : ∀ X l,(St T5 [(wo,some X),(b5,none)] l).get wo=some X:=fun X l=>by rw [jk l1]; simp [uGet]
   have u3 : ∀ X Y l,(St T5 [(wo,some X),(b5,none)] l).upd wo Y=St T5 [(wo,some Y),(b5,none)] l:=fun X Y l=>by rw [jT l1]; simp [uSet]
   have gx5 : ∀ c d l,(St T5 [(wo,some c),(b5,d)] l).get xo=some (2,[vl je tys, .slice b4 0 out.length]):=fun c d l=>by rw [jk l3]; simp only [uGet]; rw [if_neg (Ne.symm nwo.1),if_neg (Ne.symm nb5.1)]; exact m1
   have gb5 : ∀ c d l,(St T5 [(wo,some c),(b5,d)] l).get b4=some (1,out.map vb):=fun c d l=>by rw [jk l4]; simp only [uGet]; rw [if_neg (Ne.symm nwo.2),if_neg (Ne.symm nb5.2)]; exact m2
   have hz : ∀ c l,(Zs T5 [wo,b5] [(wo,some (2,[vl je tys, .slice b5 0 cur.length])),(b5,none)] []).ok (St T5 [(wo,some (2,[vl je tys, .slice b5 0 cur.length])),(b5,c)] l):=fun c l=>YI (by simp [WG,subO,jm]) (by simp [jW]) (by simp) (by simp);rw [show St T5 [] []=St T5 [(wo,some (2,[vl je tys, .slice b5 0 cur.length])),(b5,some (1,cur.map vb))] [] from jfo l1 l2 c1 c2];refine QT ?_;refine XD E ((Zs T5 [wo,b5] [(wo,some (2,[vl je tys, .slice b5 0 cur.length])),(b5,none)] []).lastly) [] [0,1,2,3,4,5,6,7,8,9,10,11,12] [] (ho:=ZX.lastly_old (KF _ _ _ _)) (hz:=ZX.lastly_ok (hz _ [])) (r:=by conv=>lhs;simp[QV,↓ju,ZR,Zs,zz,jl,ji,V.nj,V.nj1,V.bK,ZX.lastly,g1,g3,gx5]) (k:=?_);have hap : ∀ X,jB 1 1 (St T5 [(wo,some X),(b5,some (1,cur.map vb))] []) (.slice b5 0 cur.length) (.slice b4 0 out.length)=some (.slice (lid T5.nx 0) 0 (cur.length+out.length),St T5 [(wo,some X),(b5,none)] [some (1,cur.map vb++out.map vb)]):=fun X=>by
    rw [qH (s:=1) (cells:=cur.map vb) (new:=out.map vb) (g2 _ _ _) (gb5 _ _ _) (by simp) (by simp) (by omega) (by omega),Jv l2,qT,jH];simp [uSet,c3]
   refine jo rfl (by conv=>lhs; simp [hap]) ?_ ?_
   .exact ZX.lastly_ok (hz _ _)
   refine ZM (r:=by conv=>lhs;simp[QV,↓ju,ZR,Zs,zz,jl,ji,V.nj,V.nj1,V.bK,ZX.lastly,g3]) (k:=?_);refine zw rfl (by conv=>lhs; simp [g3,u3]) rfl ?_;refine bk ?_;refine jn ⟨⟨lid T5.nx 0, ?_⟩,rfl⟩;rw [<-List.append_assoc,hcur];exact h5'.trans (WP.step (n:=cur.length+out.length) (g3 _ _) (by simp) (by simp) (by simp [lid]; omega) (by simp [lid]) (jN (by simp)))
theorem avc (wo bx:Nat) (tv:V) (htv:tv.nj1=true) (x:Wm.Data):WrV Tryz.prog (.func 84 [.ptr bx 0]) [jq x] wo tv [(bx,(1,[.ptr wo 0]))] (jcp x):=by
 intro bo bs S E hi he hb;refine ⟨rfl, ?_⟩;obtain ⟨at',bt⟩:=x;simp only [jcp,av,lA] at hb ⊢;have hu:IntKind.u64.wrap at'=(((at' % 18446744073709551616).toNat:Nat):Int):=by rw [jZ]; omega
 obtain ⟨an,han⟩ : ∃ an,(at' % 18446744073709551616).toNat=an:=⟨_,rfl⟩
 rw [han] at hu hb ⊢;refine jc (c:=jf Tryz.f84) Tryz.func84 rfl rfl (by simp [Tryz.ntmps84]) ?_;rw [Tryz.ntmps84];intro hwf
 repeat first|refine QG ?_|refine QY ?_ (r:=by conv=>lhs;simp[QV,jq])
 obtain ⟨q,hq⟩ : ∃ q,lid S.nx 0=q:=⟨_,rfl⟩
 refine jD fun w0 => ?_;have e0:=he.box hwf (hi.lt hwf) (2,[.int .i64 at',vl vb bt]);have i0:=hi.up hwf [some (2,[.int .i64 at',vl vb bt])];obtain ⟨S1,hS1⟩ : ∃ S1,St S [] [some (2,[.int .i64 at',vl vb bt])]=S1:=⟨_,rfl⟩
 first | rw [hS1] at e0 i0 w0 ⊢ | (rw [hS1] at e0 i0; rw [show St S [] _=S1 from hS1] at w0 ⊢)
 rw [hq] at e0 ⊢;rw [<-jh w0];have h0:=WP.refl i0;have g0:=fun l=>(EnvW.at2 e0 w0 l).1;have q0:=fun l=>(EnvW.at2 e0 w0 l).2;refine XQ E ?_ (r:=by conv=>lhs;simp[QV,g0,q0]);refine jb rfl (Wu (k:=0) (ls:=[0]) w0 i0 rfl (by simp only [av,aF]; omega)) ?_;rintro _ T1 ⟨⟨b1,h1⟩,rfl⟩;refine ja ?_;refine jD fun w1 => ?_;have e1:=e0.go w0 h1;have g1:=fun l=>(EnvW.at2 e1 w1 l).1;have q1:=fun l=>(EnvW.at2 e1 w1 l).2;rw [<-jh w1];refine XQ E ?_ (r:=by conv=>lhs;simp[QV,g1,q1,hu]);refine jb rfl ((aar wo tv htv 127 an).at w1 h1.wi (EnvW.nil _ _ _) (by simp only [lA,qp,av,aF]; omega)) ?_;rintro _ T2 ⟨⟨b2,h2⟩,rfl⟩;refine ja ?_;refine jD fun w2 => ?_;have e2:=e1.go w1 h2;have g2:=fun l=>(EnvW.at2 e2 w2 l).1;have q2:=fun l=>(EnvW.at2 e2 w2 l).2;rw [<-jh w2];refine XQ E ?_ (r:=by conv=>lhs;simp[QV,g2,q2]);refine jb rfl ((zF wo tv htv bt.length).at w2 h2.wi (EnvW.nil _ _ _) (by simp only [lA,qp,av,aF]; omega)) ?_;rintro _ T3 ⟨⟨b3,h3⟩,rfl⟩;refine ja ?_;refine jD fun w3 => ?_
 have e3:=e2.go w2 h3;have g3:=fun l=>(EnvW.at2 e3 w3 l).1;have q3:=fun l=>(EnvW.at2 e3 w3 l).2;rw [<-jh w3];have hh:=(h1.trans h2).trans h3;obtain ⟨cur,hcur⟩ : ∃ cur,bs++putW [0]++KC 127 an++jS bt.length=cur:=⟨_,rfl⟩
 have hcl:cur.length=bs.length+1+(KC 127 an).length+(jS bt.length).length:=by rw [<-hcur]; simp [putW]; omega
 have hcne:cur≠[]:=by rw [<-hcur]; simp [aac]
 rw [hcur] at hh;obtain ⟨c1,c2,c3⟩:=hh.wi.slice hcne;have l1:=jx w3 c1;have l2:=jx w3 c2;have eb:=e3.has (bx,(1,[.ptr wo 0])) (by simp);have eq:=e3.has (q,(2,[.int .i64 at',vl vb bt])) (by simp);have nb:=e3.ne (bx,(1,[.ptr wo 0])) (by simp);have nq:=e3.ne (q,(2,[.int .i64 at',vl vb bt])) (by simp);simp only at eb eq nb nq;have l3:=jx w3 eb;have l4:=jx w3 eq;have f1 := @JN T3 wo b3 l1;have f2 := @Kh T3 wo b3 l2 c3;have f3 : ∀ X l,(St T3 [(wo,some X),(b3,none)] l).get wo=some X:=fun X l=>by rw [jk l1]; simp [uGet]
 have u3 : ∀ X Y l,(St T3 [(wo,some X),(b3,none)] l).upd wo Y=St T3 [(wo,some Y),(b3,none)] l:=fun X Y l=>by rw [jT l1]; simp [uSet]
 have gx : ∀ c d l,(St T3 [(wo,some c),(b3,d)] l).get bx=some (1,[.ptr wo 0]):=fun c d l=>by rw [jk l3]; simp only [uGet]; rw [if_neg nb.1,if_neg nb.2]; exact eb
 have gq : ∀ c d l,(St T3 [(wo,some c),(b3,d)] l).get q=some (2,[.int .i64 at',vl vb bt]):=fun c d l=>by rw [jk l4]; simp only [uGet]; rw [if_neg nq.1,if_neg nq.2]; exact eq
 have hz : ∀ c l,(Zs T3 [wo,b3] [(wo,some (2,[tv, .slice b3 0 cur.length])),(b3,none)] []).ok (St T3 [(wo,some (2,[tv, .slice b3 0 cur.length])),(b3,c)] l):=fun c l=>YI (by simp [WG,subO,jm]) (by simp [jW]) (by simp) (by simp);have htv':=htv;unfold V.nj1 at htv';rw [show St T3 [] []=St T3 [(wo,some (2,[tv, .slice b3 0 cur.length])),(b3,some (1,cur.map vb))] [] from jfo l1 l2 c1 c2];refine QT ?_;refine XD E ((Zs T3 [wo,b3] [(wo,some (2,[tv, .slice b3 0 cur.length])),(b3,none)] []).lastly) [] [0,1,2,3,4,5,6,7,8,9,10] [] (ho:=ZX.lastly_old (KF _ _ _ _)) (hz:=ZX.lastly_ok (hz _ [])) (r:=by conv=>lhs;simp[QV,↓ju,ZR,Zs,zz,jl,ji,V.nj,V.nj1,V.bK,ZX.lastly,f1,f3,gx,gq,htv']) (k:=?_);have hap : ∀ X,jB 1 1 (St T3 [(wo,some X),(b3,some (1,cur.map vb))] []) (.slice b3 0 cur.length) (vl vb bt)=some (.slice (lid T3.nx 0) 0 (cur.length+bt.length),St T3 [(wo,some X),(b3,none)] [some (1,cur.map vb++bt.map vb)]):=fun X=>by
  rw [Kc (enc:=vb) (fun _=>rfl) (f2 _ _ _) (by simp) (by omega) (by omega),ZF,Jv l2,qT,jH];simp [uSet,c3]
 refine jo rfl (by conv=>lhs; simp [hap]) ?_ ?_
 .exact ZX.lastly_ok (hz _ _)
 refine ZM (r:=by conv=>lhs;simp[QV,↓ju,ZR,Zs,zz,jl,ji,V.nj,V.nj1,V.bK,ZX.lastly,f3]) (k:=?_);refine zw rfl (by conv=>lhs; simp [f3,u3]) rfl ?_;refine bk ?_;have hlast:WP wo b3 tv (cur++bt) T3 (lid T3.nx 0) _:=WP.step (n:=cur.length+bt.length) (f3 (2,[tv, .slice (lid T3.nx 0) 0 (cur.length+bt.length)]) [some (1,cur.map vb++bt.map vb)]) (by simp) (by simp) (by simp [lid]; omega) (by simp [lid]) (jN (by simp));have hall:=hh.trans hlast;rw [<-hS1] at hall;refine jn ⟨⟨lid T3.nx 0, ?_⟩,rfl⟩;rw [show bs++(0::(KC 127 an++(jS bt.length++bt)))=cur++bt by rw [<-hcur]; simp [putW]];exact hall.below
end Go.Vw
namespace Wm
def JP (m:Mod):List Nat:=if 0<=m.pages then putW [1,1]++(jS m.pages++jS m.most) else []
def Wx (m:Mod):List Nat:=if 0<=m.start then jS m.start else []
def secW (m:Mod):Nat->List Nat
 | 1=>qw sigW m.types
 | 2=>qw Wn m.imports
 | 3=>qw jbH m.funcs
 | 5=>JP m
 | 6=>qw KA m.globals
 | 7=>qw Wq m.exports
 | 8=>Wx m
 | 10=>qw (qa m.types) m.funcs
 | 11=>qw jcp m.datas
 | _=>[]
end Wm
namespace Go.Vw
open Go.Proofs Go.RowKit Wm
attribute [-simp] List.map_set
def modC (m:Mod):List V:=[vl je m.types,vl jp m.imports,vl encF m.funcs,bH m.pages,bH m.most,vl jv m.globals,vl jr m.exports,bH m.start,vl jq m.datas]
theorem jbK {wo bo:Nat} {S:Store} (hl:wo<S.nx/\bo<S.nx):EnvW wo bo [(lid S.nx 0,(1,[.ptr wo 0]))] (St S [] [some (1,[.ptr wo 0])]) :=
 ⟨fun q hq=>by simp only [aM] at hq; subst hq; simp,fun q hq=>by simp only [aM] at hq; subst hq; simp [lid]; omega⟩
theorem avd (wo mb:Nat) (tv:V) (htv:tv.nj1=true) (m:Mod) (hm:okM m):WrV Tryz.prog (.func 59 [.ptr mb 0]) [.ptr wo 0] wo tv [(mb,(9,modC m))] (qw sigW m.types):=by
 intro bo bs S E hi he hb;refine ⟨rfl, ?_⟩;refine jc (c:=jf Tryz.f59) Tryz.func59 rfl rfl (by simp [Tryz.ntmps59]) ?_;rw [Tryz.ntmps59];intro hwf;have hmb:=he.has (mb,(9,modC m)) (by simp);simp only [modC] at hmb;have gm : ∀ l,(St S [] l).get mb=some (9,[vl je m.types,vl jp m.imports,vl encF m.funcs,bH m.pages,bH m.most,vl jv m.globals,vl jr m.exports,bH m.start,vl jq m.datas]):=fun l=>(jk (jx hwf hmb)).trans hmb;refine bk ?_;refine XQ E ?_ (r:=by conv=>lhs;simp[QV,gm]);refine jb rfl ((anh wo tv htv (.func 61 [.ptr (lid S.nx 0) 0]) [(lid S.nx 0,(1,[.ptr wo 0]))] _ m.types (fun x hx=>awz wo _ tv htv x) (by have:=hm.ty.1; omega)).at hwf hi (jbK (hi.lt hwf)) hb) ?_;rintro _ T1 ⟨⟨b1,h1⟩,rfl⟩;refine ja ?_;refine bk ?_;exact jn ⟨⟨b1,h1⟩,rfl⟩
theorem awv (wo mb:Nat) (tv:V) (htv:tv.nj1=true) (m:Mod) (hm:okM m):WrV Tryz.prog (.func 64 [.ptr mb 0]) [.ptr wo 0] wo tv [(mb,(9,modC m))] (qw Wn m.imports):=by
 intro bo bs S E hi he hb;refine ⟨rfl, ?_⟩;refine jc (c:=jf Tryz.f64) Tryz.func64 rfl rfl (by simp [Tryz.ntmps64]) ?_;rw [Tryz.ntmps64];intro hwf;have hmb:=he.has (mb,(9,modC m)) (by simp);simp only [modC] at hmb;have gm : ∀ l,(St S [] l).get mb=some (9,[vl je m.types,vl jp m.imports,vl encF m.funcs,bH m.pages,bH m.most,vl jv m.globals,vl jr m.exports,bH m.start,vl jq m.datas]):=fun l=>(jk (jx hwf hmb)).trans hmb;refine bk ?_;refine XQ E ?_ (r:=by conv=>lhs;simp[QV,gm]);refine jb rfl ((alt wo tv htv (.func 66 [.ptr (lid S.nx 0) 0]) [(lid S.nx 0,(1,[.ptr wo 0]))] _ m.imports (fun x hx=>ans wo _ tv htv x (hm.im.2 x hx).1 (hm.im.2 x hx).2) (by have:=hm.im.1; omega)).at hwf hi (jbK (hi.lt hwf)) hb) ?_;rintro _ T1 ⟨⟨b1,h1⟩,rfl⟩;refine ja ?_;refine bk ?_;exact jn ⟨⟨b1,h1⟩,rfl⟩
theorem avw (wo mb:Nat) (tv:V) (htv:tv.nj1=true) (m:Mod) (hm:okM m):WrV Tryz.prog (.func 68 [.ptr mb 0]) [.ptr wo 0] wo tv [(mb,(9,modC m))] (qw jbH m.funcs):=by
 intro bo bs S E hi he hb;refine ⟨rfl, ?_⟩;refine jc (c:=jf Tryz.f68) Tryz.func68 rfl rfl (by simp [Tryz.ntmps68]) ?_;rw [Tryz.ntmps68];intro hwf;have hmb:=he.has (mb,(9,modC m)) (by simp);simp only [modC] at hmb;have gm : ∀ l,(St S [] l).get mb=some (9,[vl je m.types,vl jp m.imports,vl encF m.funcs,bH m.pages,bH m.most,vl jv m.globals,vl jr m.exports,bH m.start,vl jq m.datas]):=fun l=>(jk (jx hwf hmb)).trans hmb;refine bk ?_;refine XQ E ?_ (r:=by conv=>lhs;simp[QV,gm]);refine jb rfl ((abn wo tv htv (.func 70 [.ptr (lid S.nx 0) 0]) [(lid S.nx 0,(1,[.ptr wo 0]))] _ m.funcs (fun x hx=>avu wo _ tv htv x) (by have:=hm.fs.1; omega)).at hwf hi (jbK (hi.lt hwf)) hb) ?_;rintro _ T1 ⟨⟨b1,h1⟩,rfl⟩;refine ja ?_;refine bk ?_;exact jn ⟨⟨b1,h1⟩,rfl⟩
theorem avx (wo mb:Nat) (tv:V) (htv:tv.nj1=true) (m:Mod) (hm:okM m):WrV Tryz.prog (.func 72 [.ptr mb 0]) [.ptr wo 0] wo tv [(mb,(9,modC m))] (qw KA m.globals):=by
 intro bo bs S E hi he hb;refine ⟨rfl, ?_⟩;refine jc (c:=jf Tryz.f72) Tryz.func72 rfl rfl (by simp [Tryz.ntmps72]) ?_;rw [Tryz.ntmps72];intro hwf;have hmb:=he.has (mb,(9,modC m)) (by simp);simp only [modC] at hmb;have gm : ∀ l,(St S [] l).get mb=some (9,[vl je m.types,vl jp m.imports,vl encF m.funcs,bH m.pages,bH m.most,vl jv m.globals,vl jr m.exports,bH m.start,vl jq m.datas]):=fun l=>(jk (jx hwf hmb)).trans hmb;refine bk ?_;refine XQ E ?_ (r:=by conv=>lhs;simp[QV,gm]);refine jb rfl ((ajs wo tv htv (.func 74 [.ptr (lid S.nx 0) 0]) [(lid S.nx 0,(1,[.ptr wo 0]))] _ m.globals (fun x hx=>ano wo _ tv htv x) (by have:=hm.gl; omega)).at hwf hi (jbK (hi.lt hwf)) hb) ?_;rintro _ T1 ⟨⟨b1,h1⟩,rfl⟩;refine ja ?_;refine bk ?_;exact jn ⟨⟨b1,h1⟩,rfl⟩
theorem awr (wo mb:Nat) (tv:V) (htv:tv.nj1=true) (m:Mod) (hm:okM m):WrV Tryz.prog (.func 76 [.ptr mb 0]) [.ptr wo 0] wo tv [(mb,(9,modC m))] (qw Wq m.exports):=by
 intro bo bs S E hi he hb;refine ⟨rfl, ?_⟩;refine jc (c:=jf Tryz.f76) Tryz.func76 rfl rfl (by simp [Tryz.ntmps76]) ?_;rw [Tryz.ntmps76];intro hwf;have hmb:=he.has (mb,(9,modC m)) (by simp);simp only [modC] at hmb;have gm : ∀ l,(St S [] l).get mb=some (9,[vl je m.types,vl jp m.imports,vl encF m.funcs,bH m.pages,bH m.most,vl jv m.globals,vl jr m.exports,bH m.start,vl jq m.datas]):=fun l=>(jk (jx hwf hmb)).trans hmb;refine bk ?_;refine XQ E ?_ (r:=by conv=>lhs;simp[QV,gm]);refine jb rfl ((alq wo tv htv (.func 78 [.ptr (lid S.nx 0) 0]) [(lid S.nx 0,(1,[.ptr wo 0]))] _ m.exports (fun x hx=>aoq wo _ tv htv x (hm.ex.2 x hx)) (by have:=hm.ex.1; omega)).at hwf hi (jbK (hi.lt hwf)) hb) ?_;rintro _ T1 ⟨⟨b1,h1⟩,rfl⟩;refine ja ?_;refine bk ?_;exact jn ⟨⟨b1,h1⟩,rfl⟩
theorem at9 (wo mb:Nat) (tv:V) (htv:tv.nj1=true) (m:Mod) (hm:okM m):WrV Tryz.prog (.func 82 [.ptr mb 0]) [.ptr wo 0] wo tv [(mb,(9,modC m))] (qw jcp m.datas):=by
 intro bo bs S E hi he hb;refine ⟨rfl, ?_⟩;refine jc (c:=jf Tryz.f82) Tryz.func82 rfl rfl (by simp [Tryz.ntmps82]) ?_;rw [Tryz.ntmps82];intro hwf;have hmb:=he.has (mb,(9,modC m)) (by simp);simp only [modC] at hmb;have gm : ∀ l,(St S [] l).get mb=some (9,[vl je m.types,vl jp m.imports,vl encF m.funcs,bH m.pages,bH m.most,vl jv m.globals,vl jr m.exports,bH m.start,vl jq m.datas]):=fun l=>(jk (jx hwf hmb)).trans hmb;refine bk ?_;refine XQ E ?_ (r:=by conv=>lhs;simp[QV,gm]);refine jb rfl ((amk wo tv htv (.func 84 [.ptr (lid S.nx 0) 0]) [(lid S.nx 0,(1,[.ptr wo 0]))] _ m.datas (fun x hx=>avc wo _ tv htv x) (by have:=hm.da.1; omega)).at hwf hi (jbK (hi.lt hwf)) hb) ?_;rintro _ T1 ⟨⟨b1,h1⟩,rfl⟩;refine ja ?_;refine bk ?_;exact jn ⟨⟨b1,h1⟩,rfl⟩
theorem av6 (wo mb:Nat) (m:Mod) (hm:okM m) (hn : ∀ f∈m.funcs,nL f.body):WrV Tryz.prog (.func 80 [.ptr mb 0]) [.ptr wo 0] wo (vl je m.types) [(mb,(9,modC m))] (qw (qa m.types) m.funcs):=by
 intro bo bs S E hi he hb;refine ⟨rfl, ?_⟩;refine jc (c:=jf Tryz.f80) Tryz.func80 rfl rfl (by simp [Tryz.ntmps80]) ?_;rw [Tryz.ntmps80];intro hwf;have hmb:=he.has (mb,(9,modC m)) (by simp);simp only [modC] at hmb;have gm : ∀ l,(St S [] l).get mb=some (9,[vl je m.types,vl jp m.imports,vl encF m.funcs,bH m.pages,bH m.most,vl jv m.globals,vl jr m.exports,bH m.start,vl jq m.datas]):=fun l=>(jk (jx hwf hmb)).trans hmb;refine bk ?_;refine XQ E ?_ (r:=by conv=>lhs;simp[QV,gm]);refine jb rfl ((abn wo (vl je m.types) rfl (.meth 81 (.ptr wo 0)) [] (qa m.types) m.funcs (fun x hx bo bs S E i e b=>⟨rfl,aih wo m.types hm.ty.1 hm.ty.2 x (hm.fs.2 x hx) (hn x hx) bo bs S E i e b⟩) (by have:=hm.fs.1; omega)).at hwf hi (EnvW.nil _ _ _) hb) ?_;rintro _ T1 ⟨⟨b1,h1⟩,rfl⟩;refine ja ?_;refine bk ?_;exact jn ⟨⟨b1,h1⟩,rfl⟩
theorem au9 (wo mb:Nat) (tv:V) (htv:tv.nj1=true) (m:Mod):WrV Tryz.prog (.func 79 [.ptr mb 0]) [.ptr wo 0] wo tv [(mb,(9,modC m))] (Wx m):=by
 intro bo bs S E hi he hb;refine ⟨rfl, ?_⟩;refine jc (c:=jf Tryz.f79) Tryz.func79 rfl rfl (by simp [Tryz.ntmps79]) ?_;rw [Tryz.ntmps79];intro hwf;have hmb:=he.has (mb,(9,modC m)) (by simp);simp only [modC] at hmb;have gm : ∀ l,(St S [] l).get mb=some (9,[vl je m.types,vl jp m.imports,vl encF m.funcs,bH m.pages,bH m.most,vl jv m.globals,vl jr m.exports,bH m.start,vl jq m.datas]):=fun l=>(jk (jx hwf hmb)).trans hmb;by_cases c:0<=m.start
 .simp only [Wx,if_pos c] at hb ⊢;have c':m.start≥0:=c
  repeat first|refine QG ?_|refine QY ?_ (r:=by conv=>lhs;simp[QV,gm,c,c'])
  refine XQ E ?_ (r:=by conv=>lhs;simp[QV,gm]);refine jb rfl ((zF wo tv htv m.start).at hwf hi (EnvW.nil _ _ _) hb) ?_;rintro _ T1 ⟨⟨b1,h1⟩,rfl⟩;refine ja ?_;refine bk ?_;exact jn ⟨⟨b1,h1⟩,rfl⟩
 .simp only [Wx,if_neg c] at hb ⊢;have c' : ¬ m.start≥0:=c
  repeat first|refine QG ?_|refine QY ?_ (r:=by conv=>lhs;simp[QV,gm,c,c'])
  rw [jh hwf];exact jn ⟨⟨bo,by simpa using WP.refl hi⟩,rfl⟩
theorem avv (wo mb:Nat) (tv:V) (htv:tv.nj1=true) (m:Mod):WrV Tryz.prog (.func 71 [.ptr mb 0]) [.ptr wo 0] wo tv [(mb,(9,modC m))] (JP m):=by
 intro bo bs S E hi he hb;refine ⟨rfl, ?_⟩;refine jc (c:=jf Tryz.f71) Tryz.func71 rfl rfl (by simp [Tryz.ntmps71]) ?_;rw [Tryz.ntmps71];intro hwf;have hmb:=he.has (mb,(9,modC m)) (by simp);simp only [modC] at hmb;have gm : ∀ l,(St S [] l).get mb=some (9,[vl je m.types,vl jp m.imports,vl encF m.funcs,bH m.pages,bH m.most,vl jv m.globals,vl jr m.exports,bH m.start,vl jq m.datas]):=fun l=>(jk (jx hwf hmb)).trans hmb;by_cases c:0<=m.pages
 .simp only [JP,if_pos c,lA,qp,av,aF] at hb ⊢;have c':m.pages≥0:=c
  repeat first|refine QG ?_|refine QY ?_ (r:=by conv=>lhs;simp[QV,gm,c,c'])
  refine XQ E ?_ (r:=by conv=>lhs;simp[QV,gm]);refine jb rfl (Wu (k:=0) (ls:=[1,1]) hwf hi rfl (by simp only [av,aF]; omega)) ?_;rintro _ T1 ⟨⟨b1,h1⟩,rfl⟩;refine ja ?_;refine jD fun w1 => ?_;rw [<-jh w1];have e1:=he.go hwf h1;have m1:=e1.has (mb,(9,modC m)) (by simp);simp only [modC] at m1;have g1 : ∀ l,(St T1 [] l).get mb=_:=fun l=>(jk (jx w1 m1)).trans m1;refine bi g1 ?_;refine XQ E ?_ (r:=by conv=>lhs;simp[QV,g1]);refine jb rfl ((zF wo tv htv m.pages).at w1 h1.wi (EnvW.nil _ _ _) (by simp only [lA,qp,av,aF]; omega)) ?_;rintro _ T2 ⟨⟨b2,h2⟩,rfl⟩;refine ja ?_;refine jD fun w2 => ?_;rw [<-jh w2];have e2:=e1.go w1 h2;have m2:=e2.has (mb,(9,modC m)) (by simp);simp only [modC] at m2;have g2 : ∀ l,(St T2 [] l).get mb=_:=fun l=>(jk (jx w2 m2)).trans m2;refine bi g2 ?_;refine XQ E ?_ (r:=by conv=>lhs;simp[QV,g2]);refine jb rfl ((zF wo tv htv m.most).at w2 h2.wi (EnvW.nil _ _ _) (by simp only [lA,qp,av,aF]; omega)) ?_;rintro _ T3 ⟨⟨b3,h3⟩,rfl⟩;refine ja ?_
  refine bk ?_;exact jn ⟨⟨b3,by simpa using (h1.trans h2).trans h3⟩,rfl⟩
 .simp only [JP,if_neg c] at hb ⊢;have c' : ¬ m.pages≥0:=c
  repeat first|refine QG ?_|refine QY ?_ (r:=by conv=>lhs;simp[QV,gm,c,c'])
  rw [jh hwf];exact jn ⟨⟨bo,by simpa using WP.refl hi⟩,rfl⟩
theorem abj {n:Nat} {R:V->Store->Prop} {r:V} {S1 S2:Store} (h:Seen S1 S2) (hr:R r S2):zq n R r S1 :=
 ⟨r,S2,fun m β w v hS hv=>by
  obtain ⟨m',β',h1,h2⟩:=h m β w hS;exact ⟨m',β',h1,h2.toB n,h2.rep hv⟩,hr⟩
theorem KJ (mb ob id:Nat) (m:Mod) (g:V) (out:List Nat) (cells:List V) (S:Store) (E:EP) (hid:id<12) (hcl:cells.length=12) (hg : ∀ wo,WrV Tryz.prog g [.ptr wo 0] wo (vl je m.types) [(mb,(9,modC m))] out) (hout:out.length<=90000000000000)
  (hm:S.get mb=some (9,modC m)) (ho:S.get ob=some (12,cells)) (hne:mb≠ob):VCallsX Tryz.prog 58 [bH id,g, .ptr mb 0, .ptr ob 0] S (fun r T=>T.get ob=some (12,cells.set id (vl vb out))/\T.get mb=some (9,modC m)/\Kept S [ob] T/\r = .tuple []) E:=by
 refine jc (c:=jf Tryz.f58) Tryz.func58 rfl rfl (by simp [Tryz.ntmps58]) ?_;rw [Tryz.ntmps58];intro hwf;have lm:=jx hwf hm;have lo:=jx hwf ho;have hm':=hm;simp only [modC] at hm';have gm : ∀ l,(St S [] l).get mb=some (9,[vl je m.types,vl jp m.imports,vl encF m.funcs,bH m.pages,bH m.most,vl jv m.globals,vl jr m.exports,bH m.start,vl jq m.datas]):=fun l=>(jk lm).trans hm';refine bi gm ?_;obtain ⟨xo,hxo⟩ : ∃ xo,lid S.nx 0=xo:=⟨_,rfl⟩
 refine jD fun w0 => ?_;have x0:WI xo xo (vl je m.types) [] (St S [] [some (2,[vl je m.types,V.nils])]):=⟨.nils,by rw [<-hxo]; simp, .inl ⟨rfl,rfl,rfl⟩⟩
 have hk0:Kept S [ob] (St S [] [some (2,[vl je m.types,V.nils])]):=jN (by simp);have hm0:(St S [] [some (2,[vl je m.types,V.nils])]).get mb=some (9,modC m):=(jk lm).trans hm;have ho0:(St S [] [some (2,[vl je m.types,V.nils])]).get ob=some (12,cells):=(jk lo).trans ho;have nx:S.nx<=xo:=by rw [<-hxo]; simp [lid]
 have hn0:(St S [] [some (2,[vl je m.types,V.nils])]).nx=S.nx+1:=by rw [jH]; rfl
 generalize St S [] [some (2,[vl je m.types,V.nils])]=S1 at w0 x0 hk0 hm0 ho0 hn0 ⊢;rw [hxo];rw [<-jh w0];refine XQ E ?_;rw [jh w0];refine jV rfl rfl (hg xo xo [] S1 E x0 ⟨fun q hq=>by simp only [aM] at hq; subst hq; exact hm0,fun q hq=>by simp only [aM] at hq; subst hq; exact ⟨by omega,by omega⟩⟩ (by simpa using hout)) ?_;rintro _ T ⟨⟨b1,h1⟩,rfl⟩;rw [aZ] at h1;refine ja ?_;refine jD fun w1 => ?_;have hmT:T.get mb=some (9,modC m):=(h1.kept.2 mb (by omega) (by simp; omega)).trans hm0;have hoT:T.get ob=some (12,cells):=(h1.kept.2 ob (by omega) (by simp; omega)).trans ho0;have nb1:b1=xo\/S.nx<=b1:=by rcases h1.own with h | h<;>omega
 have hkT:Kept S [ob] T:=⟨aU hk0.1 h1.kept.1,fun o h hno=>by rw [h1.kept.2 o (by have:=hk0.1; omega) (by simp; omega)]; exact hk0.2 o h hno⟩
 obtain ⟨cell,hx1,hbc⟩:=h1.wi;have lx:=jx w1 hx1;have loT:=jx w1 hoT;have lmT:=jx w1 hmT;have gx : ∀ l,(St T [] l).get xo=some (2,[vl je m.types,cell]):=fun l=>(jk lx).trans hx1;have go : ∀ l,(St T [] l).get ob=some (12,cells):=fun l=>(jk loT).trans hoT;have uo : ∀ c l,(St T [] l).upd ob c=St T [(ob,some c)] l:=fun c l=>by rw [jT loT]; rfl
 have hid':(id:Int)<12:=by omega
 have hst : ∀ c:V,id+1<=cells.length:=fun _=>by omega
 have hone:cell.one=true:=by rcases hbc with ⟨rfl,_⟩ | ⟨rfl,_⟩<;>first | exact Zx | exact Kr _ _ _
 rw [<-jh w1];have hip : ∀ l,zN 12 1 (St T [] l) (.ptr ob 0) (.int .i64 (id:Int))=some (.ptr ob id):=fun l=>by
  simp only [zN,go];rw [if_pos ⟨rfl,by omega,by omega⟩];simp
 repeat first|refine QG ?_|refine QY ?_ (r:=by conv=>lhs;simp[QV,gx,go,uo,hip,hid,hid',hcl,hone])
 have gU : ∀ o,o<T.nx->o≠ob->(St T [(ob,some (12,cells.set id cell))] []).get o=T.get o:=fun o h1 h2=>by rw [jk h1]; simp [uGet,h2]
 have oU:(St T [(ob,some (12,cells.set id cell))] []).get ob=some (12,cells.set id cell):=by rw [jk loT]; simp [uGet]
 have nU:(St T [(ob,some (12,cells.set id cell))] []).nx=T.nx:=by rw [jH]; rfl
 have hgi:(cells.set id cell)[id]? = some cell:=by rw [List.getElem?_set_self (by omega)]
 have kU:Kept S [ob] (St T [(ob,some (12,cells.set id cell))] []):=hkT.trans (jN (by simp));have mne:mb≠ob:=hne;generalize St T [(ob,some (12,cells.set id cell))] []=U at gU oU nU kU ⊢;rcases hbc with ⟨rfl,rfl,rfl⟩ | ⟨rfl,hb,hbn⟩
 .refine abj (Seen.cell (i:=id) (Ghost.nl U) Zx oU hgi oU) ⟨?_, ?_, ?_,rfl⟩
  .rw [jQ,if_pos rfl,List.set_set]; rfl
  .rw [jQ,if_neg mne,gU mb lmT mne]; exact hmT
  .exact ⟨kU.1,fun o h hno=>by rw [jQ,if_neg (by simpa using hno)]; exact kU.2 o h hno⟩
 .have lb:=jx w1 hb;have nbo:b1≠ob:=by rcases nb1 with h | h<;>omega
  have nbm:b1≠mb:=by rcases nb1 with h | h<;>omega
  have hgf:Ghost (.slice b1 0 out.length) U (.list (out.map vb)) (U.del b1):=Ghost.freeze1 ((gU b1 lb nbo).trans hb) (YH vb (fun _=>rfl) _) (by simp);have hdo:(U.del b1).get ob=some (12,cells.set id (.slice b1 0 out.length)):=by rw [ZU,if_neg (Ne.symm nbo)]; exact oU
  refine abj (Seen.cell (i:=id) hgf (Kr _ _ _) oU hgi hdo) ⟨?_, ?_, ?_,rfl⟩
  .rw [jQ,if_pos rfl,List.set_set]; rfl
  .rw [jQ,if_neg mne,ZU,if_neg (Ne.symm nbm),gU mb lmT mne]; exact hmT
  .refine ⟨kU.1,fun o h hno => ?_⟩;have:o≠ob:=by simpa using hno
   rw [jQ,if_neg this,ZU,if_neg (by rcases nb1 with h' | h'<;>omega)];exact kU.2 o h hno
def WR (m:Mod):V := .agg [vl vb [],vl vb (secW m 1),vl vb (secW m 2),vl vb (secW m 3),vl vb [],vl vb (secW m 5),vl vb (secW m 6),vl vb (secW m 7),vl vb (secW m 8),vl vb [],vl vb (secW m 10),vl vb (secW m 11)]
theorem ai3 (m:Mod) (hm:okM m) (hn : ∀ f∈m.funcs,nL f.body) (hl : ∀ k,(secW m k).length<=90000000000000):bF 13 [jR m] (WR m):=by
 intro S;refine VCallsX.ok ?_;obtain ⟨E,hE⟩ : ∃ E:EP,(fun _ _=>False)=E:=⟨_,rfl⟩
 rw [hE];clear hE;refine qA (c:=jf Tryz.f13) Tryz.func13 rfl (by conv=>lhs; reduce) (by simp [Tryz.ntmps13]) ?_;rw [Tryz.ntmps13];intro hwf
 repeat first|refine QG ?_|refine QY ?_ (r:=by conv=>lhs;simp[QV,jR])
 obtain ⟨mb,hmb⟩ : ∃ mb,lid S.nx 0=mb:=⟨_,rfl⟩
 obtain ⟨o2,ho2⟩ : ∃ o2,lid S.nx 1=o2:=⟨_,rfl⟩
 obtain ⟨ob,hob⟩ : ∃ ob,lid S.nx 2=ob:=⟨_,rfl⟩
 have l1:S.nx<=mb:=by rw [<-hmb]; simp [lid]
 have l2:S.nx<=o2:=by rw [<-ho2]; simp [lid]
 have l3:S.nx<=ob:=by rw [<-hob]; simp [lid]
 have n1:mb≠ob:=by rw [<-hmb, <-hob]; simp [lid]
 have n2:o2≠ob:=by rw [<-ho2, <-hob]; simp [lid]
 have hk:Kept S [] (St S [] [some (9,modC m),some (12,[V.nils,V.nils,V.nils,V.nils,V.nils,V.nils,V.nils,V.nils,V.nils,V.nils,V.nils,V.nils]),some (12,[V.nils,V.nils,V.nils,V.nils,V.nils,V.nils,V.nils,V.nils,V.nils,V.nils,V.nils,V.nils])]):=jN (by simp);show VWp _ _ _ _ _ _ (St S [] [some (9,modC m),some (12,[V.nils,V.nils,V.nils,V.nils,V.nils,V.nils,V.nils,V.nils,V.nils,V.nils,V.nils,V.nils]),some (12,[V.nils,V.nils,V.nils,V.nils,V.nils,V.nils,V.nils,V.nils,V.nils,V.nils,V.nils,V.nils])]);have m0:(St S [] [some (9,modC m),some (12,[V.nils,V.nils,V.nils,V.nils,V.nils,V.nils,V.nils,V.nils,V.nils,V.nils,V.nils,V.nils]),some (12,[V.nils,V.nils,V.nils,V.nils,V.nils,V.nils,V.nils,V.nils,V.nils,V.nils,V.nils,V.nils])]).get mb=some (9,modC m):=by rw [<-hmb]; simp
 have p0:(St S [] [some (9,modC m),some (12,[V.nils,V.nils,V.nils,V.nils,V.nils,V.nils,V.nils,V.nils,V.nils,V.nils,V.nils,V.nils]),some (12,[V.nils,V.nils,V.nils,V.nils,V.nils,V.nils,V.nils,V.nils,V.nils,V.nils,V.nils,V.nils])]).get o2=some (12,[V.nils,V.nils,V.nils,V.nils,V.nils,V.nils,V.nils,V.nils,V.nils,V.nils,V.nils,V.nils]):=by rw [<-ho2]; simp
 have q0:(St S [] [some (9,modC m),some (12,[V.nils,V.nils,V.nils,V.nils,V.nils,V.nils,V.nils,V.nils,V.nils,V.nils,V.nils,V.nils]),some (12,[V.nils,V.nils,V.nils,V.nils,V.nils,V.nils,V.nils,V.nils,V.nils,V.nils,V.nils,V.nils])]).get ob=some (12,[V.nils,V.nils,V.nils,V.nils,V.nils,V.nils,V.nils,V.nils,V.nils,V.nils,V.nils,V.nils]):=by rw [<-hob]; simp
 rw [hmb,ho2,hob];generalize St S [] [some (9,modC m),some (12,[V.nils,V.nils,V.nils,V.nils,V.nils,V.nils,V.nils,V.nils,V.nils,V.nils,V.nils,V.nils]),some (12,[V.nils,V.nils,V.nils,V.nils,V.nils,V.nils,V.nils,V.nils,V.nils,V.nils,V.nils,V.nils])]=S1 at hk m0 p0 q0 ⊢;refine Jf (Seen.reach (Seen.likeL (cs':=[.list [], .list [], .list [], .list [], .list [], .list [], .list [], .list [], .list [], .list [], .list [], .list []]) q0 (by simp [likeL]))) ?_;have k0:Kept S [] (S1.upd ob (12,[.list [], .list [], .list [], .list [], .list [], .list [], .list [], .list [], .list [], .list [], .list [], .list []])):=⟨hk.1,fun o h hno=>by rw [jQ,if_neg (by omega)]; exact hk.2 o h hno⟩
 have m0:(S1.upd ob (12,[.list [], .list [], .list [], .list [], .list [], .list [], .list [], .list [], .list [], .list [], .list [], .list []])).get mb=some (9,modC m):=by rw [jQ,if_neg n1]; exact m0
 have p0:(S1.upd ob (12,[.list [], .list [], .list [], .list [], .list [], .list [], .list [], .list [], .list [], .list [], .list [], .list []])).get o2=some (12,[V.nils,V.nils,V.nils,V.nils,V.nils,V.nils,V.nils,V.nils,V.nils,V.nils,V.nils,V.nils]):=by rw [jQ,if_neg n2]; exact p0
 have q0:(S1.upd ob (12,[.list [], .list [], .list [], .list [], .list [], .list [], .list [], .list [], .list [], .list [], .list [], .list []])).get ob=some (12,[.list [], .list [], .list [], .list [], .list [], .list [], .list [], .list [], .list [], .list [], .list [], .list []]):=by rw [jQ,if_pos rfl]
 generalize S1.upd ob (12,[.list [], .list [], .list [], .list [], .list [], .list [], .list [], .list [], .list [], .list [], .list [], .list []])=T0 at k0 m0 p0 q0 ⊢;refine jD fun w0 => ?_;rw [<-jh w0];refine bk ?_;refine XQ E ?_;rw [jh w0];refine jV rfl rfl (show zp Tryz.prog (.func 58 [.ptr mb 0, .ptr ob 0]) [bH 1, .func 59 [.ptr mb 0]] T0 _ E from ⟨rfl,KJ mb ob 1 m (.func 59 [.ptr mb 0]) (secW m 1) [.list [], .list [], .list [], .list [], .list [], .list [], .list [], .list [], .list [], .list [], .list [], .list []] T0 E (by omega) rfl (fun wo=>avd wo mb _ rfl m hm) (hl 1) m0 q0 n1⟩) ?_;rintro _ T1 ⟨q1,m1,h1,rfl⟩;simp only [am,ao] at q1;refine ja ?_;refine jD fun w1 => ?_;have k1:Kept S [] T1:=⟨aU k0.1 h1.1,fun o h hno=>by rw [h1.2 o (aK h k0.1) (by simp; omega)]; exact k0.2 o h hno⟩
 have p1:=(h1.2 o2 (jx w0 p0) (by simp; exact n2)).trans p0;rw [<-jh w1];refine bk ?_;refine XQ E ?_;rw [jh w1];refine jV rfl rfl (show zp Tryz.prog (.func 58 [.ptr mb 0, .ptr ob 0]) [bH 2, .func 64 [.ptr mb 0]] T1 _ E from ⟨rfl,KJ mb ob 2 m (.func 64 [.ptr mb 0]) (secW m 2) [.list [],vl vb (secW m 1), .list [], .list [], .list [], .list [], .list [], .list [], .list [], .list [], .list [], .list []] T1 E (by omega) rfl (fun wo=>awv wo mb _ rfl m hm) (hl 2) m1 q1 n1⟩) ?_;rintro _ T2 ⟨q2,m2,h2,rfl⟩;simp only [am,ao] at q2;refine ja ?_;refine jD fun w2 => ?_;have k2:Kept S [] T2:=⟨aU k1.1 h2.1,fun o h hno=>by rw [h2.2 o (aK h k1.1) (by simp; omega)]; exact k1.2 o h hno⟩
 have p2:=(h2.2 o2 (jx w1 p1) (by simp; exact n2)).trans p1;rw [<-jh w2];refine bk ?_;refine XQ E ?_;rw [jh w2];refine jV rfl rfl (show zp Tryz.prog (.func 58 [.ptr mb 0, .ptr ob 0]) [bH 3, .func 68 [.ptr mb 0]] T2 _ E from ⟨rfl,KJ mb ob 3 m (.func 68 [.ptr mb 0]) (secW m 3) [.list [],vl vb (secW m 1),vl vb (secW m 2), .list [], .list [], .list [], .list [], .list [], .list [], .list [], .list [], .list []] T2 E (by omega) rfl (fun wo=>avw wo mb _ rfl m hm) (hl 3) m2 q2 n1⟩) ?_;rintro _ T3 ⟨q3,m3,h3,rfl⟩;simp only [am,ao] at q3;refine ja ?_;refine jD fun w3 => ?_;have k3:Kept S [] T3:=⟨aU k2.1 h3.1,fun o h hno=>by rw [h3.2 o (aK h k2.1) (by simp; omega)]; exact k2.2 o h hno⟩
 have p3:=(h3.2 o2 (jx w2 p2) (by simp; exact n2)).trans p2;rw [<-jh w3];refine bk ?_;refine XQ E ?_;rw [jh w3];refine jV rfl rfl (show zp Tryz.prog (.func 58 [.ptr mb 0, .ptr ob 0]) [bH 5, .func 71 [.ptr mb 0]] T3 _ E from ⟨rfl,KJ mb ob 5 m (.func 71 [.ptr mb 0]) (secW m 5) [.list [],vl vb (secW m 1),vl vb (secW m 2),vl vb (secW m 3), .list [], .list [], .list [], .list [], .list [], .list [], .list [], .list []] T3 E (by omega) rfl (fun wo=>avv wo mb _ rfl m) (hl 5) m3 q3 n1⟩) ?_;rintro _ T4 ⟨q4,m4,h4,rfl⟩;simp only [am,ao] at q4;refine ja ?_;refine jD fun w4 => ?_;have k4:Kept S [] T4:=⟨aU k3.1 h4.1,fun o h hno=>by rw [h4.2 o (aK h k3.1) (by simp; omega)]; exact k3.2 o h hno⟩
 have p4:=(h4.2 o2 (jx w3 p3) (by simp; exact n2)).trans p3;rw [<-jh w4];refine bk ?_;refine XQ E ?_;rw [jh w4];refine jV rfl rfl (show zp Tryz.prog (.func 58 [.ptr mb 0, .ptr ob 0]) [bH 6, .func 72 [.ptr mb 0]] T4 _ E from ⟨rfl,KJ mb ob 6 m (.func 72 [.ptr mb 0]) (secW m 6) [.list [],vl vb (secW m 1),vl vb (secW m 2),vl vb (secW m 3), .list [],vl vb (secW m 5), .list [], .list [], .list [], .list [], .list [], .list []] T4 E (by omega) rfl (fun wo=>avx wo mb _ rfl m hm) (hl 6) m4 q4 n1⟩) ?_;rintro _ T5 ⟨q5,m5,h5,rfl⟩;simp only [am,ao] at q5;refine ja ?_;refine jD fun w5 => ?_;have k5:Kept S [] T5:=⟨aU k4.1 h5.1,fun o h hno=>by rw [h5.2 o (aK h k4.1) (by simp; omega)]; exact k4.2 o h hno⟩
 have p5:=(h5.2 o2 (jx w4 p4) (by simp; exact n2)).trans p4;rw [<-jh w5];refine bk ?_;refine XQ E ?_;rw [jh w5];refine jV rfl rfl (show zp Tryz.prog (.func 58 [.ptr mb 0, .ptr ob 0]) [bH 7, .func 76 [.ptr mb 0]] T5 _ E from ⟨rfl,KJ mb ob 7 m (.func 76 [.ptr mb 0]) (secW m 7) [.list [],vl vb (secW m 1),vl vb (secW m 2),vl vb (secW m 3), .list [],vl vb (secW m 5),vl vb (secW m 6), .list [], .list [], .list [], .list [], .list []] T5 E (by omega) rfl (fun wo=>awr wo mb _ rfl m hm) (hl 7) m5 q5 n1⟩) ?_;rintro _ T6 ⟨q6,m6,h6,rfl⟩;simp only [am,ao] at q6;refine ja ?_;refine jD fun w6 => ?_;have k6:Kept S [] T6:=⟨aU k5.1 h6.1,fun o h hno=>by rw [h6.2 o (aK h k5.1) (by simp; omega)]; exact k5.2 o h hno⟩
 have p6:=(h6.2 o2 (jx w5 p5) (by simp; exact n2)).trans p5;rw [<-jh w6];refine bk ?_;refine XQ E ?_;rw [jh w6];refine jV rfl rfl (show zp Tryz.prog (.func 58 [.ptr mb 0, .ptr ob 0]) [bH 8, .func 79 [.ptr mb 0]] T6 _ E from ⟨rfl,KJ mb ob 8 m (.func 79 [.ptr mb 0]) (secW m 8) [.list [],vl vb (secW m 1),vl vb (secW m 2),vl vb (secW m 3), .list [],vl vb (secW m 5),vl vb (secW m 6),vl vb (secW m 7), .list [], .list [], .list [], .list []] T6 E (by omega) rfl (fun wo=>au9 wo mb _ rfl m) (hl 8) m6 q6 n1⟩) ?_;rintro _ T7 ⟨q7,m7,h7,rfl⟩;simp only [am,ao] at q7;refine ja ?_;refine jD fun w7 => ?_;have k7:Kept S [] T7:=⟨aU k6.1 h7.1,fun o h hno=>by rw [h7.2 o (aK h k6.1) (by simp; omega)]; exact k6.2 o h hno⟩
 have p7:=(h7.2 o2 (jx w6 p6) (by simp; exact n2)).trans p6;rw [<-jh w7];refine bk ?_;refine XQ E ?_;rw [jh w7];refine jV rfl rfl (show zp Tryz.prog (.func 58 [.ptr mb 0, .ptr ob 0]) [bH 10, .func 80 [.ptr mb 0]] T7 _ E from ⟨rfl,KJ mb ob 10 m (.func 80 [.ptr mb 0]) (secW m 10) [.list [],vl vb (secW m 1),vl vb (secW m 2),vl vb (secW m 3), .list [],vl vb (secW m 5),vl vb (secW m 6),vl vb (secW m 7),vl vb (secW m 8), .list [], .list [], .list []] T7 E (by omega) rfl (fun wo=>av6 wo mb m hm hn) (hl 10) m7 q7 n1⟩) ?_;rintro _ T8 ⟨q8,m8,h8,rfl⟩;simp only [am,ao] at q8;refine ja ?_;refine jD fun w8 => ?_;have k8:Kept S [] T8:=⟨aU k7.1 h8.1,fun o h hno=>by rw [h8.2 o (aK h k7.1) (by simp; omega)]; exact k7.2 o h hno⟩
 have p8:=(h8.2 o2 (jx w7 p7) (by simp; exact n2)).trans p7;rw [<-jh w8];refine bk ?_;refine XQ E ?_;rw [jh w8];refine jV rfl rfl (show zp Tryz.prog (.func 58 [.ptr mb 0, .ptr ob 0]) [bH 11, .func 82 [.ptr mb 0]] T8 _ E from ⟨rfl,KJ mb ob 11 m (.func 82 [.ptr mb 0]) (secW m 11) [.list [],vl vb (secW m 1),vl vb (secW m 2),vl vb (secW m 3), .list [],vl vb (secW m 5),vl vb (secW m 6),vl vb (secW m 7),vl vb (secW m 8), .list [],vl vb (secW m 10), .list []] T8 E (by omega) rfl (fun wo=>at9 wo mb _ rfl m hm) (hl 11) m8 q8 n1⟩) ?_;rintro _ T9 ⟨q9,m9,h9,rfl⟩;simp only [am,ao] at q9;refine ja ?_;refine jD fun w9 => ?_;have k9:Kept S [] T9:=⟨aU k8.1 h9.1,fun o h hno=>by rw [h9.2 o (aK h k8.1) (by simp; omega)]; exact k8.2 o h hno⟩
 have p9:=(h9.2 o2 (jx w8 p8) (by simp; exact n2)).trans p8;have lo:=jx w9 q9;have lp:=jx w9 p9;have go : ∀ l,(St T9 [] l).get ob=some (12,[.list [],vl vb (secW m 1),vl vb (secW m 2),vl vb (secW m 3), .list [],vl vb (secW m 5),vl vb (secW m 6),vl vb (secW m 7),vl vb (secW m 8), .list [],vl vb (secW m 10),vl vb (secW m 11)]):=fun l=>(jk lo).trans q9;have gp : ∀ l,(St T9 [] l).get o2=some (12,[V.nils,V.nils,V.nils,V.nils,V.nils,V.nils,V.nils,V.nils,V.nils,V.nils,V.nils,V.nils]):=fun l=>(jk lp).trans p9;have up : ∀ c l,(St T9 [] l).upd o2 c=St T9 [(o2,some c)] l:=fun c l=>by rw [jT lp]; rfl
 have g2 : ∀ c l,(St T9 [(o2,some c)] l).get o2=some c:=fun c l=>by rw [jk lp]; simp [uGet]
 rw [<-jh w9]
 repeat first|refine QG ?_|refine QY ?_ (r:=by conv=>lhs;simp[QV,go,gp,up])
 have kf : ∀ c,Kept S [] (St T9 [(o2,some c)] []):=fun c=>⟨by have:=k9.1; rw [jH]; simp only [lid]; omega,fun o h hno=>by rw [jk (by have:=k9.1; omega)]; simp only [uGet]; rw [if_neg (by omega)]; exact k9.2 o h hno⟩
 obtain ⟨l,hl⟩:=aat (kf (12,[.list [],vl vb (secW m 1),vl vb (secW m 2),vl vb (secW m 3), .list [],vl vb (secW m 5),vl vb (secW m 6),vl vb (secW m 7),vl vb (secW m 8), .list [],vl vb (secW m 10),vl vb (secW m 11)])) (fun o h=>YJ h);refine ⟨[WR m], ?_, ?_⟩
 .simp [resL,qC,Jk,g2,WR]
  rfl
 .show zq S.nx _ (WR m) _;rw [show St T9 [(o2,some (12,[.list [],vl vb (secW m 1),vl vb (secW m 2),vl vb (secW m 3), .list [],vl vb (secW m 5),vl vb (secW m 6),vl vb (secW m 7),vl vb (secW m 8), .list [],vl vb (secW m 10),vl vb (secW m 11)]))] []=St S [] l from hl];exact jd hwf rfl (by simp [WR])
end Go.Vw
namespace Wm
def jcZ (a b:Mod):Bool:=few a&&few b&&decide (a.pages=b.pages)&&decide (a.most=b.most)&&decide (a.start=b.start)&&Go.Vw.eqF (fun x y=>decide (x=y)) a.types b.types&&decide (a.imports=b.imports)&&decide (a.globals=b.globals)&&decide (a.exports=b.exports)&&Go.Vw.eqF jec a.funcs b.funcs&&Go.Vw.eqF (fun x y=>decide (x=y)) a.datas b.datas
end Wm
namespace Go.Vw
open Go.Proofs Go.RowKit Wm
attribute [-simp] List.map_set
theorem agu (a b:Mod) (ha:okM a) (hb:okM b):bF 8 [jR a,jR b] (.bool (jcZ a b)):=by
 intro S;have q1:=aci a ha;have q2:=aci b hb;obtain ⟨f1,hf1⟩ : ∃ f,few a=f:=⟨_,rfl⟩
 obtain ⟨f2,hf2⟩ : ∃ f,few b=f:=⟨_,rfl⟩
 rw [hf1] at q1;rw [hf2] at q2;obtain ⟨x1,x2,x3,x4,x5,x6,x7,x8,x9⟩:=a;obtain ⟨y1,y2,y3,y4,y5,y6,y7,y8,y9⟩:=b;obtain ⟨⟨k1,k2⟩,⟨k3,k4⟩,⟨k5,k6⟩,k7,⟨k8,k9⟩,k10,k11⟩:=ha;have j4:=hb.im.2;have j9:=hb.ex.2;simp only at k1 k2 k3 k4 k5 k6 k7 k8 k9 k10 k11 j4 j9;have q3:=aqu x1 y1 (fun x y=>decide (x=y)) 21 rfl (by omega) (fun _ k h1 _=>jcY _ _ (k2 _ (ah h1)));have q4:=atg x2 y2 (by omega) k4 j4;have q5:=asd x6 y6 (by omega);have q6:=at7 x7 y7 (by omega) k9 j9;have q7:=ao1 x3 y3 jec 26 rfl (by omega) (fun _ k h1 _=>as5 _ _ (k6 _ (ah h1)));have q8:=aoc x9 y9 (fun x y=>decide (x=y)) 31 rfl (by omega) (fun _ k h1 _=>atq _ _ (k11 _ (ah h1)).1);obtain ⟨f3,hf3⟩ : ∃ f,eqF (fun x y=>decide (x=y)) x1 y1=f:=⟨_,rfl⟩
 rw [hf3] at q3;obtain ⟨f4,hf4⟩ : ∃ f,decide (x2=y2)=f:=⟨_,rfl⟩
 rw [hf4] at q4;obtain ⟨f5,hf5⟩ : ∃ f,decide (x6=y6)=f:=⟨_,rfl⟩
 rw [hf5] at q5;obtain ⟨f6,hf6⟩ : ∃ f,decide (x7=y7)=f:=⟨_,rfl⟩
 rw [hf6] at q6;obtain ⟨f7,hf7⟩ : ∃ f,eqF jec x3 y3=f:=⟨_,rfl⟩
 rw [hf7] at q7;obtain ⟨f8,hf8⟩ : ∃ f,eqF (fun x y=>decide (x=y)) x9 y9=f:=⟨_,rfl⟩
 rw [hf8] at q8;simp only [jR] at q1 q2 ⊢;have hs:jcZ ⟨x1,x2,x3,x4,x5,x6,x7,x8,x9⟩ ⟨y1,y2,y3,y4,y5,y6,y7,y8,y9⟩=(f1&&f2&&decide (x4=y4)&&decide (x5=y5)&&decide (x8=y8)&&f3&&f4&&f5&&f6&&f7&&f8):=by
  unfold jcZ;rw [hf1,hf2];simp only [hf3,hf4,hf5,hf6,hf7,hf8]
 rw [hs];clear hs;refine bE Tryz.func8 Tryz.ntmps8 fun hwf=>?_;refine bk ?_;refine QP ?_;refine jA rfl q1 ?_;by_cases h1:f1=true
 .refine bv h1 ?_;refine jA rfl q2 ?_;by_cases h2:f2=true
  .by_cases p1:x4=y4
   .by_cases p2:x5=y5
    .by_cases p3:x8=y8
     .refine QM (by conv=>lhs;simp[QV,h2,p1,p2,p3]) ?_;refine jA rfl q3 ?_;by_cases h3:f3=true
      .refine bv h3 ?_;refine jA rfl q4 ?_;by_cases h4:f4=true
       .refine bv h4 ?_;refine jA rfl q5 ?_;by_cases h5:f5=true
        .refine bv h5 ?_;refine jA rfl q6 ?_;by_cases h6:f6=true
         .refine bv h6 ?_;refine jA rfl q7 ?_;by_cases h7:f7=true
          .refine bv h7 ?_;refine jA rfl q8 ?_;by_cases h8:f8=true
           .refine bv h8 ?_;refine bA ?_;exact jd hwf (by simp [h1,h2,p1,p2,p3,h3,h4,h5,h6,h7,h8]) rfl
           .have h8:f8=false:=by simpa using h8
            refine bv h8 ?_;refine bA ?_;exact jd hwf (by simp [h8]) rfl
          .have h7:f7=false:=by simpa using h7
           refine bv h7 ?_;refine bA ?_;exact jd hwf (by simp [h7]) rfl
         .have h6:f6=false:=by simpa using h6
          refine bv h6 ?_;refine bA ?_;exact jd hwf (by simp [h6]) rfl
        .have h5:f5=false:=by simpa using h5
         refine bv h5 ?_;refine bA ?_;exact jd hwf (by simp [h5]) rfl
       .have h4:f4=false:=by simpa using h4
        refine bv h4 ?_;refine bA ?_;exact jd hwf (by simp [h4]) rfl
      .have h3:f3=false:=by simpa using h3
       refine bv h3 ?_;refine bA ?_;exact jd hwf (by simp [h3]) rfl
     .refine QM (by conv=>lhs;simp[QV,h2,p1,p2,p3]) ?_;refine bA ?_;exact jd hwf (by simp [p3]) rfl
    .refine QM (by conv=>lhs;simp[QV,h2,p1,p2]) ?_;refine bA ?_;exact jd hwf (by simp [p2]) rfl
   .refine QM (by conv=>lhs;simp[QV,h2,p1]) ?_;refine bA ?_;exact jd hwf (by simp [p1]) rfl
  .have h2:f2=false:=by simpa using h2
   refine bv h2 ?_;refine bA ?_;exact jd hwf (by simp [h2]) rfl
 .have h1:f1=false:=by simpa using h1
  refine bv h1 ?_;refine bA ?_;exact jd hwf (by simp [h1]) rfl
end Go.Vw
namespace Wm
def ZN (m:Mod) (k:Nat):List Nat:=if (secW m k).length=0 then [] else k::(uW (secW m k).length++secW m k)
def zG (m:Mod) (k:Nat):List Nat:=magic++(List.range k).flatMap (ZN m)
def qz (m:Mod):List Nat:=zG m 12
theorem JL (m:Mod) (k:Nat):zG m (k+1)=zG m k++ZN m k:=by
 simp [zG,List.range_succ]
def zm (m:Mod):List Nat × Int:=if few m=false then ([],6)
 else if (qo (qz m)).2=(0,0,0)/\jcZ (qo (qz m)).1 m=true then (qz m,0) else ([],6)
theorem jO {a b:List Nat} (ha:bytes a) (hb:bytes b):bytes (a++b):=fun c hc=>by
 rcases az.1 hc with h | h
 .exact ha c h
 .exact hb c h
theorem qv {x:Nat} {b:List Nat} (hx:x<256) (hb:bytes b):bytes (x::b):=fun c hc=>by
 rcases aE.1 hc with rfl | h
 .exact hx
 .exact hb c h
theorem qJ:bytes []:=fun _ h=>by cases h
theorem ZH {α:Type} {f:α->List Nat} : ∀ {l:List α},(∀ x∈l,bytes (f x))->bytes (l.flatMap f)
 | [],_=>qJ
 | x::xs,h=>by rw [List.flatMap_cons]; exact jO (h x (by simp)) (ZH fun y hy=>h y (by simp [hy]))
theorem jbd (last:Int->Bool) : ∀ (f:Nat) (n:Int),bytes (lebZ last f n)
 | 0,n=>qv (by omega) qJ
 | f+1,n=>by
  simp only [lebZ];split
  .exact qv (by omega) qJ
  .exact qv (by omega) (jbd last f _)
theorem jgf (n:Int):bytes (uW n):=jbd _ _ _
theorem jdS (n:Int):bytes (sW n):=jbd _ _ _
theorem qk (n:Int):bytes (jS n):=jbd _ _ _
theorem Kw (l:List Int):bytes (putW l):=fun c hc=>by
 simp only [putW,List.mem_map] at hc;obtain ⟨x,_,rfl⟩:=hc;omega
theorem Kf {α:Type} {f:α->List Nat} {l:List α} (h : ∀ x∈l,bytes (f x)):bytes (qw f l):=by
 simp only [qw];split
 .exact qJ
 .exact jO (qk _) (ZH h)
theorem jdR (t:Int) (n:Nat):bytes (KC t n):=by
 simp only [KC];split
 .exact qv (by omega) (jO (jdS _) (qv (by omega) qJ))
 .exact qv (by omega) (jO (jdS _) (qv (by omega) qJ))
theorem aoi (tys:List Sig) (s:Sig):bytes (btW tys s):=by
 simp only [btW];split
 .exact Kw _
 .split
  .exact qv (by omega) qJ
  .exact jdS _
mutual
theorem amd (tys:List Sig) : ∀ x:Ins,bytes (insW tys x)
 | .mk op n m ty body els he ts=>by
  simp only [insW];refine jO (Kw _) ?_;split
  .exact jO (jgf _) (jgf _)
  .split
   .refine jO (aoi _ _) (jO (ZI tys body) (jO ?_ (qv (by omega) qJ)));split
    .exact qv (by omega) (ZI tys els)
    .exact qJ
   .split
    .exact jgf _
    .split
     .exact jO (qk _) (ZH fun x _=>qk x)
     .split
      .exact qv (by omega) qJ
      .split
       .exact jdS _
       .split
        .exact jdS _
        .exact qJ
theorem ZI (tys:List Sig) : ∀ l:List Ins,bytes (zg tys l)
 | []=>qJ
 | x::xs=>by simp only [zg]; exact jO (amd tys x) (ZI tys xs)
end
theorem akh {m:Mod} (h:okM m) (k:Nat):bytes (secW m k):=by
 unfold secW;split
 .exact Kf fun x _=>qv (by omega) (jO (qk _) (jO (Kw _) (jO (qk _) (Kw _))))
 .exact Kf fun x hx=>jO (jO (qk _) (h.im.2 x hx).1) (jO (jO (qk _) (h.im.2 x hx).2) (qv (by omega) (qk _)))
 .exact Kf fun x _=>qk _
 .simp only [JP];split
  .exact jO (Kw _) (jO (qk _) (qk _))
  .exact qJ
 .exact Kf fun x _=>jO (Kw _) (jdR _ _)
 .exact Kf fun x hx=>jO (jO (qk _) (h.ex.2 x hx)) (jO (Kw _) (qk _))
 .simp only [Wx];split
  .exact qk _
  .exact qJ
 .refine Kf fun x _=>jO (qk _) (jO (qk _) (jO (ZH fun _ _=>Kw _) (jO (ZI _ _) (qv (by omega) qJ))))
 .exact Kf fun x hx=>qv (by omega) (jO (jdR _ _) (jO (qk _) (h.da.2 x hx).2))
 .exact qJ
theorem jgg {m:Mod} (h:okM m) : ∀ k,k<=12->bytes (zG m k)
 | 0,_=>fun c hc=>by simp [zG,magic] at hc; omega
 | k+1,hk=>by
  rw [JL];refine jO (jgg h k (by omega)) ?_;simp only [ZN];split
  .exact qJ
  .exact qv (by omega) (jO (jgf _) (akh h k))
def Reads {α:Type} (p:Rd α) (w:List Nat) (x:α):Prop := ∀ pre post:List Nat,p (pre++(w++post)) pre.length = .ok (x,pre.length+w.length)
theorem Reads.bind {α β:Type} {p:Rd α} {f:α->Rd β} {w1 w2:List Nat} {x:α} {y:β} (h:Reads p w1 x) (k:Reads (f x) w2 y):Reads (p >>= f) (w1++w2) y:=by
 intro pre post;rw [Rd.bind_apply,List.append_assoc,h pre (w2++post)];have:=k (pre++w1) post;rw [List.append_assoc,List.length_append] at this;simp only [this,List.length_append];rw [Nat.add_assoc]
theorem Reads.bind' {α β:Type} {p:Rd α} {f:α->Rd β} {w1 w2:List Nat} {x:α} {y:β} (h:Reads p w1 x) (k:Reads (f x) w2 y):Reads (Rd.bind p f) (w1++w2) y:=Reads.bind h k
theorem Reads.pure {α:Type} (x:α):Reads (Rd.pure x) [] x:=fun pre post=>rfl
theorem Reads.pure' {α:Type} (x:α):Reads (Pure.pure x) [] x:=fun pre post=>rfl
theorem Reads.end' {α β:Type} {p:Rd α} {f:α->Rd β} {w:List Nat} {x:α} {y:β} (h:Reads p w x) (k:Reads (f x) [] y):Reads (p >>= f) w y:=by
 have:=Reads.bind h k
 rwa [List.append_nil] at this
theorem JI (c:Nat):Reads byte1 [c] c:=by
 intro pre post;simp only [byte1];rw [if_neg (by simp)];simp [af]
theorem Ko {c:Bool} {e:Int} {k:Nat} (h:c=false):Reads (zE c e k) [] ():=by
 intro pre post;subst h
 rfl
theorem Jp {l:List Int} {c:Nat} (h:(c:Int)∈l):Reads (one l) [c] c:=by
 refine Reads.end' (JI c) ?_;refine Reads.end' (w:=[]) (Ko (by simp [h])) ?_;exact Reads.pure' c
theorem jbx (P c acc i:Nat) (hP:P=2^i) (h:acc<P):acc ||| c*P=acc+c*P:=by
 subst hP;have:=Nat.two_pow_add_eq_or_of_lt h c;rw [Nat.or_comm,Nat.mul_comm c, <-this,Nat.add_comm]
theorem Yh (last:Int->Bool) (f:Nat) (x:Int):lebZ last (f+1) x=if last x then [(x % 128).toNat] else ((x % 128).toNat+128)::lebZ last f (x / 128):=rfl
theorem pow7 (i:Nat):2^(7*(i+1))=2^(7*i)*128:=by rw [Nat.mul_add,Nat.pow_add]
theorem as1 (len at':Nat) : ∀ (k i x acc:Nat) (post:List Nat),i+k=4->x*2^(7*i)<4294967296->acc<2^(7*i) ->
  lebGo mayU 32 len at' (lebZ jai (k+5) (x:Int)++post) i acc = .ok (acc+x*2^(7*i),at'+i+(lebZ jai (k+5) (x:Int)).length):=by
 intro k
 induction k with
 | zero =>
  intro i x acc post hi hx ha;have hi:i=4:=by omega
  subst hi;have hx:x<16:=by omega
  have hl:jai (x:Int)=true:=by simp [jai]; omega
  have hm:(((x:Int) % 128).toNat)=x:=by omega
  rw [Yh,if_pos hl,hm,List.singleton_append,lebGo,if_neg,if_pos (by omega)]
  .rw [show x % 128=x by omega,Nat.mod_eq_of_lt (by omega),jbx _ x acc (7*4) rfl ha]
   rfl
  .rintro ⟨_,h | h⟩
   .omega
   .simp [mayU] at h; omega
 | succ k ih =>
  intro i x acc post hi hx ha;have hno : ¬ (32<=7*i+7/\(127<(0:Nat)\/True)):=by omega
  have hp:=pow7 i;obtain ⟨P,hP⟩ : ∃ P,2^(7*i)=P:=⟨_,rfl⟩
  have hP4:P<=2097152:=by
   rw [<-hP];exact aU (Nat.pow_le_pow_right (by omega) (show 7*i<=21 by omega)) (by decide)
  have hP0:0<P:=by rw [<-hP]; exact Nat.pow_pos (by omega)
  rw [hP] at hx ha hp ⊢;rw [show k+1+5=(k+5)+1 from rfl,Yh];have hc:(x % 128)*P % 18446744073709551616=(x % 128)*P:=Nat.mod_eq_of_lt (by
   have:x % 128*P<=127*P:=Nat.mul_le_mul_right _ (by omega);omega)
  by_cases hl:jai (x:Int)=true
  .have hx1:x<128:=by simp [jai] at hl; omega
   have hm:(((x:Int) % 128).toNat)=x:=by omega
   rw [if_pos hl,hm,List.singleton_append,lebGo,if_neg (by omega),if_pos (by omega),hP,hc,jbx P _ acc (7*i) hP.symm ha,show x % 128=x by omega]
   rfl
  .have hm:(((x:Int) % 128).toNat)=x % 128:=by omega
   have hd:(x:Int) / 128=((x / 128:Nat):Int):=by omega
   rw [if_neg hl,hm,aY,lebGo,if_neg (by omega),if_neg (by omega),show (x % 128+128) % 128=x % 128 by omega,hP,hc,jbx P _ acc (7*i) hP.symm ha,hd];have e:=Nat.div_add_mod x 128;have e2:x / 128*(P*128)+x % 128*P=x*P:=by
    rw [<-Nat.mul_assoc,Nat.mul_right_comm, <-Nat.add_mul,Nat.mul_comm (x / 128),e]
   have h1:=ih (i+1) (x / 128) (acc+x % 128*P) post (by omega) (by rw [hp]; omega) (by
    rw [hp];have:x % 128*P<=127*P:=Nat.mul_le_mul_right _ (by omega);omega)
   rw [h1,hp];refine congrArg _ (Prod.ext ?_ ?_)
   .show acc+x % 128*P+x / 128*(P*128)=acc+x*P;omega
   .simp only [av]; omega
theorem am6 (x:Nat) (hx:x<4294967296) (pre post:List Nat):lebU (pre++(uW x++post)) pre.length 32 = .ok (x,pre.length+(uW x).length):=by
 unfold lebU;rw [List.drop_left];have:=as1 (pre++(uW x++post)).length pre.length 4 0 x 0 post rfl (by simpa using hx) (by simp);simpa [uW] using this
theorem Zb {x most:Nat} {e:Int} (hx:x<4294967296) (h:x<=most):Reads (u most e) (uW x) x:=by
 intro pre post;simp only [u,am6 x hx];rw [if_neg (by omega)]
theorem qW (n:Nat) (h:n<18446744073709551616):jS n=uW n:=by
 unfold jS
 congr 1
 omega
theorem qY {x:Nat} (hx:x<4294967296):Reads index (uW x) x:=Zb hx (by omega)
theorem awh {V:Int} {k:Nat} (h0:1<=k) (h1:k<=10) (h2 : -9223372036854775808<=V/\V<9223372036854775808) (h3 : -((2^(7*k-1):Nat):Int)<=V/\V<((2^(7*k-1):Nat):Int)):sgn (V % ((2^(min (7*k) 64):Nat):Int)).toNat (7*k)=V:=by
 have hk:k=1\/k=2\/k=3\/k=4\/k=5\/k=6\/k=7\/k=8\/k=9\/k=10:=by omega
 have key : ∀ (s M H:Int),0<s->s*M=18446744073709551616->2*H=M -> -H<=V->V<H->(((((V % M).toNat:Int)*s+9223372036854775808) % 18446744073709551616-9223372036854775808).fdiv s)=V:=by
  intro s M H hs hM hH h4 h5;have hM0:0<M:=by
   rcases Int.lt_or_le 0 M with h | h
   .exact h
   .have:=Int.mul_nonpos_of_nonneg_of_nonpos (Int.le_of_lt hs) h;omega
  have e1:(((V % M).toNat:Nat):Int)=V % M:=Int.toNat_of_nonneg (Int.emod_nonneg _ (by omega));rw [e1,Int.fdiv_eq_ediv_of_nonneg _ (by omega)];have hHs:s*H=9223372036854775808:=by
   have:s*(2*H)=18446744073709551616:=by rw [hH,hM]
   have e:s*(2*H)=2*(s*H):=by rw [Int.mul_left_comm]
   omega
  have hb1 : -(9223372036854775808:Int)<=s*V:=by
   have:=Int.mul_le_mul_of_nonneg_left h4 (Int.le_of_lt hs);rw [Int.mul_neg] at this;omega
  have hb2:s*V<9223372036854775808:=by
   have:=Int.mul_lt_mul_of_pos_left h5 hs;omega
  have e2:((V % M)*s+9223372036854775808) % 18446744073709551616-9223372036854775808=s*V:=by
   have e3:(V % M)*s=s*V-18446744073709551616*(V / M):=by
    have:=Int.mul_ediv_add_emod V M;have e4:V % M=V-M*(V / M):=by omega
    rw [e4,Int.sub_mul,Int.mul_comm V s,Int.mul_right_comm,Int.mul_comm M s,hM]
   rw [e3];generalize V / M=q at *
   omega
  rw [e2,Int.mul_comm,Int.mul_ediv_cancel _ (by omega)]
 unfold sgn;rcases hk with rfl | rfl | rfl | rfl | rfl | rfl | rfl | rfl | rfl | rfl
 all_goals simp only [i64] at h3 ⊢
 .rw [if_pos (by decide)]; simpa using key 144115188075855872 128 64 (by decide) (by decide) (by decide) h3.1 h3.2
 .rw [if_pos (by decide)]; simpa using key 1125899906842624 16384 8192 (by decide) (by decide) (by decide) h3.1 h3.2
 .rw [if_pos (by decide)]; simpa using key 8796093022208 2097152 1048576 (by decide) (by decide) (by decide) h3.1 h3.2
 .rw [if_pos (by decide)]; simpa using key 68719476736 268435456 134217728 (by decide) (by decide) (by decide) h3.1 h3.2
 .rw [if_pos (by decide)]; simpa using key 536870912 34359738368 17179869184 (by decide) (by decide) (by decide) h3.1 h3.2
 .rw [if_pos (by decide)]; simpa using key 4194304 4398046511104 2199023255552 (by decide) (by decide) (by decide) h3.1 h3.2
 .rw [if_pos (by decide)]; simpa using key 32768 562949953421312 281474976710656 (by decide) (by decide) (by decide) h3.1 h3.2
 .rw [if_pos (by decide)]; simpa using key 256 72057594037927936 36028797018963968 (by decide) (by decide) (by decide) h3.1 h3.2
 .rw [if_pos (by decide)]; simpa using key 2 9223372036854775808 4611686018427387904 (by decide) (by decide) (by decide) h3.1 h3.2
 .rw [if_neg (by decide),show ((2^(min (7*10) 64):Nat):Int)=18446744073709551616 from rfl];have e1:(((V % 18446744073709551616).toNat:Nat):Int)=V % 18446744073709551616:=by omega
  rw [e1];omega
theorem may4 (y:Int) (h1 : -8<=y) (h2:y<8):mayS (y % 128).toNat 4=true:=by
 have:y = -8\/y = -7\/y = -6\/y = -5\/y = -4\/y = -3\/y = -2\/y = -1\/y=0\/y=1\/y=2\/y=3\/y=4\/y=5\/y=6\/y=7:=by omega
 rcases this with rfl | rfl | rfl | rfl | rfl | rfl | rfl | rfl | rfl | rfl | rfl | rfl | rfl | rfl | rfl | rfl<;>decide
theorem ak6 (V:Int) (P:Nat) (hP:0<P):V % ((P*128:Nat):Int)=(V / (P:Int)) % 128*P+V % (P:Int):=by
 have h1:=Int.mul_ediv_add_emod V (P:Int);have h2:=Int.mul_ediv_add_emod (V / (P:Int)) 128;have h3:=Int.emod_nonneg V (b:=(P:Int)) (by omega);have h4:=Int.emod_lt_of_pos V (b:=(P:Int)) (by omega);generalize V / (P:Int)=y at *
 generalize V % (P:Int)=r at *
 have k:(P:Int)*y=(P:Int)*128*(y / 128)+y % 128*P:=by
  have:(P:Int)*y=(P:Int)*(128*(y / 128)+y % 128):=by rw [h2]
  rw [this,Int.mul_add,Int.mul_assoc,Int.mul_comm (P:Int) (y % 128)]
 have e:V=(y % 128*P+r)+((P*128:Nat):Int)*(y / 128):=by
  rw [Int.natCast_mul];have k':(P:Int)*((128:Nat):Int)*(y / 128)=(P:Int)*128*(y / 128):=rfl;rw [k', <-h1,k];omega
 have hb:y % 128*(P:Int)<=127*P:=Int.mul_le_mul_of_nonneg_right (by omega) (by omega);have hb0:0<=y % 128*(P:Int):=Int.mul_nonneg (by omega) (by omega);rw [e,Int.add_mul_emod_self_left,Int.emod_eq_of_lt (by omega) (by rw [Int.natCast_mul]; omega)]
theorem ata (size len at':Nat) (V:Int) (hs:size=32 /\ -2147483648<=V/\V<2147483648\/size=64 /\ -9223372036854775808<=V/\V<9223372036854775808) : ∀ (f i:Nat) (post:List Nat),f+i=9->(size=32->i<=4) ->
  1<=(lebZ Wl f (V / ((2^(7*i):Nat):Int))).length/\i+(lebZ Wl f (V / ((2^(7*i):Nat):Int))).length<=10 /\
  lebGo mayS size len at' (lebZ Wl f (V / ((2^(7*i):Nat):Int))++post) i (V % ((2^(7*i):Nat):Int)).toNat = .ok ((V % ((2^(min (7*(i+(lebZ Wl f (V / ((2^(7*i):Nat):Int))).length)) 64):Nat):Int)).toNat,at'+i+(lebZ Wl f (V / ((2^(7*i):Nat):Int))).length) /\
  -((2^(7*(i+(lebZ Wl f (V / ((2^(7*i):Nat):Int))).length)-1):Nat):Int)<=V/\V<((2^(7*(i+(lebZ Wl f (V / ((2^(7*i):Nat):Int))).length)-1):Nat):Int):=by
 intro f
 induction f with
 | zero =>
  intro i post hi h32;have hi:i=9:=by omega
  subst hi;have hs:size=64 /\ -9223372036854775808<=V/\V<9223372036854775808:=by
   rcases hs with ⟨h,_⟩ | h
   .have:=h32 h; omega
   .exact h
  obtain ⟨rfl,h1,h2⟩:=hs;rw [show ((2^(7*9):Nat):Int)=9223372036854775808 from rfl];simp only [lebZ,List.length_singleton,List.singleton_append];have hy:V / 9223372036854775808 = -1\/V / 9223372036854775808=0:=by omega
  refine ⟨by omega,by omega, ?_, ?_, ?_⟩
  .rw [lebGo,show ((2^(min (7*(9+1)) 64):Nat):Int)=18446744073709551616 from rfl,show 2^(7*9)=9223372036854775808 from rfl];have hr:(V % 9223372036854775808).toNat<9223372036854775808:=by omega
   rcases hy with hy | hy
   .rw [hy,show ((-1:Int) % 128).toNat=127 from rfl,if_neg (by rintro ⟨_,h | h⟩<;>revert h<;>decide),if_pos (by decide)];rw [show 127 % 128*9223372036854775808 % 18446744073709551616=1*9223372036854775808 from rfl,jbx _ 1 _ 63 rfl hr];refine congrArg _ (Prod.ext ?_ rfl);show _=_;omega
   .rw [hy,show ((0:Int) % 128).toNat=0 from rfl,if_neg (by rintro ⟨_,h | h⟩<;>revert h<;>decide),if_pos (by decide)];rw [show 0 % 128*9223372036854775808 % 18446744073709551616=0*9223372036854775808 from rfl,jbx _ 0 _ 63 rfl hr];refine congrArg _ (Prod.ext ?_ rfl);show _=_;omega
  .rw [show ((2^(7*(9+1)-1):Nat):Int)=590295810358705651712 from rfl]; omega
  .rw [show ((2^(7*(9+1)-1):Nat):Int)=590295810358705651712 from rfl]; omega
 | succ f ih =>
  intro i post hi h32;have hp:=pow7 i;have hq:2^(7*(i+1)-1)=2^(7*i)*64:=by rw [show 7*(i+1)-1=7*i+6 by omega,Nat.pow_add]
  have hPi:i=4->2^(7*i)=268435456:=by rintro rfl; rfl
  have hP8:2^(7*i)<=72057594037927936:=aU (Nat.pow_le_pow_right (by omega) (show 7*i<=56 by omega)) (by decide);have hP0:0<2^(7*i):=Nat.pow_pos (by omega);have hr:=ih (i+1) post (by omega);rw [hp] at hr;generalize hPe:2^(7*i)=P at *
  have hPs:=hPe.symm;have e0:=ak6 V P hP0;have h1:=Int.mul_ediv_add_emod V (P:Int);have h3:=Int.emod_nonneg V (b:=(P:Int)) (by omega);have h4:=Int.emod_lt_of_pos V (b:=(P:Int)) (by omega);have ed:V / ((P*128:Nat):Int)=V / (P:Int) / 128:=by rw [Int.natCast_mul,Int.ediv_ediv_of_nonneg (by omega)]; rfl
  rw [ed,e0] at hr;have hc:(V / (P:Int) % 128).toNat*P % 18446744073709551616=(V / (P:Int) % 128).toNat*P:=Nat.mod_eq_of_lt (by
   have:(V / (P:Int) % 128).toNat*P<=127*P:=Nat.mul_le_mul_right _ (by omega);omega)
  have hacc:(V % (P:Int)).toNat ||| (V / (P:Int) % 128).toNat*P=(V / (P:Int) % 128*P+V % (P:Int)).toNat:=by
   rw [jbx P _ _ (7*i) hPs (by omega)];have e1:(((V / (P:Int) % 128).toNat*P:Nat):Int)=V / (P:Int) % 128*P:=by rw [Int.natCast_mul,Int.toNat_of_nonneg (by omega)]
   omega
  have hend:Wl (V / (P:Int))=true ↔ -64<=V / (P:Int)/\V / (P:Int)<64:=by
   simp only [Wl,aX,beq_iff_eq]; omega
  have hy4:size=32/\i=4 -> -8<=V / (P:Int)/\V / (P:Int)<8:=by
   rintro ⟨hs1,hi4⟩;have hPv:=hPi hi4;rcases hs with ⟨_,k1,k2⟩ | ⟨k,_⟩
   .subst hPv;constructor<;>omega
   .omega
  rw [Yh];by_cases hl:Wl (V / (P:Int))=true
  .have hl2:=hend.1 hl;simp only [if_pos hl,List.length_singleton,List.singleton_append];have hbd : -((P*64:Nat):Int)<=V/\V<((P*64:Nat):Int):=by
    have k1:=Int.mul_le_mul_of_nonneg_left hl2.1 (show (0:Int)<=P by omega);have k2:=Int.mul_le_mul_of_nonneg_left (show V / (P:Int)<=63 by omega) (show (0:Int)<=P by omega);constructor<;>omega
   refine ⟨by omega,by omega, ?_,by rw [hq]; exact hbd.1,by rw [hq]; exact hbd.2⟩;rw [lebGo,if_neg,if_pos (by omega),hPe,show (V / (P:Int) % 128).toNat % 128=(V / (P:Int) % 128).toNat by omega,hc,hacc,show min (7*(i+1)) 64=7*(i+1) by omega,hp,e0];rintro ⟨k1,k2 | k2⟩
   .omega
   .rcases hs with ⟨rfl,_⟩ | ⟨rfl,_⟩
    .have hi4:i=4:=by have:=h32 rfl; omega
     have:=hy4 ⟨rfl,hi4⟩;rw [hi4,show 32-7*4=4 from rfl,may4 _ this.1 this.2] at k2;cases k2
    .omega
  .have hl2 : ¬ (-64<=V / (P:Int)/\V / (P:Int)<64):=fun h=>hl (hend.2 h);have hno : ¬ (size<=7*i+7):=by
    intro k1;rcases hs with ⟨rfl,_⟩ | ⟨rfl,_⟩
    .have hi4:i=4:=by have:=h32 rfl; omega
     have:=hy4 ⟨rfl,hi4⟩;omega
    .omega
   obtain ⟨r1,r2,r3,r4,r5⟩:=hr (fun h=>by rcases hs with ⟨rfl,_⟩ | ⟨rfl,_⟩<;>omega);simp only [if_neg hl,av,aY];rw [show i+((lebZ Wl f (V / (P:Int) / 128)).length+1)=i+1+(lebZ Wl f (V / (P:Int) / 128)).length by omega];refine ⟨by omega,by omega, ?_,r4,r5⟩;rw [lebGo,if_neg (fun h=>hno h.1),if_neg (by omega),hPe,show ((V / (P:Int) % 128).toNat+128) % 128=(V / (P:Int) % 128).toNat by omega,hc,hacc,r3];refine congrArg _ (Prod.ext rfl ?_);show _=_;omega
theorem aay {size:Nat} {V:Int} (hs:size=32 /\ -2147483648<=V/\V<2147483648\/size=64 /\ -9223372036854775808<=V/\V<9223372036854775808):Reads (sInt size) (sW V) V:=by
 intro pre post;have h:=ata size (pre++(sW V++post)).length pre.length V hs 9 0 post rfl (by omega);simp only [Nat.mul_zero,Nat.pow_zero,Int.natCast_one,Int.ediv_one,Int.emod_one,aS,Nat.add_zero] at h;obtain ⟨h1,h2,h3,h4,h5⟩:=h;simp only [sInt,lebS];rw [List.drop_left];have h3':lebGo mayS size (pre++(sW V++post)).length pre.length (sW V++post) 0 0 = .ok ((V % ((2^(min (7*(sW V).length) 64):Nat):Int)).toNat,pre.length+(sW V).length):=h3;rw [h3'];simp only [Nat.add_sub_cancel_left];have h6:sgn (V % ((2^(min (7*(sW V).length) 64):Nat):Int)).toNat (7*(sW V).length)=V:=awh h1 h2 (by omega) ⟨h4,h5⟩;rw [h6]
end Wm
