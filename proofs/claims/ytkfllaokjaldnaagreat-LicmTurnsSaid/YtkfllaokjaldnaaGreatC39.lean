import Derived.Test.YtkfllaokjaldnaaGreatC37
import Derived.Test.YtkfllaokjaldnaaGreatC38
import Derived.Test.YtkfllaokjaldnaaGreatC28
import Derived.Test.YtkfllaokjaldnaaGreatC34
import Derived.Test.YtkfllaokjaldnaaGreatC30
import Derived.Test.YtkfllaokjaldnaaGreatC25
/-
  Part of the proof (texts LRMade, LRMoves, LRFirst, LThaw).
-/
set_option linter.unusedVariables false
set_option linter.unusedSimpArgs false
namespace Ss
def rDefB (d:Def):Int:=if d.made then d.block else -1
def madeI (f:Fn):List Int:=((defsOf f).getD []).map rDefB
end Ss
namespace Go.Vw
open Go.Proofs Go.RowKit
set_option maxRecDepth 10000
set_option maxHeartbeats 4000000
theorem RMade_v (f:Ss.Fn) (hf:f.Fits) (hts:f.types.length≤1048576) {ds:List Ss.Def} (hds:Ss.defsOf f=some ds) (hdl:ds.length=f.types.length):VPure Tryz.prog 62 [qD f] (vl vint (ds.map Ss.rDefB)):=by
 intro S;have cd:=Defs_v f hf hts;rw [hds] at cd;rw [←hdl] at hts;clear hds hdl hf;obtain ⟨⟨fi,fo⟩,ts,bs⟩:=f;have cd':VPure Tryz.prog 44 [.agg [vl vint fi,vl vint fo,vl vint ts,vl jd bs]] (.tuple [vl jY ds, .bool true]):=cd;refine jb (c:=jg Tryz.f62) Tryz.func62 rfl rfl (by simp [Tryz.ntmps62]) ?_;rw [Tryz.ntmps62];intro hwf
 repeat refine QS ?_
 refine QY ?_;refine QH 1 0 ?_
 repeat refine QS ?_
 refine QP ?_;refine jc (cd') (by rfl) ?_;refine QW ?_;refine jE [3] (by conv=>lhs; simp [Fr.only,Fr.look]) ?_;refine zp [] hwf (by decide) (by simp [-List.map_set]) (by conv=>lhs; simp [-List.map_set]) (by conv=>lhs; simp [-List.map_set]) (by conv=>lhs; simp [-List.map_set]) ?_
 repeat refine QS ?_
 refine QY ?_;refine qW 5 1 rfl (by conv=>lhs; simp [Fr.set]) ?_
 repeat first|refine QG ?_|refine QY ?_
 repeat refine QS ?_
 refine je [3,5,6] rfl (fun c σ S' => ∃ (k:Nat) (out:List Int),k≤ds.length∧out=(ds.take k).map Ss.rDefB∧out.length=k∧c=ds.length-k∧σ=[(3,vl jY ds),(5, .slice (lid S.nx 0) 0 k),(6,vnat k)]∧S'=St S [] [some (1,out.map vint)]) ds.length ?_ ?_
 ·exact ⟨0,[],by omega,rfl,rfl,rfl,by simp [Fr.only,Fr.look],by simp⟩
 ·rintro c σ T ⟨k,out,hk,hout,hol,rfl,rfl,rfl⟩
  by_cases hkt:k<ds.length
  ·have hw:=jo hkt (by omega);have hxi : ∀ S',qm 2 S' (vl jY ds) (V.int .i64 (k:Int))=some (.ref (jY ds[k])):=fun S'=>Jy rfl (by rw [List.getElem?_eq_getElem hkt])
   have hd1:out++[Ss.rDefB ds[k]]=(ds.take (k+1)).map Ss.rDefB:=by
    rw [List.take_add_one,List.getElem?_eq_getElem hkt,List.map_append, ←hout]; rfl
   generalize ds[k]=d at hxi hd1;have he:jY d = .agg [vint (Ss.rDefB d),vint (if d.made then d.pos else 0)]:=rfl;rw [he] at hxi;generalize Ss.rDefB d=q at *
   subst hol;have hb8:(out.length+1)*8≤140737488355328:=by omega
   have hb1:out.length+1≤140737488355328:=by omega
   repeat first|refine QG ?_|refine QY ?_ (r:=by conv=>lhs;simp[-List.map_set,QV,hkt,hxi,hw,hb8,hb1])
   refine QA [2] (h:=⟨?_,out.length+1,out++[q],hkt,hd1,by simp,rfl,by simp [Fr.only,Fr.look],by simp⟩);omega
  ·have hke:k=ds.length:=by omega
   subst hke;rw [List.take_length] at hout;rw [←hout]
   repeat first|refine QG ?_|refine QY ?_ (r:=by conv=>lhs;simp[-List.map_set,QV,hkt])
   exact ji hwf ((frz1 (by simp) (by rfl) (jG vint (fun _=>rfl) _) (by simpa using hol)).toB _) rfl
end Go.Vw

namespace Ss
def rHome (ds:List Def) (v:Int):Int:=(ds.map rDefB).getD v.toNat 0
end Ss
namespace Go.Vw
open Go.Proofs Go.RowKit
set_option maxRecDepth 10000
set_option maxHeartbeats 4000000
end Go.Vw

namespace Ss
theorem rHome_home {e:Env} {f:Fn} (h:check e f=true) {ds:List Def} (hds:defsOf f=some ds) : ∀ b∈f.blocks, ∀ x∈b.code, ∀ a∈x.args,rHome ds a=homeOf f a:=by
 intro b hb x hx a ha;have hin:=(check_dok h).args b hb x hx a ha;obtain ⟨hdl,_⟩:=defs_in hds;obtain ⟨_,ds',hds',_,hbs⟩:=check_spec h;rw [hds] at hds'
 cases hds'
 obtain ⟨j,hj⟩:=List.mem_iff_getElem?.1 hb;obtain ⟨k,hk⟩:=List.mem_iff_getElem?.1 hx;obtain ⟨c1,_⟩:=qG hbs hj;have hins:=zo c1 hk;simp only [insOk,Bool.and_eq_true] at hins;obtain ⟨t,ht⟩:=jaC hins.2 a ha;simp only [askOk,Bool.and_eq_true,decide_eq_true_eq] at ht;obtain ⟨⟨⟨⟨q1,q2⟩,q3⟩,q4⟩,q5⟩:=ht;have hm:a.toNat<ds.length:=by have:=hin.1; have:=hin.2; omega
 have q4:(ds.getD a.toNat default).made=true:=q4;rw [List.getD_eq_getElem?_getD,List.getElem?_eq_getElem hm,Option.getD_some] at q4;rw [rHome,List.getD_eq_getElem?_getD,List.getElem?_map,List.getElem?_eq_getElem hm,homeOf,hds,Option.getD_some,List.getD_eq_getElem?_getD,List.getElem?_eq_getElem hm];simp [rDefB,q4]
theorem rFirst_eq {e:Env} {f:Fn} (h:check e f=true) {ds:List Def} (hds:defsOf f=some ds):first f.blocks (rHome ds) (lps f.blocks)=first f.blocks (homeOf f) (lps f.blocks):=by
 refine Wm (fun n x hx a ha => ?_) _;have hb:f.blocks.getD n default∈f.blocks∨f.blocks.getD n default=default:=by
  rw [List.getD_eq_getElem?_getD]
  cases hn:f.blocks[n]? with
  | none=>exact .inr rfl
  | some b=>exact .inl (List.mem_of_getElem? hn)
 rcases hb with hb | hb
 ·exact rHome_home h hds _ hb x hx a ha
 ·rw [hb] at hx
  cases hx
end Ss
namespace Go.Vw
open Go.Proofs Go.RowKit
set_option maxRecDepth 10000
set_option maxHeartbeats 4000000
def YZ:Option (Nat × Nat × Nat)→V
 | none => .tuple [vint 0,vint 0,vint 0, .bool false]
 | some m => .tuple [vnat m.1,vnat m.2.1,vnat m.2.2, .bool true]
theorem RFirst_v (e:Ss.Env) (f:Ss.Fn) (hf:f.Fits) (hc:Ss.check e f=true):VPure Tryz.prog 34 [qD f] (YZ (Ss.first f.blocks (Ss.homeOf f) (Ss.lps f.blocks))):=by
 intro S;obtain ⟨_,ds,hds,_,_⟩:=Ss.check_spec hc;rw [←Ss.rFirst_eq hc hds];obtain ⟨hdl,_⟩:=Ss.defs_in hds;have hs:=Ss.check_small hc;have hd:=Ss.check_dok hc;have hgr:=Ss.graphic hc;have hsm:=(Ss.small_iff f).1 hs;have hh:=hsm.1;simp only [Ss.Fn.heads,Bool.and_eq_true,decide_eq_true_eq] at hh;obtain ⟨⟨⟨hh1,hh2⟩,_⟩,_⟩:=hh;have csu:=RSucc_v f hf hs;have clo:=RLoopsAll_v (Ss.succs f.blocks) (jbf hf);have hlp:G.loopsI (Ss.succs f.blocks)=Ss.lps f.blocks:=by rw [G.loopsI,hgr.right,if_pos rfl]; rfl
 rw [hlp] at clo;have hlpl:(Ss.lps f.blocks).length≤256:=by rw [←hlp]; exact G.loopsI_len _
 have hlpn : ∀ l∈Ss.lps f.blocks,l.2.length≤256:=by rw [←hlp]; exact G.loopsI_nodes _
 have hlpb : ∀ l∈Ss.lps f.blocks, ∀ n∈l.2,n<f.blocks.length:=fun l hl n hn=>by
  obtain ⟨a1,a2,a3,a4⟩:=G.heads hgr.ok _ (Nat.le_refl _) l hl;have:=a3 n hn;rw [Ss.nats_succs_len] at this; exact this
 have cma:=RMade_v f hf (by omega) hds hdl;have cpo:=fun hd nd h=>RPorch_v f hf hd nd h
 have hpoe : ∀ hd nd,Ss.porchF f hd nd=Ss.porch f.blocks hd nd:=fun hd nd=>by rw [Ss.porchF,if_pos hs]
 have hgb2:=(qd hs).2.2.1;have hargs:=hd.args;have hfb:=hf.2.2.2;have hgb1:=hh2;generalize Ss.lps f.blocks=lp at *
 generalize Ss.succs f.blocks=sc at *
 generalize G.err sc=ge at *
 rw [←hdl] at hargs;clear hc hgr hsm hd hlp hds hs hh1 hh2 hdl;obtain ⟨⟨fi,fo⟩,ts,bs⟩:=f;simp only at *
 have csu':VPure Tryz.prog 20 [.agg [vl vint fi,vl vint fo,vl vint ts,vl jd bs]] (vl (vl vint) sc):=csu;have cma':VPure Tryz.prog 62 [.agg [vl vint fi,vl vint fo,vl vint ts,vl jd bs]] (vl vint (ds.map Ss.rDefB)):=cma;have cpo' : ∀ hd nd,nd.length<2^63→VPure Tryz.prog 21 [.agg [vl vint fi,vl vint fo,vl vint ts,vl jd bs],vint hd,vl vint nd] (WG (Ss.porch bs hd nd)):=fun hd nd h=>by
  rw [←hpoe]; exact cpo hd nd h
 clear csu cma cpo;obtain ⟨L,hL⟩ : ∃ L,L=ds.map Ss.rDefB:=⟨_,rfl⟩
 rw [←hL] at cma';have hLl:L.length=ds.length:=by rw [hL,List.length_map]
 obtain ⟨R,hR⟩ : ∃ R,R=Ss.first bs (Ss.rHome ds) lp:=⟨_,rfl⟩
 rw [←hR];refine jb (c:=jg Tryz.f34) Tryz.func34 rfl rfl (by simp [Tryz.ntmps34]) ?_;rw [Tryz.ntmps34];intro hwf
 repeat refine QS ?_
 refine QY ?_;refine QH 1 0 ?_
 repeat refine QS ?_
 refine QP ?_;refine jc (csu') (by rfl) ?_;refine jn rfl (clo) ?_;refine QW ?_
 repeat refine QS ?_
 refine QP ?_;refine jc (cma') (by rfl) ?_;refine QW ?_;refine jE [1,6,8] (by conv=>lhs; simp [Fr.only,Fr.look]) ?_;refine zp [] hwf (by decide) (by simp [-List.map_set]) (by conv=>lhs; simp [-List.map_set]) (by conv=>lhs; simp [-List.map_set]) (by conv=>lhs; simp [-List.map_set]) ?_
 repeat first|refine QG ?_|refine QY ?_
 repeat refine QS ?_
 refine je [1,6,8,9] rfl (fun c σ S' => ∃ (k:Nat),k≤lp.length∧c=lp.length-k∧Ss.first bs (Ss.rHome ds) (lp.drop k)=R∧σ=[(1,(V.agg [vl vint fi,vl vint fo,vl vint ts,vl jd bs]).ref),(6,vl jB lp),(8,vl vint L),(9,vnat k)]∧S'=St S [] []) lp.length ?_ ?_
 ·exact ⟨0,by omega,rfl,hR.symm,by simp [Fr.only,Fr.look],by simp⟩
 ·rintro c σ T ⟨k,hk,rfl,hfk,rfl,rfl⟩
  by_cases hkt:k<lp.length
  ·have hw:=jo hkt (by omega);have hlm:lp[k]∈lp:=List.getElem_mem hkt;have hln:=hlpn _ hlm;have hlb:=hlpb _ hlm;rw [List.drop_eq_getElem_cons hkt,Ss.first] at hfk;obtain ⟨⟨hed,nodes⟩,hlk⟩ : ∃ l,lp[k]=l:=⟨_,rfl⟩
   rw [hlk] at hfk hln hlb;simp only at hfk hln hlb;have hoi : ∀ S',qm 2 S' (vl jB lp) (V.int .i64 (k:Int))=some (.ref (.agg [vnat hed,vl vnat nodes])):=fun S'=>by
    have:=Jy (S:=S') (enc:=jB) (l:=lp) (k := .i64) (i:=k) (x:=(hed,nodes)) (s:=2) rfl (by rw [List.getElem?_eq_getElem hkt,hlk]);simpa [jB] using this
   have cpo2:=cpo' (hed:Int) (nodes.map Int.ofNat) (by rw [List.length_map]; omega);rw [←vl_nat] at cpo2;obtain ⟨po,hpo⟩ : ∃ po,po=Ss.porch bs (hed:Int) (nodes.map Int.ofNat):=⟨_,rfl⟩
   rw [←hpo] at hfk cpo2
   repeat refine QS ?_
   refine QY ?_ (r:=by conv=>lhs;simp[-List.map_set,QV,hkt])
   repeat refine QS ?_
   refine jH rfl rfl rfl ?_
   repeat refine QS ?_
   refine jD rfl ?_
   repeat refine QS ?_
   refine jL 1 rfl rfl ?_
   repeat refine QS ?_
   refine QY ?_ (r:=by conv=>lhs;simp[-List.map_set,QV,hoi]);refine QH 10 0 ?_
   repeat refine QS ?_
   refine QP ?_;refine jc (cpo2) (by rfl) ?_
   cases po with
   | none =>
    simp only at hfk;simp only [WG];refine QW ?_
    repeat first|refine QG ?_|refine QY ?_ (r:=by conv=>lhs;simp[-List.map_set,QV,hw])
    refine QA [] (h:=⟨?_,k+1,hkt,rfl,hfk,by simp [Fr.only,Fr.look],by simp⟩);omega
   | some p =>
    simp only at hfk;obtain ⟨pn,bp,hpn,_⟩:=Ss.porch_spec hpo.symm;subst hpn;rw [Int.toNat_natCast] at hfk;simp only [WG];refine QW ?_
    repeat first|refine QG ?_|refine QY ?_
    refine jE [1,6,8,9,10,11,13] (by conv=>lhs; simp [Fr.only,Fr.look]) ?_;refine zp [] hwf (by decide) (by simp [-List.map_set]) (by conv=>lhs; simp [-List.map_set]) (by conv=>lhs; simp [-List.map_set]) (by conv=>lhs; simp [-List.map_set]) ?_;obtain ⟨fB,hfB⟩ : ∃ q,q=Ss.firstB bs (Ss.rHome ds) nodes nodes:=⟨_,rfl⟩
    rw [←hfB] at hfk
    repeat refine QS ?_
    refine je [1,6,8,9,10,11,13] rfl (fun c σ S' => ∃ (j:Nat),j≤nodes.length∧c=nodes.length-j∧Ss.firstB bs (Ss.rHome ds) nodes (nodes.drop j)=fB∧σ=[(1,(V.agg [vl vint fi,vl vint fo,vl vint ts,vl jd bs]).ref),(6,vl jB lp),(8,vl vint L),(9,vnat k),(10,(V.agg [vnat hed,vl vnat nodes]).ref),(11,vnat pn),(13,vnat j)]∧S'=St S [] []) nodes.length ?_ ?_
    ·exact ⟨0,by omega,rfl,hfB.symm,by simp [Fr.only,Fr.look],by simp⟩
    ·rintro c σ T ⟨j,hj,rfl,hfj,rfl,rfl⟩
     by_cases hjt:j<nodes.length
     ·have hwj:=jo hjt (by omega);rw [List.drop_eq_getElem_cons hjt,Ss.firstB] at hfj;obtain ⟨n,hn⟩ : ∃ n,nodes[j]=n:=⟨_,rfl⟩
      have hnb:n<bs.length:=hn▸hlb _ (List.getElem_mem hjt);rw [hn] at hfj;have hgd:bs.getD n default=bs[n]:=by rw [List.getD_eq_getElem?_getD,List.getElem?_eq_getElem hnb]; rfl
      rw [hgd] at hfj;have hcn:=(hgb2 _ (List.getElem_mem hnb)).2.2.2;have hab:=hargs _ (List.getElem_mem hnb);have hfbn:=(hfb _ (List.getElem_mem hnb)).2.1;obtain ⟨⟨ps,code,tm⟩,hbn⟩ : ∃ b,bs[n]=b:=⟨_,rfl⟩
      rw [hbn] at hfj hcn hab hfbn;obtain ⟨tm1,tm2,tm3,tm4⟩:=tm;simp only at hfj hcn hab hfbn
      repeat first|refine QG ?_|refine QY ?_ (r:=by conv=>lhs;simp[-List.map_set,QV,hjt])
      repeat refine QS ?_
      refine QD (r:=by conv=>lhs;simp[-List.map_set,QV,hjt,hn,hnb,hbn]) (k:=?_);refine QN ?_
      repeat first|refine QG ?_|refine QY ?_
      repeat refine QS ?_
      refine je [1,6,8,9,10,11,13,14,15] rfl (fun c σ S' => ∃ (i:Nat),i≤code.length∧c=code.length-i∧(∀ (q:Nat) (hq:q<code.length),q<i→Ss.canMove (Ss.rHome ds) nodes code[q]=false)∧σ=[(1,(V.agg [vl vint fi,vl vint fo,vl vint ts,vl jd bs]).ref),(6,vl jB lp),(8,vl vint L),(9,vnat k),(10,(V.agg [vnat hed,vl vnat nodes]).ref),(11,vnat pn),(13,vnat j),(14,vl jm code),(15,vnat i)]∧S'=St S [] []) code.length ?_ ?_
      ·exact ⟨0,by omega,rfl,fun q hq h=>by omega,by simp [Fr.only,Fr.look],by simp⟩
      ·rintro c σ T ⟨i,hi,rfl,hno,rfl,rfl⟩
       by_cases hit:i<code.length
       ·have hwi:=jo hit (by omega);have hxm:=List.getElem_mem hit;have hxa:=hab _ hxm;have hxf:=hfbn.2 _ hxm;obtain ⟨⟨xo,xn,xa,xs⟩,hxe⟩ : ∃ x,code[i]=x:=⟨_,rfl⟩
        have hcan:Ss.canMove (Ss.rHome ds) nodes code[i]=(Ss.pure xo&&xa.all fun a => !decide (Ss.rHome ds a∈nodes.map Int.ofNat)):=by rw [hxe]; rfl
        rw [hxe] at hxa hxf;simp only at hxa;have hal:xa.length<2^62:=by have:=hxf.2.2.1.1; simp only at this; omega
        have cpu:=RPure_v xo;obtain ⟨pu,hpu⟩ : ∃ pu,pu=Ss.pure xo:=⟨_,rfl⟩
        rw [←hpu] at hcan cpu
        repeat first|refine QG ?_|refine QY ?_ (r:=by conv=>lhs;simp[-List.map_set,QV,hit])
        repeat refine QS ?_
        refine QP ?_ (r:=by conv=>lhs;simp[-List.map_set,QV,hit,hxe]);refine jn rfl (cpu) ?_;refine QW ?_
        repeat first|refine QG ?_|refine QY ?_
        repeat refine QS ?_
        refine je [1,6,8,9,10,11,13,14,15,16,17] rfl (fun c σ S' => ∃ (m:Nat) (b:Bool),m≤xa.length∧c=xa.length-m∧(b&&(xa.drop m).all fun a => !decide (Ss.rHome ds a∈nodes.map Int.ofNat))=Ss.canMove (Ss.rHome ds) nodes code[i]∧σ=[(1,(V.agg [vl vint fi,vl vint fo,vl vint ts,vl jd bs]).ref),(6,vl jB lp),(8,vl vint L),(9,vnat k),(10,(V.agg [vnat hed,vl vnat nodes]).ref),(11,vnat pn),(13,vnat j),(14,vl jm code),(15,vnat i),(16, .bool b),(17,vnat m)]∧S'=St S [] []) xa.length ?_ ?_
        ·exact ⟨0,pu,by omega,rfl,hcan.symm,by simp [Fr.only,Fr.look],by simp⟩
        ·clear hcan;rintro c σ T ⟨m,b,hm,rfl,hcan,rfl,rfl⟩
         by_cases hgo:m<xa.length∧b=true
         ·obtain ⟨hmt,rfl⟩:=hgo;have hwm:=jo hmt (by omega);rw [List.drop_eq_getElem_cons hmt,List.all_cons,Bool.true_and] at hcan;obtain ⟨h0,h1⟩:=hxa _ (List.getElem_mem hmt);obtain ⟨v,hv⟩ : ∃ v:Nat,xa[m]=(v:Int):=⟨xa[m].toNat,by omega⟩
          rw [hv] at hcan h0 h1;have hvl:v<L.length:=by omega
          have hrh:Ss.rHome ds (v:Int)=L[v]:=by rw [Ss.rHome, ←hL,Int.toNat_natCast,List.getD_eq_getElem?_getD,List.getElem?_eq_getElem hvl]; rfl
          rw [hrh] at hcan;have cin:=RIn_v (nodes.map Int.ofNat) L[v] (by rw [List.length_map]; omega);rw [←vl_nat] at cin;obtain ⟨bi,hbi⟩ : ∃ bi,bi=decide (L[v]∈nodes.map Int.ofNat):=⟨_,rfl⟩
          rw [←hbi] at hcan cin
          repeat refine QS ?_
          refine QY ?_ (r:=by conv=>lhs;simp[-List.map_set,QV,hit,hxe,hmt])
          repeat first|refine QG ?_|refine QY ?_
          repeat refine QS ?_
          refine QD (r:=by conv=>lhs;simp[-List.map_set,QV,hit,hxe,hmt,hv,hvl]) (k:=?_);refine jn rfl (cin) ?_;refine QW ?_
          repeat first|refine QG ?_|refine QY ?_ (r:=by conv=>lhs;simp[-List.map_set,QV,hwm])
          show jx _ _ _ _ _ _ _;exact again ⟨Nat.sub_lt_sub_left hmt (Nat.lt_succ_self m),m+1, !bi,hmt,rfl,hcan,by simp [Fr.only,Fr.look],rfl⟩
         ·have hbc:b=Ss.canMove (Ss.rHome ds) nodes code[i]:=by
           rw [←hcan]
           cases b with
           | false=>rfl
           | true =>
            have:m=xa.length:=by
             have h2 : ¬ m<xa.length:=fun h=>hgo ⟨h,rfl⟩
             omega
            rw [this,List.drop_length]; rfl
          have skip:Ss.canMove (Ss.rHome ds) nodes code[i]=false → ∀ (q:Nat) (hq:q<code.length),q<i+1→Ss.canMove (Ss.rHome ds) nodes code[q]=false:=fun h q hq hlt=>by
           rcases Nat.lt_or_ge q i with h1 | h1
           ·exact hno q hq h1
           ·have:q=i:=by omega
            subst this; exact h
          cases b with
          | false =>
           by_cases hmt:m<xa.length
           ·repeat refine QS ?_
            refine QY ?_ (r:=by conv=>lhs;simp[-List.map_set,QV,hit,hxe,hmt])
            repeat first|refine QG ?_|refine QY ?_ (r:=by conv=>lhs;simp[-List.map_set,QV,hwi])
            show jx _ _ _ _ _ _ _;exact again ⟨Nat.sub_lt_sub_left hit (Nat.lt_succ_self i),i+1,hit,rfl,skip hbc.symm,by simp [Fr.only,Fr.look],rfl⟩
           ·repeat refine QS ?_
            refine QY ?_ (r:=by conv=>lhs;simp[-List.map_set,QV,hit,hxe,hmt])
            repeat first|refine QG ?_|refine QY ?_ (r:=by conv=>lhs;simp[-List.map_set,QV,hwi])
            show jx _ _ _ _ _ _ _;exact again ⟨Nat.sub_lt_sub_left hit (Nat.lt_succ_self i),i+1,hit,rfl,skip hbc.symm,by simp [Fr.only,Fr.look],rfl⟩
          | true =>
           have hmt : ¬ m<xa.length:=fun h=>hgo ⟨h,rfl⟩
           have hfi:code.findIdx? (Ss.canMove (Ss.rHome ds) nodes)=some i:=List.findIdx?_eq_some_iff_getElem.2 ⟨hit,hbc.symm,fun q hq=>by rw [hno q (by omega) hq]; simp⟩;rw [hfi] at hfj;simp only at hfj;rw [←hfj] at hfk;simp only at hfk;rw [←hfk]
           repeat refine QS ?_
           refine QY ?_ (r:=by conv=>lhs;simp[-List.map_set,QV,hit,hxe,hmt])
           repeat first|refine QG ?_|refine QY ?_
           repeat refine QS ?_
           refine QD (r:=by conv=>lhs;simp[-List.map_set,QV,hjt,hn]) (k:=?_);refine QN ?_
           repeat first|refine QG ?_|refine QY ?_
           exact ja (X:=YZ (some (pn,n,i))) hwf (by simp [YZ]) rfl
       ·have hie:i=code.length:=by omega
        subst hie;have hfi:code.findIdx? (Ss.canMove (Ss.rHome ds) nodes)=none:=List.findIdx?_eq_none_iff.2 fun x hx=>by
         obtain ⟨q,hq,rfl⟩:=List.getElem_of_mem hx;exact hno q hq hq
        rw [hfi] at hfj;simp only at hfj
        repeat first|refine QG ?_|refine QY ?_ (r:=by conv=>lhs;simp[-List.map_set,QV,hit,hwj])
        show jx _ _ _ _ _ _ _;exact again ⟨Nat.sub_lt_sub_left hjt (Nat.lt_succ_self j),j+1,hjt,rfl,hfj,by simp [Fr.only,Fr.look],rfl⟩
     ·have e:nodes.drop j=[]:=by rw [List.drop_eq_nil_iff]; omega
      rw [e] at hfj;have hfj':none=fB:=hfj;rw [←hfj'] at hfk;simp only at hfk
      repeat first|refine QG ?_|refine QY ?_ (r:=by conv=>lhs;simp[-List.map_set,QV,hjt,hw])
      show jx _ _ _ _ _ _ _;exact again ⟨Nat.sub_lt_sub_left hkt (Nat.lt_succ_self k),k+1,hkt,rfl,hfk,by simp [Fr.only,Fr.look],rfl⟩
  ·have e:lp.drop k=[]:=by rw [List.drop_eq_nil_iff]; omega
   rw [e] at hfk;have hfk':none=R:=hfk;rw [←hfk']
   repeat first|refine QG ?_|refine QY ?_ (r:=by conv=>lhs;simp[-List.map_set,QV,hkt])
   exact ja (X:=YZ none) hwf (by simp [YZ]) rfl
end Go.Vw

namespace Go.Vw
open Go.RowKit
def flat1:V→Bool
 | .bool _ | .int _ _ | .nils | .slice _ _ _=>true
 | _=>false
def flatV:V→Bool
 | .tuple xs=>xs.all flat1
 | x=>flat1 x
def Wz (n:Nat):V→V
 | .slice o off len => .slice (n+o) off len
 | x=>x
def jbh (n:Nat):V→V
 | .tuple xs => .tuple (xs.map (Wz n))
 | x=>Wz n x
def plus (S T:Store):Store:=⟨fun o=>if o<S.nx then S.get o else (T.get (o-S.nx)).map fun c=>(c.1,c.2.map (Wz S.nx)),S.nx+T.nx⟩
def joinB (n:Nat) (β β2:Objs):Objs:=fun o=>if o<n then β o else β2 (o-n)
theorem Yp {m m2:Imm} {β β2:Objs} {n:Nat} {x:V} {v:Value} (hf:flat1 x=true) (h:Rep m2 β2 x v):Rep m (joinB n β β2) (Wz n x) v:=by
 have hj : ∀ o,joinB n β β2 (n+o)=β2 o:=fun o=>by
  unfold joinB; rw [if_neg (by omega),Nat.add_sub_cancel_left]
 cases h with
 | imm h=>cases h with
  | bool b=>exact .imm (.bool b)
  | int k i=>exact .imm (.int k i)
  | nils a=>exact .imm (.nils a)
  | str | nilp | nilf | nilm | agg | list0 | list | ref=>simp [flat1] at hf
 | sliceDead o off len v h h1=>exact .sliceDead _ off len v ((hj o).trans h) h1
 | sliceVoid o off a h=>exact .sliceVoid _ off a ((hj o).trans h)
 | slice o off len b base s n' cap a h hc hcm ha=>exact .slice _ off len b base s n' cap a ((hj o).trans h) hc hcm ha
 | agg | tuple | func | ptrDead | ptr | mapDead | map | junk=>simp [flat1] at hf
theorem rep_shift {m m2:Imm} {β β2:Objs} {n:Nat} {x:V} {v:Value} (hf:flatV x=true) (h:Rep m2 β2 x v):Rep m (joinB n β β2) (jbh n x) v:=by
 by_cases ht : ∃ xs,x = .tuple xs
 ·obtain ⟨xs,rfl⟩:=ht;simp only [flatV,List.all_eq_true] at hf
  cases h with
  | imm h=>cases h
  | tuple xs vs hl hr =>
   refine .tuple _ vs (by simpa using hl) fun i y u hy hu => ?_
   simp only [List.getElem?_map,Option.map_eq_some_iff] at hy;obtain ⟨z,hz,rfl⟩:=hy;exact Yp (hf z (List.mem_of_getElem? hz)) (hr i z u hz hu)
 ·have e1:flatV x=flat1 x:=by cases x<;>first | rfl | exact absurd ⟨_,rfl⟩ ht
  have e2:jbh n x=Wz n x:=by cases x<;>first | rfl | exact absurd ⟨_,rfl⟩ ht
  rw [e2];exact Yp (e1▸hf) h
theorem VCalls.thaw {P:Program} {f:FuncId} {xs xs':List V} {S S':Store} {Q:V→Store→Prop} (h:VCalls P f xs' ⟨fun _=>none,0⟩ Q) (hg:GhostArgs xs S xs' S') (hcl : ∀ x∈xs',x.closed=true)
  (hfl : ∀ r T,Q r T→flatV r=true ∧ ∀ o c,T.get o=some c → ∀ x∈c.2,flat1 x=true):VCalls P f xs S fun r T => ∃ r0 T0,Q r0 T0∧r=jbh S.nx r0∧T=plus S T0:=by
 intro m β w vs hS hr;obtain ⟨m1,β1,h1,h2,h3⟩:=hg m β w vs hS hr;have h0:Holds ⟨fun _=>none,0⟩ m1 (fun _ => .fresh) w :=
  ⟨h1.imm,fun o b hb=>by simp [Loc.block?] at hb,fun o o' b hb=>by simp [Loc.block?] at hb,fun o=>by simp,fun o _=>rfl,fun o ho=>absurd ho (Nat.not_lt_zero _),fun o c hc=>by cases hc⟩
 have hr0:RepL m1 (fun _ => .fresh) xs' vs:=⟨h3.1,fun i x v hx hv => .imm ((h3.2 i x v hx hv).closed (hcl x (List.mem_of_getElem? hx)))⟩
 refine (h m1 _ w vs h0 hr0).mono ?_;rintro e w' ⟨v,x,T0,m2,β2,he,hQ,k1,k2,k3⟩;obtain ⟨hf1,hf2⟩:=hfl x T0 hQ;have hheap : ∀ b,b<w.heap.size→w'.heap[b]? = w.heap[b]? := by
  intro b hb
  cases hm:m1 b with
  | some ob=>rw [h1.imm b ob hm,k2.imm b ob (k3.imm b ob hm)]
  | none=>exact (k3.keep b hb hm fun o=>by simp [Loc.block?]).1
 have hnob : ∀ b,b<w.heap.size → ∀ o,(β2 o).block? ≠ some b:=by
  intro b hb o
  cases hm:m1 b with
  | some ob =>
   intro hc;have:=k2.apart o b hc;rw [k3.imm b ob hm] at this; cases this
  | none=>exact (k3.keep b hb hm fun o=>by simp [Loc.block?]).2.2 o
 have hlt : ∀ {b:Nat} {ob:Obj},w.heap[b]? = some ob→b<w.heap.size:=by
  intro b ob hb;rcases Nat.lt_or_ge b w.heap.size with h | h
  ·exact h
  ·rw [Array.getElem?_eq_none h] at hb; cases hb
 have hsome : ∀ {b:Nat} {ob:Obj},w.heap[b]? = some ob→w'.heap[b]? = some ob:=fun {b ob} hb=>by rw [hheap b (hlt hb),hb]
 have hblk : ∀ o b,(β o).block? = some b→b<w.heap.size:=by
  intro o b hb;have hon:o<S.nx:=by
   rcases Nat.lt_or_ge o S.nx with h | h
   ·exact h
   ·rw [(hS.fresh o).2 h] at hb; cases hb
  cases hg:S.get o with
  | none=>rw [hS.dead o hon hg] at hb; cases hb
  | some c =>
   have hl:=hS.live o c hg
   cases hβ:β o with
   | fresh=>rw [hβ] at hb; cases hb
   | dead=>rw [hβ] at hb; cases hb
   | void=>rw [hβ] at hb; cases hb
   | lies b' base s n =>
    rw [hβ] at hl hb
    cases hb
    obtain ⟨_,arr,T,e1,_⟩:=hl;exact hlt e1
   | mp b' =>
    rw [hβ] at hl hb
    cases hb
    obtain ⟨es,clock,e1,_⟩:=hl;exact hlt e1
 have jl : ∀ {o},o<S.nx→joinB S.nx β β2 o=β o:=fun h=>if_pos h
 have jr : ∀ {o}, ¬ o<S.nx→joinB S.nx β β2 o=β2 (o-S.nx):=fun h=>if_neg h
 have hstep:Step β (joinB S.nx β β2):=fun o ho=>by
  have hon:o<S.nx:=by
   rcases Nat.lt_or_ge o S.nx with h | h
   ·exact h
   ·exact absurd ((hS.fresh o).2 h) ho
  exact .inl (jl hon)
 refine ⟨v,jbh S.nx x,plus S T0,m,joinB S.nx β β2,he,⟨x,T0,hQ,rfl,rfl⟩,rep_shift hf1 k1,⟨fun b o hb=>hsome (hS.imm b o hb),fun o b hb => ?_,fun o o' b hb hb' => ?_,fun o => ?_,fun o ho => ?_,fun o ho hn => ?_,fun o c hc => ?_⟩,⟨fun _ _ h=>h,hstep,k3.size,fun b hb hm hβ=>⟨hheap b hb,hm,fun o => ?_⟩,k3.os.trans (by rfl),k3.tape,k3.output⟩⟩
 ·by_cases hon:o<S.nx
  ·rw [jl hon] at hb; exact hS.apart o b hb
  ·rw [jr hon] at hb;have h5:=k2.apart _ b hb
   cases hm:m b with
   | none=>rfl
   | some ob=>rw [k3.imm b ob (h2.imm b ob hm)] at h5; cases h5
 ·by_cases hon:o<S.nx
  ·rw [jl hon] at hb
   by_cases hon':o'<S.nx
   ·rw [jl hon'] at hb'; exact hS.inj o o' b hb hb'
   ·rw [jr hon'] at hb'; exact absurd hb' (hnob b (hblk o b hb) _)
  ·rw [jr hon] at hb
   by_cases hon':o'<S.nx
   ·rw [jl hon'] at hb'; exact absurd hb (hnob b (hblk o' b hb') _)
   ·rw [jr hon'] at hb';have:=k2.inj _ _ b hb hb';omega
 ·show _↔S.nx+T0.nx≤o
  by_cases hon:o<S.nx
  ·rw [jl hon,hS.fresh]; omega
  ·rw [jr hon,k2.fresh]; omega
 ·have ho':S.nx+T0.nx≤o:=ho;show (if o<S.nx then S.get o else (T0.get (o-S.nx)).map _)=none;rw [if_neg (by omega),k2.gone _ (by omega)]; rfl
 ·have ho':o<S.nx+T0.nx:=ho;have hn':(if o<S.nx then S.get o else (T0.get (o-S.nx)).map fun c=>(c.1,c.2.map (Wz S.nx)))=none:=hn
  by_cases hon:o<S.nx
  ·rw [if_pos hon] at hn';rw [jl hon]; exact hS.dead o hon hn'
  ·rw [if_neg hon,Option.map_eq_none_iff] at hn';rw [jr hon]; exact k2.dead _ (by omega) hn'
 ·have hc':(if o<S.nx then S.get o else (T0.get (o-S.nx)).map fun c=>(c.1,c.2.map (Wz S.nx)))=some c:=hc
  by_cases hon:o<S.nx
  ·rw [if_pos hon] at hc';rw [jl hon];have hl:=hS.live o c hc'
   cases hβ:β o with
   | fresh=>rw [hβ] at hl; exact hl.elim
   | dead=>rw [hβ] at hl; exact hl.elim
   | void=>rw [hβ] at hl; exact hl
   | lies b base s n =>
    rw [hβ] at hl;obtain ⟨e0,arr,T,e1,e2,e3,e4⟩:=hl;refine ⟨e0,arr,T,hsome e1,e2,e3,fun i x hx => ?_⟩;obtain ⟨v,a1,a2,a3⟩:=e4 i x hx;exact ⟨v,a1,a2.mono (fun _ _ h=>h) hstep,a3⟩
   | mp b =>
    rw [hβ] at hl;obtain ⟨es,clock,e1,e2,e3⟩:=hl;refine ⟨es,clock,hsome e1,e2,fun i x en hx hen => ?_⟩;obtain ⟨k,v,a1,a2,a3⟩:=e3 i x en hx hen;exact ⟨k,v,a1,a2,a3.mono (fun _ _ h=>h) hstep⟩
  ·rw [if_neg hon] at hc';rw [jr hon];obtain ⟨c0,hc0,rfl⟩:=Option.map_eq_some_iff.1 hc';have hl:=k2.live _ c0 hc0;have hfc:=hf2 _ c0 hc0
   cases hβ:β2 (o-S.nx) with
   | fresh=>rw [hβ] at hl; exact hl.elim
   | dead=>rw [hβ] at hl; exact hl.elim
   | void =>
    rw [hβ] at hl;have hl':c0.2=[]:=hl;show c0.2.map _=[]
    rw [hl']; rfl
   | lies b base s n =>
    rw [hβ] at hl;obtain ⟨e0,arr,T,e1,e2,e3,e4⟩:=hl;refine ⟨e0,arr,T,e1,e2,by simpa using e3,fun i x hx => ?_⟩;simp only [List.getElem?_map,Option.map_eq_some_iff] at hx;obtain ⟨y,hy,rfl⟩:=hx;obtain ⟨v,a1,a2,a3⟩:=e4 i y hy;exact ⟨v,a1,Yp (hfc y (List.mem_of_getElem? hy)) a2,a3⟩
   | mp b =>
    rw [hβ] at hl;obtain ⟨es,clock,e1,e2,e3⟩:=hl;have:c0.2=[]:=by
     cases hcl:c0.2 with
     | nil=>rfl
     | cons y r =>
      rw [hcl] at e2;have hlt:0<es.size:=by rw [←e2]; simp
      obtain ⟨k,v,a1,_⟩:=e3 0 y es[0] (by rw [hcl]; rfl) (by simp [hlt]);have:=hfc y (by rw [hcl]; simp);rw [a1] at this;simp [flat1] at this
    refine ⟨es,clock,e1,by simpa using e2,fun i x en hx _ => ?_⟩;rw [this] at hx;simp at hx
 ·by_cases hon:o<S.nx
  ·rw [jl hon]; exact hβ o
  ·rw [jr hon]; exact hnob b hb _
end Go.Vw
