import Derived.Test.YtkfllaokjaldnaaGreatC22
import Derived.Test.YtkfllaokjaldnaaGreatC18
import Derived.Test.YtkfllaokjaldnaaGreatC15
import Derived.Test.YtkfllaokjaldnaaGreatC16
import Derived.Test.YtkfllaokjaldnaaGreatC21
import Derived.Test.YtkfllaokjaldnaaGreatC8
import Derived.Test.YtkfllaokjaldnaaGreatC20
/- Part of the proof. -/
set_option linter.unusedVariables false
set_option linter.unusedSimpArgs false
set_option maxRecDepth 10000
set_option maxHeartbeats 4000000
namespace Ss
theorem rHome_home {e:Env} {f:Fn} (h:check e f=true) {ds:List Def} (hds:defsOf f=some ds) : ∀ b∈f.blocks, ∀ x∈b.code, ∀ a∈x.args,rHome ds a=homeOf f a:=by
 intro b hb x hx a ha;have hin:=(check_dok h).args b hb x hx a ha;obtain ⟨hdl,_⟩:=defs_in hds;obtain ⟨_,ds',hds',_,hbs⟩:=check_spec h;rw [hds] at hds'
 cases hds'
 obtain ⟨j,hj⟩:=List.mem_iff_getElem?.1 hb;obtain ⟨k,hk⟩:=List.mem_iff_getElem?.1 hx;obtain ⟨c1,_⟩:=qA hbs hj;have hins:=zo c1 hk;simp only [insOk,Bool.and_eq_true] at hins;obtain ⟨t,ht⟩:=jaI hins.2 a ha;simp only [askOk,Bool.and_eq_true,decide_eq_true_eq] at ht;obtain ⟨⟨⟨⟨q1,q2⟩,q3⟩,q4⟩,q5⟩:=ht;have hm:a.toNat<ds.length:=by have:=hin.1; have:=hin.2; omega
 have q4:(ds.getD a.toNat default).made=true:=q4;rw [List.getD_eq_getElem?_getD,List.getElem?_eq_getElem hm,Option.getD_some] at q4;rw [rHome,List.getD_eq_getElem?_getD,List.getElem?_map,List.getElem?_eq_getElem hm,homeOf,hds,Option.getD_some,List.getD_eq_getElem?_getD,List.getElem?_eq_getElem hm];simp [rDefB,q4]
theorem rFirst_eq {e:Env} {f:Fn} (h:check e f=true) {ds:List Def} (hds:defsOf f=some ds):first f.blocks (rHome ds) (lps f.blocks)=first f.blocks (homeOf f) (lps f.blocks):=by
 refine Wm (fun n x hx a ha => ?_) _;have hb:f.blocks.getD n default∈f.blocks∨f.blocks.getD n default=default:=by
  rw [List.getD_eq_getElem?_getD]
  cases hn:f.blocks[n]? with
  | none=>exact .inr rfl
  | some b=>exact .inl (List.mem_of_getElem? hn)
 rcases hb with hb | hb
 ·exact rHome_home h hds _ hb x hx a ha
 ·rw [hb] at hx
  cases hx
end Ss
namespace Go.Vw
open Go.Proofs Go.RowKit
attribute [-simp] List.map_set
def Zd:Option (Nat × Nat × Nat)→V
 | none => .tuple [vint 0,vint 0,vint 0, .bool false]
 | some m => .tuple [vnat m.1,vnat m.2.1,vnat m.2.2, .bool true]
theorem RFirst_v (e:Ss.Env) (f:Ss.Fn) (hf:f.Fits) (hc:Ss.check e f=true):VPure Tryz.prog 34 [ql f] (Zd (Ss.first f.blocks (Ss.homeOf f) (Ss.lps f.blocks))):=by
 intro S;obtain ⟨_,ds,hds,_,_⟩:=Ss.check_spec hc;rw [←Ss.rFirst_eq hc hds];obtain ⟨hdl,_⟩:=Ss.defs_in hds;have hs:=Ss.check_small hc;have hd:=Ss.check_dok hc;have hgr:=Ss.graphic hc;have hsm:=(Ss.small_iff f).1 hs;have hh:=hsm.1;simp only [Ss.Fn.heads,Bool.and_eq_true,decide_eq_true_eq] at hh;obtain ⟨⟨⟨hh1,hh2⟩,_⟩,_⟩:=hh;have csu:=RSucc_v f hf hs;have clo:=RLoopsAll_v (Ss.succs f.blocks) (jbm hf);have hlp:G.loopsI (Ss.succs f.blocks)=Ss.lps f.blocks:=by rw [G.loopsI,hgr.right,if_pos rfl]; rfl
 rw [hlp] at clo;have hlpl:(Ss.lps f.blocks).length≤256:=by rw [←hlp]; exact G.loopsI_len _
 have hlpn : ∀ l∈Ss.lps f.blocks,l.2.length≤256:=by rw [←hlp]; exact G.loopsI_nodes _
 have hlpb : ∀ l∈Ss.lps f.blocks, ∀ n∈l.2,n<f.blocks.length:=fun l hl n hn=>by
  obtain ⟨a1,a2,a3,a4⟩:=G.heads hgr.ok _ (Nat.le_refl _) l hl;have:=a3 n hn;rw [Ss.nats_succs_len] at this; exact this
 have cma:=RMade_v f hf (by omega) hds hdl;have cpo:=fun hd nd h=>RPorch_v f hf hd nd h
 have hpoe : ∀ hd nd,Ss.porchF f hd nd=Ss.porch f.blocks hd nd:=fun hd nd=>by rw [Ss.porchF,if_pos hs]
 have hgb2:=(jX hs).2.2.1;have hargs:=hd.args;have hfb:=hf.2.2.2;have hgb1:=hh2;generalize Ss.lps f.blocks=lp at *
 generalize Ss.succs f.blocks=sc at *
 generalize G.err sc=ge at *
 rw [←hdl] at hargs;clear hc hgr hsm hd hlp hds hs hh1 hh2 hdl;obtain ⟨⟨fi,fo⟩,ts,bs⟩:=f;simp only at *
 have csu':VPure Tryz.prog 20 [.agg [vl vint fi,vl vint fo,vl vint ts,vl jb bs]] (vl (vl vint) sc):=csu;have cma':VPure Tryz.prog 62 [.agg [vl vint fi,vl vint fo,vl vint ts,vl jb bs]] (vl vint (ds.map Ss.rDefB)):=cma;have cpo' : ∀ hd nd,nd.length<2^63→VPure Tryz.prog 21 [.agg [vl vint fi,vl vint fo,vl vint ts,vl jb bs],vint hd,vl vint nd] (WH (Ss.porch bs hd nd)):=fun hd nd h=>by
  rw [←hpoe]; exact cpo hd nd h
 clear csu cma cpo;obtain ⟨L,hL⟩ : ∃ L,L=ds.map Ss.rDefB:=⟨_,rfl⟩
 rw [←hL] at cma';have hLl:L.length=ds.length:=by rw [hL,List.length_map]
 obtain ⟨R,hR⟩ : ∃ R,R=Ss.first bs (Ss.rHome ds) lp:=⟨_,rfl⟩
 rw [←hR];refine QB (c:=jd Tryz.f34) Tryz.func34 Tryz.ntmps34 fun hwf=>?_
 refine QT ?_;refine QY ?_;refine QH 1 0 ?_;refine QT ?_;refine QP ?_;refine QL (csu') ?_;refine jm rfl (clo) ?_;refine QW ?_;refine QT ?_;refine QP ?_;refine QL (cma') ?_;refine QW ?_;refine QO [1,6,8] ?_;refine QK [] ?_
 repeat first|refine QG ?_|refine QY ?_
 refine QT ?_;refine jc [1,6,8,9] rfl (fun c σ S' => ∃ (k:Nat),k≤lp.length∧c=lp.length-k∧Ss.first bs (Ss.rHome ds) (lp.drop k)=R∧σ=[(1,(V.agg [vl vint fi,vl vint fo,vl vint ts,vl jb bs]).ref),(6,vl jA lp),(8,vl vint L),(9,vnat k)]∧S'=St S [] []) lp.length ?_ ?_
 ·exact ⟨0,by omega,rfl,hR.symm,by simp [Fr.only,Fr.look],by simp⟩
 ·rintro c σ T ⟨k,hk,rfl,hfk,rfl,rfl⟩
  by_cases hkt:k<lp.length
  ·have hw:=ji hkt (by omega);have hlm:lp[k]∈lp:=List.getElem_mem hkt;have hln:=hlpn _ hlm;have hlb:=hlpb _ hlm;rw [List.drop_eq_getElem_cons hkt,Ss.first] at hfk;obtain ⟨⟨hed,nodes⟩,hlk⟩ : ∃ l,lp[k]=l:=⟨_,rfl⟩
   rw [hlk] at hfk hln hlb;simp only at hfk hln hlb;have hoi : ∀ S',qj 2 S' (vl jA lp) (V.int .i64 (k:Int))=some (.ref (.agg [vnat hed,vl vnat nodes])):=fun S'=>by
    have:=Jx (S:=S') (enc:=jA) (l:=lp) (k := .i64) (i:=k) (x:=(hed,nodes)) (s:=2) rfl (by rw [List.getElem?_eq_getElem hkt,hlk]);simpa [jA] using this
   have cpo2:=cpo' (hed:Int) (nodes.map Int.ofNat) (by rw [List.length_map]; omega);rw [←vl_nat] at cpo2;obtain ⟨po,hpo⟩ : ∃ po,po=Ss.porch bs (hed:Int) (nodes.map Int.ofNat):=⟨_,rfl⟩
   rw [←hpo] at hfk cpo2;refine QT ?_;refine QY ?_ (r:=by conv=>lhs;simp[QV,hkt]);refine QT ?_;refine jG rfl rfl rfl ?_;refine QT ?_;refine jB rfl ?_;refine QT ?_;refine jK 1 rfl rfl ?_;refine QT ?_;refine QY ?_ (r:=by conv=>lhs;simp[QV,hoi]);refine QH 10 0 ?_;refine QT ?_;refine QP ?_;refine QL (cpo2) ?_
   cases po with
   | none =>
    simp only at hfk;simp only [WH];refine QW ?_
    repeat first|refine QG ?_|refine QY ?_ (r:=by conv=>lhs;simp[QV,hw])
    refine QA [] (h:=⟨?_,k+1,hkt,rfl,hfk,by simp [Fr.only,Fr.look],by simp⟩);omega
   | some p =>
    simp only at hfk;obtain ⟨pn,bp,hpn,_⟩:=Ss.porch_spec hpo.symm;subst hpn;rw [Int.toNat_natCast] at hfk;simp only [WH];refine QW ?_
    repeat first|refine QG ?_|refine QY ?_
    refine QO [1,6,8,9,10,11,13] ?_;refine QK [] ?_;obtain ⟨fB,hfB⟩ : ∃ q,q=Ss.firstB bs (Ss.rHome ds) nodes nodes:=⟨_,rfl⟩
    rw [←hfB] at hfk;refine QT ?_;refine jc [1,6,8,9,10,11,13] rfl (fun c σ S' => ∃ (j:Nat),j≤nodes.length∧c=nodes.length-j∧Ss.firstB bs (Ss.rHome ds) nodes (nodes.drop j)=fB∧σ=[(1,(V.agg [vl vint fi,vl vint fo,vl vint ts,vl jb bs]).ref),(6,vl jA lp),(8,vl vint L),(9,vnat k),(10,(V.agg [vnat hed,vl vnat nodes]).ref),(11,vnat pn),(13,vnat j)]∧S'=St S [] []) nodes.length ?_ ?_
    ·exact ⟨0,by omega,rfl,hfB.symm,by simp [Fr.only,Fr.look],by simp⟩
    ·rintro c σ T ⟨j,hj,rfl,hfj,rfl,rfl⟩
     by_cases hjt:j<nodes.length
     ·have hwj:=ji hjt (by omega);rw [List.drop_eq_getElem_cons hjt,Ss.firstB] at hfj;obtain ⟨n,hn⟩ : ∃ n,nodes[j]=n:=⟨_,rfl⟩
      have hnb:n<bs.length:=hn▸hlb _ (List.getElem_mem hjt);rw [hn] at hfj;have hgd:bs.getD n default=bs[n]:=by rw [List.getD_eq_getElem?_getD,List.getElem?_eq_getElem hnb]; rfl
      rw [hgd] at hfj;have hcn:=(hgb2 _ (List.getElem_mem hnb)).2.2.2;have hab:=hargs _ (List.getElem_mem hnb);have hfbn:=(hfb _ (List.getElem_mem hnb)).2.1;obtain ⟨⟨ps,code,tm⟩,hbn⟩ : ∃ b,bs[n]=b:=⟨_,rfl⟩
      rw [hbn] at hfj hcn hab hfbn;obtain ⟨tm1,tm2,tm3,tm4⟩:=tm;simp only at hfj hcn hab hfbn
      repeat first|refine QG ?_|refine QY ?_ (r:=by conv=>lhs;simp[QV,hjt])
      refine QT ?_;refine QD (r:=by conv=>lhs;simp[QV,hjt,hn,hnb,hbn]) (k:=?_);refine QN ?_
      repeat first|refine QG ?_|refine QY ?_
      refine QT ?_;refine jc [1,6,8,9,10,11,13,14,15] rfl (fun c σ S' => ∃ (i:Nat),i≤code.length∧c=code.length-i∧(∀ (q:Nat) (hq:q<code.length),q<i→Ss.canMove (Ss.rHome ds) nodes code[q]=false)∧σ=[(1,(V.agg [vl vint fi,vl vint fo,vl vint ts,vl jb bs]).ref),(6,vl jA lp),(8,vl vint L),(9,vnat k),(10,(V.agg [vnat hed,vl vnat nodes]).ref),(11,vnat pn),(13,vnat j),(14,vl jg code),(15,vnat i)]∧S'=St S [] []) code.length ?_ ?_
      ·exact ⟨0,by omega,rfl,fun q hq h=>by omega,by simp [Fr.only,Fr.look],by simp⟩
      ·rintro c σ T ⟨i,hi,rfl,hno,rfl,rfl⟩
       by_cases hit:i<code.length
       ·have hwi:=ji hit (by omega);have hxm:=List.getElem_mem hit;have hxa:=hab _ hxm;have hxf:=hfbn.2 _ hxm;obtain ⟨⟨xo,xn,xa,xs⟩,hxe⟩ : ∃ x,code[i]=x:=⟨_,rfl⟩
        have hcan:Ss.canMove (Ss.rHome ds) nodes code[i]=(Ss.pure xo&&xa.all fun a => !decide (Ss.rHome ds a∈nodes.map Int.ofNat)):=by rw [hxe]; rfl
        rw [hxe] at hxa hxf;simp only at hxa;have hal:xa.length<2^62:=by have:=hxf.2.2.1.1; simp only at this; omega
        have cpu:=RPure_v xo;obtain ⟨pu,hpu⟩ : ∃ pu,pu=Ss.pure xo:=⟨_,rfl⟩
        rw [←hpu] at hcan cpu
        repeat first|refine QG ?_|refine QY ?_ (r:=by conv=>lhs;simp[QV,hit])
        refine QT ?_;refine QP ?_ (r:=by conv=>lhs;simp[QV,hit,hxe]);refine jm rfl (cpu) ?_;refine QW ?_
        repeat first|refine QG ?_|refine QY ?_
        refine QT ?_;refine jc [1,6,8,9,10,11,13,14,15,16,17] rfl (fun c σ S' => ∃ (m:Nat) (b:Bool),m≤xa.length∧c=xa.length-m∧(b&&(xa.drop m).all fun a => !decide (Ss.rHome ds a∈nodes.map Int.ofNat))=Ss.canMove (Ss.rHome ds) nodes code[i]∧σ=[(1,(V.agg [vl vint fi,vl vint fo,vl vint ts,vl jb bs]).ref),(6,vl jA lp),(8,vl vint L),(9,vnat k),(10,(V.agg [vnat hed,vl vnat nodes]).ref),(11,vnat pn),(13,vnat j),(14,vl jg code),(15,vnat i),(16, .bool b),(17,vnat m)]∧S'=St S [] []) xa.length ?_ ?_
        ·exact ⟨0,pu,by omega,rfl,hcan.symm,by simp [Fr.only,Fr.look],by simp⟩
        ·clear hcan;rintro c σ T ⟨m,b,hm,rfl,hcan,rfl,rfl⟩
         by_cases hgo:m<xa.length∧b=true
         ·obtain ⟨hmt,rfl⟩:=hgo;have hwm:=ji hmt (by omega);rw [List.drop_eq_getElem_cons hmt,List.all_cons,Bool.true_and] at hcan;obtain ⟨h0,h1⟩:=hxa _ (List.getElem_mem hmt);obtain ⟨v,hv⟩ : ∃ v:Nat,xa[m]=(v:Int):=⟨xa[m].toNat,by omega⟩
          rw [hv] at hcan h0 h1;have hvl:v<L.length:=by omega
          have hrh:Ss.rHome ds (v:Int)=L[v]:=by rw [Ss.rHome, ←hL,Int.toNat_natCast,List.getD_eq_getElem?_getD,List.getElem?_eq_getElem hvl]; rfl
          rw [hrh] at hcan;have cin:=RIn_v (nodes.map Int.ofNat) L[v] (by rw [List.length_map]; omega);rw [←vl_nat] at cin;obtain ⟨bi,hbi⟩ : ∃ bi,bi=decide (L[v]∈nodes.map Int.ofNat):=⟨_,rfl⟩
          rw [←hbi] at hcan cin;refine QT ?_;refine QY ?_ (r:=by conv=>lhs;simp[QV,hit,hxe,hmt])
          repeat first|refine QG ?_|refine QY ?_
          refine QT ?_;refine QD (r:=by conv=>lhs;simp[QV,hit,hxe,hmt,hv,hvl]) (k:=?_);refine jm rfl (cin) ?_;refine QW ?_
          repeat first|refine QG ?_|refine QY ?_ (r:=by conv=>lhs;simp[QV,hwm])
          show jp _ _ _ _ _ _ _;exact again ⟨Nat.sub_lt_sub_left hmt (Nat.lt_succ_self m),m+1, !bi,hmt,rfl,hcan,by simp [Fr.only,Fr.look],rfl⟩
         ·have hbc:b=Ss.canMove (Ss.rHome ds) nodes code[i]:=by
           rw [←hcan]
           cases b with
           | false=>rfl
           | true =>
            have:m=xa.length:=by
             have h2 : ¬ m<xa.length:=fun h=>hgo ⟨h,rfl⟩
             omega
            rw [this,List.drop_length]; rfl
          have skip:Ss.canMove (Ss.rHome ds) nodes code[i]=false → ∀ (q:Nat) (hq:q<code.length),q<i+1→Ss.canMove (Ss.rHome ds) nodes code[q]=false:=fun h q hq hlt=>by
           rcases Nat.lt_or_ge q i with h1 | h1
           ·exact hno q hq h1
           ·have:q=i:=by omega
            subst this; exact h
          cases b with
          | false =>
           by_cases hmt:m<xa.length
           ·refine QT ?_;refine QY ?_ (r:=by conv=>lhs;simp[QV,hit,hxe,hmt])
            repeat first|refine QG ?_|refine QY ?_ (r:=by conv=>lhs;simp[QV,hwi])
            show jp _ _ _ _ _ _ _;exact again ⟨Nat.sub_lt_sub_left hit (Nat.lt_succ_self i),i+1,hit,rfl,skip hbc.symm,by simp [Fr.only,Fr.look],rfl⟩
           ·refine QT ?_;refine QY ?_ (r:=by conv=>lhs;simp[QV,hit,hxe,hmt])
            repeat first|refine QG ?_|refine QY ?_ (r:=by conv=>lhs;simp[QV,hwi])
            show jp _ _ _ _ _ _ _;exact again ⟨Nat.sub_lt_sub_left hit (Nat.lt_succ_self i),i+1,hit,rfl,skip hbc.symm,by simp [Fr.only,Fr.look],rfl⟩
          | true =>
           have hmt : ¬ m<xa.length:=fun h=>hgo ⟨h,rfl⟩
           have hfi:code.findIdx? (Ss.canMove (Ss.rHome ds) nodes)=some i:=List.findIdx?_eq_some_iff_getElem.2 ⟨hit,hbc.symm,fun q hq=>by rw [hno q (by omega) hq]; simp⟩;rw [hfi] at hfj;simp only at hfj;rw [←hfj] at hfk;simp only at hfk;rw [←hfk];refine QT ?_;refine QY ?_ (r:=by conv=>lhs;simp[QV,hit,hxe,hmt])
           repeat first|refine QG ?_|refine QY ?_
           refine QT ?_;refine QD (r:=by conv=>lhs;simp[QV,hjt,hn]) (k:=?_);refine QN ?_
           repeat first|refine QG ?_|refine QY ?_
           exact ja (X:=Zd (some (pn,n,i))) hwf (by simp [Zd]) rfl
       ·have hie:i=code.length:=by omega
        subst hie;have hfi:code.findIdx? (Ss.canMove (Ss.rHome ds) nodes)=none:=List.findIdx?_eq_none_iff.2 fun x hx=>by
         obtain ⟨q,hq,rfl⟩:=List.getElem_of_mem hx;exact hno q hq hq
        rw [hfi] at hfj;simp only at hfj
        repeat first|refine QG ?_|refine QY ?_ (r:=by conv=>lhs;simp[QV,hit,hwj])
        show jp _ _ _ _ _ _ _;exact again ⟨Nat.sub_lt_sub_left hjt (Nat.lt_succ_self j),j+1,hjt,rfl,hfj,by simp [Fr.only,Fr.look],rfl⟩
     ·have e:nodes.drop j=[]:=by rw [List.drop_eq_nil_iff]; omega
      rw [e] at hfj;have hfj':none=fB:=hfj;rw [←hfj'] at hfk;simp only at hfk
      repeat first|refine QG ?_|refine QY ?_ (r:=by conv=>lhs;simp[QV,hjt,hw])
      show jp _ _ _ _ _ _ _;exact again ⟨Nat.sub_lt_sub_left hkt (Nat.lt_succ_self k),k+1,hkt,rfl,hfk,by simp [Fr.only,Fr.look],rfl⟩
  ·have e:lp.drop k=[]:=by rw [List.drop_eq_nil_iff]; omega
   rw [e] at hfk;have hfk':none=R:=hfk;rw [←hfk']
   repeat first|refine QG ?_|refine QY ?_ (r:=by conv=>lhs;simp[QV,hkt])
   exact ja (X:=Zd none) hwf (by simp [Zd]) rfl
end Go.Vw
namespace Go.Vw
open Go.RowKit
def flat1:V→Bool
 | .bool _ | .int _ _ | .nils | .slice _ _ _=>true
 | _=>false
def flatV:V→Bool
 | .tuple xs=>xs.all flat1
 | x=>flat1 x
def WC (n:Nat):V→V
 | .slice o off len => .slice (n+o) off len
 | x=>x
def jbo (n:Nat):V→V
 | .tuple xs => .tuple (xs.map (WC n))
 | x=>WC n x
def plus (S T:Store):Store:=⟨fun o=>if o<S.nx then S.get o else (T.get (o-S.nx)).map fun c=>(c.1,c.2.map (WC S.nx)),S.nx+T.nx⟩
def joinB (n:Nat) (β β2:Objs):Objs:=fun o=>if o<n then β o else β2 (o-n)
theorem Yq {m m2:Imm} {β β2:Objs} {n:Nat} {x:V} {v:Value} (hf:flat1 x=true) (h:Rep m2 β2 x v):Rep m (joinB n β β2) (WC n x) v:=by
 have hj : ∀ o,joinB n β β2 (n+o)=β2 o:=fun o=>by
  unfold joinB; rw [if_neg (by omega),Nat.add_sub_cancel_left]
 cases h with
 | imm h=>cases h with
  | bool b=>exact .imm (.bool b)
  | int k i=>exact .imm (.int k i)
  | nils a=>exact .imm (.nils a)
  | str | nilp | nilf | nilm | agg | list0 | list | ref=>simp [flat1] at hf
 | sliceDead o off len v h h1=>exact .sliceDead _ off len v ((hj o).trans h) h1
 | sliceVoid o off a h=>exact .sliceVoid _ off a ((hj o).trans h)
 | slice o off len b base s n' cap a h hc hcm ha=>exact .slice _ off len b base s n' cap a ((hj o).trans h) hc hcm ha
 | agg | tuple | func | ptrDead | ptr | mapDead | map | junk=>simp [flat1] at hf
theorem rep_shift {m m2:Imm} {β β2:Objs} {n:Nat} {x:V} {v:Value} (hf:flatV x=true) (h:Rep m2 β2 x v):Rep m (joinB n β β2) (jbo n x) v:=by
 by_cases ht : ∃ xs,x = .tuple xs
 ·obtain ⟨xs,rfl⟩:=ht;simp only [flatV,List.all_eq_true] at hf
  cases h with
  | imm h=>cases h
  | tuple xs vs hl hr =>
   refine .tuple _ vs (by simpa using hl) fun i y u hy hu => ?_
   simp only [List.getElem?_map,Option.map_eq_some_iff] at hy;obtain ⟨z,hz,rfl⟩:=hy;exact Yq (hf z (List.mem_of_getElem? hz)) (hr i z u hz hu)
 ·have e1:flatV x=flat1 x:=by cases x<;>first | rfl | exact absurd ⟨_,rfl⟩ ht
  have e2:jbo n x=WC n x:=by cases x<;>first | rfl | exact absurd ⟨_,rfl⟩ ht
  rw [e2];exact Yq (e1▸hf) h
theorem VCalls.thaw {P:Program} {f:FuncId} {xs xs':List V} {S S':Store} {Q:V→Store→Prop} (h:VCalls P f xs' ⟨fun _=>none,0⟩ Q) (hg:GhostArgs xs S xs' S') (hcl : ∀ x∈xs',x.closed=true)
  (hfl : ∀ r T,Q r T→flatV r=true ∧ ∀ o c,T.get o=some c → ∀ x∈c.2,flat1 x=true):VCalls P f xs S fun r T => ∃ r0 T0,Q r0 T0∧r=jbo S.nx r0∧T=plus S T0:=by
 intro m β w vs hS hr;obtain ⟨m1,β1,h1,h2,h3⟩:=hg m β w vs hS hr;have h0:Holds ⟨fun _=>none,0⟩ m1 (fun _ => .fresh) w :=
  ⟨h1.imm,fun o b hb=>by simp [Loc.block?] at hb,fun o o' b hb=>by simp [Loc.block?] at hb,fun o=>by simp,fun o _=>rfl,fun o ho=>absurd ho (Nat.not_lt_zero _),fun o c hc=>by cases hc⟩
 have hr0:RepL m1 (fun _ => .fresh) xs' vs:=⟨h3.1,fun i x v hx hv => .imm ((h3.2 i x v hx hv).closed (hcl x (List.mem_of_getElem? hx)))⟩
 refine (h m1 _ w vs h0 hr0).mono ?_;rintro e w' ⟨v,x,T0,m2,β2,he,hQ,k1,k2,k3⟩;obtain ⟨hf1,hf2⟩:=hfl x T0 hQ;have hheap : ∀ b,b<w.heap.size→w'.heap[b]? = w.heap[b]? := by
  intro b hb
  cases hm:m1 b with
  | some ob=>rw [h1.imm b ob hm,k2.imm b ob (k3.imm b ob hm)]
  | none=>exact (k3.keep b hb hm fun o=>by simp [Loc.block?]).1
 have hnob : ∀ b,b<w.heap.size → ∀ o,(β2 o).block? ≠ some b:=by
  intro b hb o
  cases hm:m1 b with
  | some ob =>
   intro hc;have:=k2.apart o b hc;rw [k3.imm b ob hm] at this; cases this
  | none=>exact (k3.keep b hb hm fun o=>by simp [Loc.block?]).2.2 o
 have hlt : ∀ {b:Nat} {ob:Obj},w.heap[b]? = some ob→b<w.heap.size:=by
  intro b ob hb;rcases Nat.lt_or_ge b w.heap.size with h | h
  ·exact h
  ·rw [Array.getElem?_eq_none h] at hb; cases hb
 have hsome : ∀ {b:Nat} {ob:Obj},w.heap[b]? = some ob→w'.heap[b]? = some ob:=fun {b ob} hb=>by rw [hheap b (hlt hb),hb]
 have hblk : ∀ o b,(β o).block? = some b→b<w.heap.size:=by
  intro o b hb;have hon:o<S.nx:=by
   rcases Nat.lt_or_ge o S.nx with h | h
   ·exact h
   ·rw [(hS.fresh o).2 h] at hb; cases hb
  cases hg:S.get o with
  | none=>rw [hS.dead o hon hg] at hb; cases hb
  | some c =>
   have hl:=hS.live o c hg
   cases hβ:β o with
   | fresh=>rw [hβ] at hb; cases hb
   | dead=>rw [hβ] at hb; cases hb
   | void=>rw [hβ] at hb; cases hb
   | lies b' base s n =>
    rw [hβ] at hl hb
    cases hb
    obtain ⟨_,arr,T,e1,_⟩:=hl;exact hlt e1
   | mp b' =>
    rw [hβ] at hl hb
    cases hb
    obtain ⟨es,clock,e1,_⟩:=hl;exact hlt e1
 have jl : ∀ {o},o<S.nx→joinB S.nx β β2 o=β o:=fun h=>if_pos h
 have jr : ∀ {o}, ¬ o<S.nx→joinB S.nx β β2 o=β2 (o-S.nx):=fun h=>if_neg h
 have hstep:Step β (joinB S.nx β β2):=fun o ho=>by
  have hon:o<S.nx:=by
   rcases Nat.lt_or_ge o S.nx with h | h
   ·exact h
   ·exact absurd ((hS.fresh o).2 h) ho
  exact .inl (jl hon)
 refine ⟨v,jbo S.nx x,plus S T0,m,joinB S.nx β β2,he,⟨x,T0,hQ,rfl,rfl⟩,rep_shift hf1 k1,⟨fun b o hb=>hsome (hS.imm b o hb),fun o b hb => ?_,fun o o' b hb hb' => ?_,fun o => ?_,fun o ho => ?_,fun o ho hn => ?_,fun o c hc => ?_⟩,⟨fun _ _ h=>h,hstep,k3.size,fun b hb hm hβ=>⟨hheap b hb,hm,fun o => ?_⟩,k3.os.trans (by rfl),k3.tape,k3.output⟩⟩
 ·by_cases hon:o<S.nx
  ·rw [jl hon] at hb; exact hS.apart o b hb
  ·rw [jr hon] at hb;have h5:=k2.apart _ b hb
   cases hm:m b with
   | none=>rfl
   | some ob=>rw [k3.imm b ob (h2.imm b ob hm)] at h5; cases h5
 ·by_cases hon:o<S.nx
  ·rw [jl hon] at hb
   by_cases hon':o'<S.nx
   ·rw [jl hon'] at hb'; exact hS.inj o o' b hb hb'
   ·rw [jr hon'] at hb'; exact absurd hb' (hnob b (hblk o b hb) _)
  ·rw [jr hon] at hb
   by_cases hon':o'<S.nx
   ·rw [jl hon'] at hb'; exact absurd hb (hnob b (hblk o' b hb') _)
   ·rw [jr hon'] at hb';have:=k2.inj _ _ b hb hb';omega
 ·show _↔S.nx+T0.nx≤o
  by_cases hon:o<S.nx
  ·rw [jl hon,hS.fresh]; omega
  ·rw [jr hon,k2.fresh]; omega
 ·have ho':S.nx+T0.nx≤o:=ho;show (if o<S.nx then S.get o else (T0.get (o-S.nx)).map _)=none;rw [if_neg (by omega),k2.gone _ (by omega)]; rfl
 ·have ho':o<S.nx+T0.nx:=ho;have hn':(if o<S.nx then S.get o else (T0.get (o-S.nx)).map fun c=>(c.1,c.2.map (WC S.nx)))=none:=hn
  by_cases hon:o<S.nx
  ·rw [if_pos hon] at hn';rw [jl hon]; exact hS.dead o hon hn'
  ·rw [if_neg hon,Option.map_eq_none_iff] at hn';rw [jr hon]; exact k2.dead _ (by omega) hn'
 ·have hc':(if o<S.nx then S.get o else (T0.get (o-S.nx)).map fun c=>(c.1,c.2.map (WC S.nx)))=some c:=hc
  by_cases hon:o<S.nx
  ·rw [if_pos hon] at hc';rw [jl hon];have hl:=hS.live o c hc'
   cases hβ:β o with
   | fresh=>rw [hβ] at hl; exact hl.elim
   | dead=>rw [hβ] at hl; exact hl.elim
   | void=>rw [hβ] at hl; exact hl
   | lies b base s n =>
    rw [hβ] at hl;obtain ⟨e0,arr,T,e1,e2,e3,e4⟩:=hl;refine ⟨e0,arr,T,hsome e1,e2,e3,fun i x hx => ?_⟩;obtain ⟨v,a1,a2,a3⟩:=e4 i x hx;exact ⟨v,a1,a2.mono (fun _ _ h=>h) hstep,a3⟩
   | mp b =>
    rw [hβ] at hl;obtain ⟨es,clock,e1,e2,e3⟩:=hl;refine ⟨es,clock,hsome e1,e2,fun i x en hx hen => ?_⟩;obtain ⟨k,v,a1,a2,a3⟩:=e3 i x en hx hen;exact ⟨k,v,a1,a2,a3.mono (fun _ _ h=>h) hstep⟩
  ·rw [if_neg hon] at hc';rw [jr hon];obtain ⟨c0,hc0,rfl⟩:=Option.map_eq_some_iff.1 hc';have hl:=k2.live _ c0 hc0;have hfc:=hf2 _ c0 hc0
   cases hβ:β2 (o-S.nx) with
   | fresh=>rw [hβ] at hl; exact hl.elim
   | dead=>rw [hβ] at hl; exact hl.elim
   | void =>
    rw [hβ] at hl;have hl':c0.2=[]:=hl;show c0.2.map _=[]
    rw [hl']; rfl
   | lies b base s n =>
    rw [hβ] at hl;obtain ⟨e0,arr,T,e1,e2,e3,e4⟩:=hl;refine ⟨e0,arr,T,e1,e2,by simpa using e3,fun i x hx => ?_⟩;simp only [List.getElem?_map,Option.map_eq_some_iff] at hx;obtain ⟨y,hy,rfl⟩:=hx;obtain ⟨v,a1,a2,a3⟩:=e4 i y hy;exact ⟨v,a1,Yq (hfc y (List.mem_of_getElem? hy)) a2,a3⟩
   | mp b =>
    rw [hβ] at hl;obtain ⟨es,clock,e1,e2,e3⟩:=hl;have:c0.2=[]:=by
     cases hcl:c0.2 with
     | nil=>rfl
     | cons y r =>
      rw [hcl] at e2;have hlt:0<es.size:=by rw [←e2]; simp
      obtain ⟨k,v,a1,_⟩:=e3 0 y es[0] (by rw [hcl]; rfl) (by simp [hlt]);have:=hfc y (by rw [hcl]; simp);rw [a1] at this;simp [flat1] at this
    refine ⟨es,clock,e1,by simpa using e2,fun i x en hx _ => ?_⟩;rw [this] at hx;simp at hx
 ·by_cases hon:o<S.nx
  ·rw [jl hon]; exact hβ o
  ·rw [jr hon]; exact hnob b hb _
end Go.Vw
namespace Go.Vw
open Go.Proofs Go.RowKit
theorem lnodup_ne {hs:List Nat} {ob op oc oe:Nat} {ic ie:List Nat} (hd:(hs++ob::(op::oc::(ic++oe::ie))).Nodup):(∀ o∈hs,o≠ob∧o≠op∧o≠oc∧o≠oe∧o∉ic∧o∉ie)∧ob≠op∧ob≠oc∧ob≠oe∧ob∉ic∧ob∉ie∧op≠oc∧op≠oe∧op∉ic∧op∉ie∧oc≠oe∧oc∉ic∧oc∉ie∧oe∉ic∧oe∉ie∧(∀ o∈ic,o∉ie)∧ic.Nodup∧ie.Nodup:=by
 obtain ⟨h1,h2,h3⟩:=List.nodup_append.1 hd;simp only [List.nodup_cons,List.mem_cons,List.mem_append,not_or,List.nodup_append] at h2;obtain ⟨⟨a1,a2,a3,a4,a5⟩,⟨b1,b2,b3,b4⟩,⟨c1,c2,c3⟩,d1,⟨e1,e2⟩,d3⟩:=h2;refine ⟨fun o ho=>⟨h3 o ho ob (by simp),h3 o ho op (by simp),h3 o ho oc (by simp),h3 o ho oe (by simp),fun hm=>h3 o ho o (by simp [hm]) rfl,fun hm=>h3 o ho o (by simp [hm]) rfl⟩,a1,a2,a4,a3,a5,b1,b3,b2,b4,c2,c1,c3, ?_,e1, ?_,d1,e2⟩
 ·exact fun hm=>d3 oe hm oe (by simp) rfl
 ·exact fun o ho hm=>d3 o ho o (by simp [hm]) rfl
theorem Rows.cut {α:Type} {T:Store} {tys:List Ty} {enc:α→V} {xs:List α} {rs:List (List V)} {ids:List Nat} (h:Rows T tys enc xs rs ids) : ∀ {k:Nat} {x:α},xs[k]? = some x → ∃ (r:List V) (i1 ii i2:List Nat),rs[k]? = some r∧ids=i1++(ii++i2)∧OwL T tys r (enc x).cells ii∧Rows T tys enc (xs.eraseIdx k) (rs.eraseIdx k) (i1++i2):=by
 induction h with
 | nil=>intro k x hx; simp at hx
 | @cons y r ii xs rs ids h t ih =>
  intro k x hx
  cases k with
  | zero =>
   simp only [List.getElem?_cons_zero,Option.some.injEq] at hx;subst hx;exact ⟨r,[],ii,ids,rfl,rfl,h,t⟩
  | succ k =>
   obtain ⟨s,i1,jj,i2,e1,e2,e3,e4⟩:=ih (k:=k) (x:=x) (by simpa using hx);subst e2;refine ⟨s,ii++i1,jj,i2,e1,by simp,e3, ?_⟩;have:=Rows.cons (x:=y) h e4;simpa using this
theorem Rows.snoc {α:Type} {T:Store} {tys:List Ty} {enc:α→V} {xs:List α} {rs:List (List V)} {ids:List Nat} (h:Rows T tys enc xs rs ids) {x:α} {r:List V} {ii:List Nat} (hr:OwL T tys r (enc x).cells ii):Rows T tys enc (xs++[x]) (rs++[r]) (ids++ii):=by
 induction h with
 | nil=>have:=Rows.cons (x:=x) hr .nil; simpa using this
 | @cons y s jj xs rs ids h t ih=>have:=Rows.cons (x:=y) h ih; simpa using this
theorem ins_mk {T:Store} {x:Ss.Ins} {oa ou:Nat} (h1:T.get oa=some (1,x.args.map vint)) (h2:T.get ou=some (1,x.outs.map vint)):OwL T insD [vint x.op,vu x.n, .slice oa 0 x.args.length, .slice ou 0 x.outs.length] (jg x).cells [oa,ou]:=by
 rw [jJ];have hB:=row_mk h2;rw [Ya] at hB;have hA:OwL T (.s [.c]::[.s [.c]]) (.slice oa 0 x.args.length::[.slice ou 0 x.outs.length]) (vl vint x.args::[vl vint x.outs]) (oa::[ou]) :=
  OwL.slice (s:=1) (enc:=vint) (fun _=>rfl) (fun _=>rfl) x.args (by rw [qu]; exact h1) hB
 exact .c (x:=vint x.op) rfl (.c (x:=vu x.n) rfl hA)
section
variable {S H:Store} {hs:List Nat} {ob:Nat} {bs:List Ss.Block} {T:Store} {rs:List (List V)} {ids:List Nat} {i:Nat}
theorem BInv.at2 {jj:List Nat} (h:BInv S H (jj++hs) ob bs T rs ids) (hw:T.Wf) {i:Nat} (hi:i<bs.length) :
  ∃ (r1:List (List V)) (r2:List (List V)) (i1 i2:List Nat) (op oc oe:Nat) (rc:List (List V)) (ce:List V) (ip ic ie:List Nat),rs=r1++[.slice op 0 bs[i].params.length, .slice oc 0 bs[i].code.length,vint bs[i].term.kind,vint bs[i].term.arg, .slice oe 0 bs[i].term.to.length,vl vint bs[i].term.args]::r2∧(∀ s∈r1,s.length=6)∧r1.length=i ∧
   T.get op=some (1,bs[i].params.map vint)∧T.get oc=some (4,rc.flatten)∧Rows T insD jg bs[i].code rc ic∧T.get oe=some (2,ce)∧OwL T (reps bs[i].term.to.length Ko) ce (je jf bs[i].term.to) ie ∧
   ids=i1++((op::oc::(ic++oe::ie))++i2)∧((jj++hs)++ob::(op::oc::(ic++oe::ie))).Nodup ∧
   ∀ (T':Store) (r':List V) (b':Ss.Block) (ii':List Nat),T.nx≤T'.nx→(∀ o,o<T.nx→o≠ob→o∉op::oc::(ic++oe::ie)→T'.get o=T.get o)→T'.get ob=some (6,(r1++r'::r2).flatten)→OwL T' blkD r' (jb b').cells ii'→ii'.Nodup→(∀ o∈ii',o∈op::oc::(ic++oe::ie)∨o∈jj∨T.nx≤o) →
    BInv S H hs ob (bs.set i b') T' (r1++r'::r2) (i1++(ii'++i2)):=by
 have hlt:=h.all_lt hw;obtain ⟨old,hd,al,cb,own,nd,lt⟩:=h;obtain ⟨r1,r,r2,i1,ii,i2,rfl,hl,rfl,hb,hput⟩:=own.at (List.getElem?_eq_getElem hi);have hr6:=own.len.2;obtain ⟨op,oc,oe,rc,ce,ip,ic,ie,rfl,rfl,hop,hoc,hrc,hoe,hie⟩:=block_row hb;have sub:List.Sublist (op::oc::(ic++oe::ie)) (i1++((op::oc::(ic++oe::ie))++i2)):=(List.sublist_append_left _ _).trans (List.sublist_append_right _ _);refine ⟨r1,r2,i1,i2,op,oc,oe,rc,ce,ip,ic,ie,rfl,fun s hs=>hr6 s (by simp [hs]),hl,hop,hoc,hrc,hoe,hie,rfl,List.Sublist.nodup ((List.Sublist.refl (jj++hs)).append (sub.cons_cons ob)) nd, ?_⟩;intro T' r' b' ii' hnx hk hcb how hnd hin;generalize op::oc::(ic++oe::ie)=ii at *
 have cnt : ∀ o,((jj++hs)++ob::(i1++(ii++i2))).count o≤1:=fun o=>List.nodup_iff_count.1 nd o
 simp only [List.count_append,List.count_cons] at cnt;have pos : ∀ {o:Nat} {l:List Nat},o∈l→1≤l.count o:=fun h=>List.count_pos_iff.2 h
 have nob : ∀ o,o∈jj∨o∈hs∨o∈i1∨o∈ii∨o∈i2→o≠ob:=by
  rintro o ho rfl;have c:=cnt o;simp only [beq_self_eq_true,if_true] at c;rcases ho with ho | ho | ho | ho | ho<;>(have:=pos ho; omega)
 have nii : ∀ o,o∈hs∨o∈i1∨o∈i2→o∉ii:=by
  intro o ho hm;have c:=cnt o;have:=pos hm;rcases ho with ho | ho | ho<;>(have:=pos ho; omega)
 have keep : ∀ o,o∈hs∨o∈i1∨o∈i2→T'.get o=T.get o:=fun o ho=>by
  refine hk o (hlt o ?_) (nob o ?_) (nii o ho)
  ·rcases ho with ho | ho | ho<;>simp [ho]
  ·rcases ho with ho | ho | ho<;>simp [ho]
 refine ⟨⟨Nat.le_trans old.1 hnx,fun o ho => ?_⟩,fun o ho=>(keep o (.inl ho)).trans (hd o (by simp [ho])),fun o ho=>al o (by simp [ho]),hcb,hput T' r' b' ii' (fun o ho=>keep o ?_) how, ?_,fun o ho => ?_⟩
 ·rw [hk o (Nat.lt_of_lt_of_le ho old.1) ?_ ?_]
  ·exact old.2 o ho
  ·rintro rfl;have:=lt o (by simp); omega
  ·intro hm;have:=lt o (by simp [hm]); omega
 ·rcases List.mem_append.1 ho with ho | ho
  ·exact .inr (.inl ho)
  ·exact .inr (.inr ho)
 ·refine List.nodup_iff_count.2 fun o => ?_
  simp only [List.count_append,List.count_cons];have c:=cnt o
  by_cases hm:o∈ii'
  ·have h1:=List.nodup_iff_count.1 hnd o;rcases hin o hm with hm2 | hm2 | hge
   ·have:=pos hm2; omega
   ·have z4:(if (ob==o)=true then 1 else 0)=0:=by
     rw [if_neg];simp only [beq_iff_eq]; exact fun e=>nob o (.inl hm2) e.symm
    have:=pos hm2; omega
   ·have z1:hs.count o=0:=List.count_eq_zero.2 fun h=>by have:=hlt o (by simp [h]); omega
    have z2:i1.count o=0:=List.count_eq_zero.2 fun h=>by have:=hlt o (by simp [h]); omega
    have z3:i2.count o=0:=List.count_eq_zero.2 fun h=>by have:=hlt o (by simp [h]); omega
    have z4:(if (ob==o)=true then 1 else 0)=0:=by
     have:=hlt ob (by simp);rw [if_neg];simp only [beq_iff_eq]; omega
    omega
  ·have:ii'.count o=0:=List.count_eq_zero.2 hm;omega
 ·simp only [List.mem_append,List.mem_cons] at ho;rcases ho with ho | ho | ho | ho | ho
  ·exact lt o (by simp [ho])
  ·exact lt o (by simp [ho])
  ·exact lt o (by simp [ho])
  ·rcases hin o ho with h | h | h
   ·exact lt o (by simp [h])
   ·exact lt o (by simp [h])
   ·have:=old.1; omega
  ·exact lt o (by simp [ho])
theorem BInv.hold (h:BInv S H hs ob bs T rs ids) {jj:List Nat} (hj : ∀ o∈jj,(T.get o).isSome=true) (hn:(jj++(hs++ob::ids)).Nodup) (hl : ∀ o∈jj,S.nx≤o):BInv S T (jj++hs) ob bs T rs ids:=by
 obtain ⟨old,hd,al,cb,own,nd,lt⟩:=h;refine ⟨old,fun o _=>rfl,fun o ho => ?_,cb,own,by simpa using hn,fun o ho => ?_⟩
 ·rcases List.mem_append.1 ho with ho | ho
  ·exact hj o ho
  ·rw [hd o ho]; exact al o ho
 ·simp only [List.append_assoc,List.mem_append] at ho;rcases ho with ho | ho
  ·exact hl o ho
  ·exact lt o (by simpa using ho)
theorem BInv.cut (h:BInv S H hs ob bs T rs ids) (hw:T.Wf) {n i:Nat} (hn:n<bs.length) (hi:i<bs[n].code.length) :
  ∃ (oc:Nat) (rc:List (List V)) (oa ou:Nat),rs.flatten[n*6+1]? = some (.slice oc 0 bs[n].code.length)∧T.get oc=some (4,rc.flatten)∧(∀ r∈rc,r.length=4)∧rc.length=bs[n].code.length∧rc[i]? = some [vint bs[n].code[i].op,vu bs[n].code[i].n, .slice oa 0 bs[n].code[i].args.length, .slice ou 0 bs[n].code[i].outs.length] ∧
   T.get oa=some (1,bs[n].code[i].args.map vint)∧T.get ou=some (1,bs[n].code[i].outs.map vint)∧ob≠oc∧(∀ o∈hs,o≠oc∧o≠ob)∧oa≠oc∧ou≠oc∧oa≠ob∧ou≠ob ∧
   ∀ T':Store,T'=(T.upd oc (4,(rc.eraseIdx i).flatten)).upd ob (6,rs.flatten.set (n*6+1) (.slice oc 0 (bs[n].code.length-1))) → ∃ rs' ids',rs'.flatten=rs.flatten.set (n*6+1) (.slice oc 0 (bs[n].code.length-1))∧BInv S T' ([oa,ou]++hs) ob (bs.set n (Ss.cutAt bs[n] i)) T' rs' ids':=by
 have hlt:=h.all_lt hw;have hnd0:=h.nd;have hlt0:=h.lt;obtain ⟨r1,r2,i1,i2,op,oc,oe,rc,ce,ip,ic,ie,rfl,h6,hl,hop,hoc,hrc,hoe,hie,rfl,hnd,hput⟩:=BInv.at2 (jj:=[]) h hw hn;simp only [List.nil_append] at hnd;obtain ⟨n0,n1,n2,n3,n4,n5,n6,n7,n8,n9,n10,n11,n12,n13,n14,n15,n16,n17⟩:=lnodup_ne hnd;obtain ⟨r,j1,jj,j2,hrcg,hic,hrow,hcut⟩:=hrc.cut (List.getElem?_eq_getElem hi);obtain ⟨oa,ou,hr,hjj,hoa,hou⟩:=ins_row hrow;subst hr; subst hjj;have hc4:=hrc.len;have hoai:oa∈ic:=by rw [hic]; simp
 have houi:ou∈ic:=by rw [hic]; simp
 refine ⟨oc,rc,oa,ou,Jm h6 hl rfl,hoc,fun r hr=>hc4.2 r hr,hc4.1,hrcg,hoa,hou,n2,fun o ho=>⟨(n0 o ho).2.2.1,(n0 o ho).1⟩,fun e=>n11 (e▸hoai),fun e=>n11 (e▸houi),fun e=>n4 (e▸hoai),fun e=>n4 (e▸houi), ?_⟩;intro T' hT';have hsub : ∀ o∈j1++j2,o∈ic:=fun o ho=>by
  rw [hic]; rcases List.mem_append.1 ho with h | h<;>simp [h]
 have hfs:=JY (m:=6) (r:=[V.slice op 0 bs[n].params.length, .slice oc 0 bs[n].code.length,vint bs[n].term.kind,vint bs[n].term.arg, .slice oe 0 bs[n].term.to.length,vl vint bs[n].term.args]) (r2:=r2) (q:=1) (w := .slice oc 0 (bs[n].code.length-1)) h6 hl (by simp);have g : ∀ o,o≠ob→o≠oc→T'.get o=T.get o:=fun o h1 h2=>by rw [hT',ju h1,ju h2]
 have gb:T'.get ob=some (6,(r1++[V.slice op 0 bs[n].params.length, .slice oc 0 (bs[n].code.length-1),vint bs[n].term.kind,vint bs[n].term.arg, .slice oe 0 bs[n].term.to.length,vl vint bs[n].term.args]::r2).flatten):=by
  rw [hT',zl,hfs]; rfl
 have hcl:(Ss.cutAt bs[n] i).code.length=bs[n].code.length-1:=by simp [Ss.cutAt,List.length_eraseIdx_of_lt hi]
 have hblk:OwL T' blkD [V.slice op 0 bs[n].params.length, .slice oc 0 (bs[n].code.length-1),vint bs[n].term.kind,vint bs[n].term.arg, .slice oe 0 bs[n].term.to.length,vl vint bs[n].term.args] (jb (Ss.cutAt bs[n] i)).cells (op::oc::((j1++j2)++oe::ie)):=by
  have:=jcC (T:=T') (b:=Ss.cutAt bs[n] i) (op:=op) (oc:=oc) (oe:=oe) (rs:=rc.eraseIdx i) (ce:=ce) (ic:=j1++j2) (ie:=ie) ?_ ?_ ?_ ?_ ?_
  ·rw [hcl] at this; exact this
  ·rw [g op (Ne.symm n1) n6]; exact hop
  ·rw [hT',ju (Ne.symm n2),zl]
  ·exact hcut.mono fun o ho=>g o (fun e=>n4 (e▸hsub o ho)) (fun e=>n11 (e▸hsub o ho))
  ·rw [g oe (Ne.symm n3) (Ne.symm n10)]; exact hoe
  ·exact hie.mono fun o ho=>g o (fun e=>n5 (e▸ho)) (fun e=>n12 (e▸ho))
 have cnt : ∀ o,(hs++ob::(i1++((op::oc::(ic++oe::ie))++i2))).count o≤1:=fun o=>List.nodup_iff_count.1 hnd0 o
 rw [hic] at cnt;have hnew:=hput T' _ (Ss.cutAt bs[n] i) (op::oc::((j1++j2)++oe::ie)) (by rw [hT']; exact Nat.le_refl _) (fun o _ h1 h2=>g o h1 (fun e=>h2 (by simp [e]))) gb hblk (by
  refine List.nodup_iff_count.2 fun o => ?_
  have c:=cnt o;simp only [List.count_append,List.count_cons,List.count_nil] at c ⊢;omega) (fun o ho => .inl (by
   simp only [List.mem_cons,List.mem_append] at ho ⊢;rcases ho with h | h | h | h
   ·exact .inl h
   ·exact .inr (.inl h)
   ·exact .inr (.inr (.inl (hsub o (List.mem_append.2 h))))
   ·exact .inr (.inr (.inr h))))
 refine ⟨_,_,hfs.symm,hnew.hold (fun o ho => ?_) (List.nodup_iff_count.2 fun o => ?_) (fun o ho => ?_)⟩
 ·simp only [List.mem_cons,List.not_mem_nil,or_false] at ho;rcases ho with rfl | rfl
  ·rw [g _ (fun e=>n4 (e▸hoai)) (fun e=>n11 (e▸hoai)),hoa]; rfl
  ·rw [g _ (fun e=>n4 (e▸houi)) (fun e=>n11 (e▸houi)),hou]; rfl
 ·have c:=cnt o;simp only [List.count_append,List.count_cons,List.count_nil] at c ⊢;omega
 ·refine hlt0 o ?_;simp only [List.mem_cons,List.not_mem_nil,or_false] at ho;rcases ho with rfl | rfl
  ·simp [hoai]
  ·simp [houi]
theorem BInv.push {oa ou:Nat} (h:BInv S H ([oa,ou]++hs) ob bs T rs ids) (hw:T.Wf) {p:Nat} (hp:p<bs.length) {x:Ss.Ins} (hoa:T.get oa=some (1,x.args.map vint)) (hou:T.get ou=some (1,x.outs.map vint)) :
  ∃ (oc:Nat) (cells:List V),rs.flatten[p*6+1]? = some (.slice oc 0 bs[p].code.length)∧T.get oc=some (4,cells)∧cells.length=bs[p].code.length*4∧ob≠oc∧(∀ o∈hs,o≠oc∧o≠ob)∧oa≠oc∧ou≠oc∧oa≠ob∧ou≠ob ∧
   ∀ (T':Store) (on:Nat),T.nx≤on→T.nx≤T'.nx→(∀ o,o<T.nx→o≠ob→o≠oc→T'.get o=T.get o)→T'.get on=some (4,cells++[vint x.op,vu x.n, .slice oa 0 x.args.length, .slice ou 0 x.outs.length])→T'.get ob=some (6,rs.flatten.set (p*6+1) (.slice on 0 (bs[p].code.length+1))) →
    ∃ rs' ids',rs'.flatten=rs.flatten.set (p*6+1) (.slice on 0 (bs[p].code.length+1))∧BInv S H hs ob (bs.set p (Ss.endWith bs[p] x)) T' rs' ids':=by
 have hlt:=h.all_lt hw;obtain ⟨r1,r2,i1,i2,op,oc,oe,rc,ce,ip,ic,ie,rfl,h6,hl,hop,hoc,hrc,hoe,hie,rfl,hnd,hput⟩:=BInv.at2 h hw hp;obtain ⟨n0,n1,n2,n3,n4,n5,n6,n7,n8,n9,n10,n11,n12,n13,n14,n15,n16,n17⟩:=lnodup_ne hnd;have hc4:=hrc.len;have a0:=n0 oa (by simp);have u0:=n0 ou (by simp);have hcl:rc.flatten.length=bs[p].code.length*4:=by rw [qY hc4.2,hc4.1]; rfl
 refine ⟨oc,rc.flatten,Jm h6 hl rfl,hoc,hcl,n2,fun o ho=>⟨(n0 o (by simp [ho])).2.2.1,(n0 o (by simp [ho])).1⟩,a0.2.2.1,u0.2.2.1,a0.1,u0.1, ?_⟩;intro T' on hon hnx hk hgn hgb;have hfs:=JY (m:=6) (r:=[V.slice op 0 bs[p].params.length, .slice oc 0 bs[p].code.length,vint bs[p].term.kind,vint bs[p].term.arg, .slice oe 0 bs[p].term.to.length,vl vint bs[p].term.args]) (r2:=r2) (q:=1) (w := .slice on 0 (bs[p].code.length+1)) h6 hl (by simp);rw [hfs] at hgb ⊢;have hin : ∀ o∈op::oc::(ic++oe::ie),o<T.nx:=fun o ho=>hlt o (by
  simp only [List.mem_append,List.mem_cons] at ho ⊢;rcases ho with h | h | h | h | h<;>simp [h])
 have ltm : ∀ o∈op::oc::(ic++oe::ie),o≠ob→o≠oc→T'.get o=T.get o:=fun o ho h1 h2=>hk o (hin o ho) h1 h2
 have lta:oa<T.nx:=hlt oa (by simp);have ltu:ou<T.nx:=hlt ou (by simp);have hcode:(Ss.endWith bs[p] x).code.length=bs[p].code.length+1:=by simp [Ss.endWith]
 have hblk:OwL T' blkD [V.slice op 0 bs[p].params.length, .slice on 0 (bs[p].code.length+1),vint bs[p].term.kind,vint bs[p].term.arg, .slice oe 0 bs[p].term.to.length,vl vint bs[p].term.args] (jb (Ss.endWith bs[p] x)).cells (op::on::((ic++[oa,ou])++oe::ie)):=by
  have:=jcC (T:=T') (b:=Ss.endWith bs[p] x) (op:=op) (oc:=on) (oe:=oe) (rs:=rc++[[vint x.op,vu x.n, .slice oa 0 x.args.length, .slice ou 0 x.outs.length]]) (ce:=ce) (ic:=ic++[oa,ou]) (ie:=ie) ?_ ?_ ?_ ?_ ?_
  ·rw [hcode] at this; exact this
  ·rw [ltm op (by simp) (Ne.symm n1) n6]; exact hop
  ·rw [hgn]; simp
  ·refine Rows.snoc (hrc.mono fun o ho=>ltm o (by simp [ho]) (fun e=>n4 (e▸ho)) (fun e=>n11 (e▸ho))) (ins_mk ?_ ?_)
   ·rw [hk oa lta a0.1 a0.2.2.1]; exact hoa
   ·rw [hk ou ltu u0.1 u0.2.2.1]; exact hou
  ·rw [ltm oe (by simp) (Ne.symm n3) (Ne.symm n10)]; exact hoe
  ·exact hie.mono fun o ho=>ltm o (by simp [ho]) (fun e=>n5 (e▸ho)) (fun e=>n12 (e▸ho))
 refine ⟨_,_,rfl,hput T' _ (Ss.endWith bs[p] x) (op::on::((ic++[oa,ou])++oe::ie)) hnx (fun o ho h1 h2=>hk o ho h1 (fun e=>h2 (by simp [e]))) hgb hblk (List.nodup_iff_count.2 fun o => ?_) (fun o ho => ?_)⟩
 ·have c:=List.nodup_iff_count.1 hnd o;have hno:o=on→(op::oc::(ic++oe::ie)).count o=0∧([oa,ou]:List Nat).count o=0:=fun e=>by
   subst e;refine ⟨List.count_eq_zero.2 fun h=>by have:=hin o h; omega,List.count_eq_zero.2 fun h => ?_⟩;simp only [List.mem_cons,List.not_mem_nil,or_false] at h;rcases h with h | h<;>omega
  simp only [List.count_append,List.count_cons,List.count_nil] at c hno ⊢
  by_cases e:o=on
  ·obtain ⟨z1,z2⟩:=hno e;subst e;simp only [beq_self_eq_true,if_true];omega
  ·have e2:(if (on==o)=true then 1 else 0)=0:=by
    rw [if_neg];simp only [beq_iff_eq]; exact fun h=>e h.symm
   omega
 ·simp only [List.mem_cons,List.mem_append,List.not_mem_nil,or_false] at ho ⊢;rcases ho with h | h | (h | h | h) | h
  ·exact .inl (.inl h)
  ·exact .inr (.inr (by omega))
  ·exact .inl (.inr (.inr (.inl h)))
  ·exact .inr (.inl (.inl h))
  ·exact .inr (.inl (.inr h))
  ·exact .inl (.inr (.inr (.inr h)))
theorem BInv.held (h:BInv S H hs ob bs T rs ids) (hw:T.Wf) {o:Nat} (ho:o∈hs) (c:Nat × List V):BInv S (H.upd o c) hs ob bs (T.upd o c) rs ids:=by
 obtain ⟨old,hd,al,cb,own,nd,lt⟩:=h;have hne : ∀ q∈ob::ids,q≠o:=fun q hq e=>(List.nodup_append.1 nd).2.2 o ho q hq e.symm
 refine ⟨⟨old.1,fun q hq => ?_⟩,fun q hq => ?_,fun q hq => ?_, ?_,own.mono fun q hq => ?_,nd,lt⟩
 ·have:=lt o (by simp [ho]);rw [ju (by omega)]; exact old.2 q hq
 ·rw [qn,qn,hd q hq]
 ·rw [qn]; split
  ·rfl
  ·exact al q hq
 ·rw [ju (hne ob (by simp))]; exact cb
 ·exact ju (hne q (by simp [hq]))
end
end Go.Vw
namespace Go.Vw
open Go.Proofs Go.RowKit
attribute [-simp] List.map_set
theorem ledge_row {T:Store} {e:Ss.Edge} {r:List V} {ii:List Nat} (h:OwL T Ko r (jf e).cells ii) : ∃ oa,r=[vint e.to, .slice oa 0 e.args.length]∧ii=[oa]∧T.get oa=some (1,e.args.map vint):=by
 rw [qq] at h
 cases h with
 | c h1 h =>
  obtain ⟨o,rfl,h2,h3⟩:=row_row (l:=e.args) (by rw [Ya]; exact h);exact ⟨o,rfl,h2,h3⟩
section
variable {S H:Store} {hs:List Nat} {ob:Nat} {bs:List Ss.Block} {T:Store} {rs:List (List V)} {ids:List Nat} {i:Nat}
theorem BInv.row (h:BInv S H hs ob bs T rs ids) (hw:T.Wf) (hi:i<bs.length) : ∃ (op oc oe:Nat) (rc re:List (List V)),
  (rs.flatten.drop (i*6)).take 6=[.slice op 0 bs[i].params.length, .slice oc 0 bs[i].code.length,vint bs[i].term.kind,vint bs[i].term.arg, .slice oe 0 bs[i].term.to.length,vl vint bs[i].term.args]∧(i+1)*6≤rs.flatten.length∧rs.flatten[i*6+1]? = some (.slice oc 0 bs[i].code.length) ∧
  T.get op=some (1,bs[i].params.map vint)∧T.get oc=some (4,rc.flatten)∧(∀ r∈rc,r.length=4)∧rc.length=bs[i].code.length∧T.get oe=some (2,re.flatten)∧re.length=bs[i].term.to.length∧re.flatten.length=bs[i].term.to.length*2 ∧
  (∀ (k:Nat) (hk:k<bs[i].term.to.length), ∃ oa,(re.flatten.drop (k*2)).take 2=[vint bs[i].term.to[k].to, .slice oa 0 bs[i].term.to[k].args.length]) ∧
  ∀ (k:Nat) (hk:k<bs[i].code.length), ∃ oa ou,(rc.flatten.drop (k*4)).take 4=[vint bs[i].code[k].op,vu bs[i].code[k].n, .slice oa 0 bs[i].code[k].args.length, .slice ou 0 bs[i].code[k].outs.length]∧T.get oa=some (1,bs[i].code[k].args.map vint)∧T.get ou=some (1,bs[i].code[k].outs.map vint):=by
 obtain ⟨r1,r2,i1,i2,op,oc,oe,rc,ce,ip,ic,ie,rfl,h6,hl,hop,hoc,hrc,hoe,hie,rfl,hnd,hput⟩:=h.at hw hi;obtain ⟨re,rfl,hrl,hre⟩:=ZW (enc:=jf) (tys:=Ko) (fun x=>by rw [qq]; rfl) hie;have he2:=hre.len;have hc4:=hrc.len;have hall:=h.own.len;have hfl:=qY hall.2;have hil:i<(r1++[V.slice op 0 bs[i].params.length, .slice oc 0 bs[i].code.length,vint bs[i].term.kind,vint bs[i].term.arg, .slice oe 0 bs[i].term.to.length,vl vint bs[i].term.args]::r2).length:=by rw [hall.1]; exact hi
 refine ⟨op,oc,oe,rc,re, ?_, ?_,Jm h6 hl rfl,hop,hoc,hc4.2,hc4.1,hoe,he2.1, ?_,fun k hk => ?_,fun k hk => ?_⟩
 ·have:=WT (m:=6) hall.2 hil;rw [this];subst hl;simp
 ·rw [hfl];have:blkD.length=6:=rfl;rw [this];exact Nat.mul_le_mul_right 6 hil
 ·rw [qY he2.2,he2.1]; rfl
 ·obtain ⟨e1,e,e2,j1,jj,j2,rfl,hel,rfl,hrow,hep⟩:=hre.at (List.getElem?_eq_getElem hk);obtain ⟨oa,rfl,rfl,hoa⟩:=ledge_row hrow;have:=WT (m:=2) he2.2 (k:=k) (by rw [he2.1]; exact hk);refine ⟨oa, ?_⟩;rw [this];subst hel;simp
 ·obtain ⟨e1,e,e2,j1,jj,j2,rfl,hel,rfl,hrow,hep⟩:=hrc.at (List.getElem?_eq_getElem hk);obtain ⟨oa,ou,rfl,rfl,hoa,hou⟩:=ins_row hrow;have:=WT (m:=4) hc4.2 (k:=k) (by rw [hc4.1]; exact hk);refine ⟨oa,ou, ?_,hoa,hou⟩;rw [this];subst hel;simp
end
theorem SuccG_v {S H:Store} {hs:List Nat} {ob:Nat} {bs:List Ss.Block} {T:Store} {rs:List (List V)} {ids:List Nat} (hI:BInv S H hs ob bs T rs ids) {fi fo:List Int} {ot nt:Nat}
  (cs' : ∀ l,VCalls Tryz.prog 64 [.agg [vl vint fi,vl vint fo, .slice ot 0 nt, .slice ob 0 bs.length]] (St T [] l) fun r T'=>r = .bool true∧T'=St T [] l) (hbl:bs.length≤4096) (htl : ∀ b∈bs,b.term.to.length≤4096) :
  VCalls Tryz.prog 26 [.agg [vl vint fi,vl vint fo, .slice ot 0 nt, .slice ob 0 bs.length]] T fun r T'=>r=vl (vl vint) (Ss.succs bs)∧T'=T:=by
 refine QB (c:=jd Tryz.f26) Tryz.func26 Tryz.ntmps26 fun hwf=>?_
 have hcb:=hI.cb;have lb:=jy hwf hcb;have bb:=fun u l => @jk T u l ob lb
 repeat first|refine QG ?_|refine QY ?_
 refine QT ?_;refine QP ?_;refine jT rfl (cs' _) ?_;rintro X T9 ⟨rfl,rfl⟩;refine QW ?_;refine QT ?_;refine jH rfl rfl rfl ?_;refine QT ?_;refine jB rfl ?_;refine QT ?_;refine QY ?_;refine qW 3 1 rfl (by conv=>lhs; simp [Fr.set]) ?_
 repeat first|refine QG ?_|refine QY ?_ (r:=by conv=>lhs;simp[QV,bb,hcb])
 refine QO [3,13,14,15] ?_;have bP:=fun ks=>zz (n:=T.nx) ks lb
 have bT:=fun ks=>qX (n:=T.nx) ks lb
 refine Wx [1] hwf (by decide) (by simp [bP,bT]) (by conv=>lhs; simp [bP,bT]) (by conv=>lhs; simp [bP,bT]) (by conv=>lhs; simp [bP,bT]) ?_;refine QT ?_;refine jc [3,13,14,15] rfl (fun c σ S' => ∃ (k:Nat) (out:List (List Int)),k≤bs.length∧c=bs.length-k∧out.length=k∧out=(bs.take k).map Ss.rowOf∧σ=[(3, .slice (lid T.nx 0) 0 k),(13, .slice ob 0 bs.length),(14,vnat bs.length),(15,vnat k)]∧S'=St T [] [some (1,out.map (vl vint))]) bs.length ?_ ?_
 ·exact ⟨0,[],by omega,rfl,rfl,by simp,by simp [Fr.only],by simp⟩
 ·rintro c σ T9 ⟨k,out,hk,rfl,hol,ho,rfl,rfl⟩
  by_cases hkt:k<bs.length
  ·have hw:=ji hkt (by omega);obtain ⟨op,oc,oe,rc,re,hrow,hlen,_,_,_,_,_,hge,hrel,hrel2,hre,_⟩:=hI.row hwf hkt;have htl':=htl _ (List.getElem_mem hkt);obtain ⟨⟨ps,code,⟨tk,ta,to,az⟩⟩,hx⟩ : ∃ b,bs[k]=b:=⟨_,rfl⟩
   rw [hx] at htl';simp only [hx] at hrow hrel hrel2 hre;simp only at htl';have le:=jy hwf hge;have be:=fun u l => @jk T u l oe le
   have htk:bs.take (k+1)=bs.take k++[⟨ps,code,⟨tk,ta,to,az⟩⟩]:=by rw [List.take_add_one,List.getElem?_eq_getElem hkt,hx]; rfl
   obtain ⟨cells,hcells⟩ : ∃ c,c=rs.flatten:=⟨_,rfl⟩
   obtain ⟨ce,hce⟩ : ∃ c,c=re.flatten:=⟨_,rfl⟩
   rw [←hcells] at hcb hrow hlen;rw [←hce] at hge hrel2 hre;have hl2:k*6+6≤cells.length:=by omega
   refine QT ?_;refine QY ?_ (r:=by conv=>lhs;simp[QV,hkt]);refine QT ?_;refine jG rfl rfl rfl ?_;refine QT ?_;refine jB rfl ?_;refine QT ?_;refine jK 1 rfl rfl ?_;refine QT ?_;refine QY ?_ (r:=by conv=>lhs;simp[QV,hkt,bb,hcb,hrow,hl2]);have eP:=fun ks=>zz (n:=T.nx) ks le
   have eT:=fun ks=>qX (n:=T.nx) ks le
   refine QT ?_;refine QY ?_;refine qW 6 1 rfl (by conv=>lhs; simp [Fr.set]) ?_
   repeat first|refine QG ?_|refine QY ?_ (r:=by conv=>lhs;simp[QV,be,hge])
   refine QO [3,6,13,14,15,21,22,23] ?_;refine Wx [0,2] hwf (by decide) (by simp [bP,bT,eP,eT]) (by conv=>lhs; simp [bP,bT,eP,eT]) (by conv=>lhs; simp [bP,bT,eP,eT]) (by conv=>lhs; simp [bP,bT,eP,eT]) ?_;refine QT ?_;refine jc [3,6,13,14,15,21,22,23] rfl (fun c σ S' => ∃ (j:Nat) (r:List Int),j≤to.length∧c=to.length-j∧r.length=j∧r=(to.take j).map Ss.Edge.to∧σ=[(3, .slice (lid T.nx 0) 0 k),(6, .slice (lid T.nx 1) 0 j),(13, .slice ob 0 bs.length),(14,vnat bs.length),(15,vnat k),(21, .slice oe 0 to.length),(22,vnat to.length),(23,vnat j)]∧S'=St T [] [some (1,out.map (vl vint)),some (1,r.map vint)]) to.length ?_ ?_
   ·exact ⟨0,[],by omega,rfl,rfl,by simp,by simp [Fr.only],by simp⟩
   ·rintro c σ T9 ⟨j,r,hj,rfl,hrl,hr,rfl,rfl⟩
    by_cases hjt:j<to.length
    ·have hwj:=ji hjt (by omega);have hb:(j+1)*8≤140737488355328:=by omega
     have hb':j+1≤140737488355328:=by omega
     obtain ⟨oa,hre2⟩:=hre j hjt;have hl3:j*2+2≤ce.length:=by omega
     obtain ⟨⟨xt,xa⟩,hx2⟩ : ∃ b,to[j]=b:=⟨_,rfl⟩
     rw [hx2] at hre2;simp only at hre2;have htj:to.take (j+1)=to.take j++[⟨xt,xa⟩]:=by rw [List.take_add_one,List.getElem?_eq_getElem hjt,hx2]; rfl
     repeat first|refine QG ?_|refine QY ?_ (r:=by conv=>lhs;simp[QV,hjt,be,hge,hre2,hl3,hb,hb',hrl])
     refine qR [0,4] (by conv=>lhs; simp [Fr.only]) hwf (by decide) (by simp [bP,bT,eP,eT]) (by conv=>lhs; simp [bP,bT,eP,eT]) (by conv=>lhs; simp [bP,bT,eP,eT]) (by conv=>lhs; simp [bP,bT,eP,eT]) ⟨?_,j+1,r++[xt],hjt,rfl,by simp [hrl],by rw [htj,List.map_append,hr]; rfl,by simp [hwj],by simp⟩;omega
    ·have hje:j=to.length:=by omega
     subst hje;rw [List.take_length] at hr;have hb:(k+1)*24≤140737488355328:=by omega
     have hb':k+1≤140737488355328:=by omega
     refine QT ?_;refine QY ?_ (r:=by conv=>lhs;simp[QV,hjt]);refine QT ?_;refine jH rfl rfl rfl ?_;refine QT ?_;refine jQ 2 rfl rfl ?_;refine jx 6 rfl ((frz1 (k:=1) (len:=to.length) (by simp) (by rfl) (jF vint (fun _=>rfl) _) (by simpa using hrl))) (by conv=>lhs; simp [Fr.set]) ?_;simp only [List.set_cons_succ,List.set_cons_zero]
     repeat first|refine QG ?_|refine QY ?_ (r:=by conv=>lhs;simp[QV,hb,hb',hol])
     refine qR [3] (by conv=>lhs; simp [Fr.only]) hwf (by decide) (by simp [bP,bT,eP,eT]) (by conv=>lhs; simp [bP,bT,eP,eT]) (by conv=>lhs; simp [bP,bT,eP,eT]) (by conv=>lhs; simp [bP,bT,eP,eT]) ⟨?_,k+1,out++[r],hkt,rfl,by simp [hol],by rw [htk,List.map_append, ←ho,hr]; rfl,by simp [hw],by simp [vl]⟩;omega
  ·have hke:k=bs.length:=by omega
   subst hke;rw [List.take_length] at ho
   repeat first|refine QG ?_|refine QY ?_ (r:=by conv=>lhs;simp[QV,hkt])
   rw [Ss.succs, ←ho];exact jh hwf ((frz1 (by simp) (by rfl) (jF (vl vint) (fun _=>rfl) _) (by simpa using hol)).toB _) rfl
theorem Homes_v (f:Ss.Fn) (hf:f.Fits) (hs:f.small=true) (hp : ∀ b∈f.blocks, ∀ v∈b.params,Ss.InR f.types.length v) (ho : ∀ b∈f.blocks, ∀ x∈b.code, ∀ v∈x.outs,Ss.InR f.types.length v) (S:Store) (hwf0:S.Wf) :
  VCalls Tryz.prog 27 [ql f] S fun r T=>r = .slice S.nx 0 f.types.length∧T=St S [] [some (1,(Ss.homesI f).map vint)]:=by
 obtain ⟨hb0,hb1,hb2,_⟩:=jX hs;have hfb:=hf.2.2.2;unfold Ss.homesI;obtain ⟨⟨fi,fo⟩,ts,bs⟩:=f;simp only at *
 generalize hN:ts.length=N at *
 generalize hz:List.replicate N (0:Int)=z0;have hzl:z0.length=N:=by rw [←hz]; simp
 have e3:List.replicate N (V.int IntKind.i64 0)=z0.map vint:=by rw [←hz]; simp
 refine QB (c:=jd Tryz.f27) Tryz.func27 Tryz.ntmps27 fun hwf=>?_
 refine QT ?_;refine QY ?_;refine QH 1 0 ?_;have e1:N*8≤140737488355328:=by omega
 have e2:N≤140737488355328:=by omega
 repeat first|refine QG ?_|refine QY ?_ (r:=by conv=>lhs;simp[QV,hN,e1,e2])
 rw [e3];refine QO [3,17,18,19] ?_;refine QK [1] ?_;refine QT ?_;refine jc [3,17,18,19] rfl (fun c σ S' => ∃ (k:Nat) (out:List Int),k≤bs.length∧c=bs.length-k∧out.length=N∧Ss.hmAll k (bs.drop k) out=Ss.hmAll 0 bs z0∧σ=[(3, .slice (lid S.nx 0) 0 N),(17,vl jb bs),(18,vnat bs.length),(19,vnat k)]∧S'=St S [] [some (1,out.map vint)]) bs.length ?_ ?_
 ·exact ⟨0,_,by omega,rfl,hzl,rfl,by simp [Fr.only],rfl⟩
 ·rintro c σ T ⟨k,out,hk,rfl,hol,hout,rfl,rfl⟩
  by_cases hkt:k<bs.length
  ·have hw:=ji hkt (by omega);have hbm:bs[k]∈bs:=List.getElem_mem hkt;obtain ⟨hbp,_,_,hbc⟩:=hb2 _ hbm;have hpk:=hp _ hbm;have hok:=ho _ hbm;have hfk:=hfb _ hbm;rw [List.drop_eq_getElem_cons hkt,Ss.hmAll] at hout;obtain ⟨⟨ps,code,⟨tk,ta,to,az⟩⟩,hx⟩ : ∃ b,bs[k]=b:=⟨_,rfl⟩
   rw [hx] at hout hbp hbc hpk hok hfk;simp only at hbp hbc hpk hok;have hcf:=hfk.2.1.2;simp only at hcf;have hout0:Ss.hmAll (k+1) (bs.drop (k+1)) (Ss.hmCode (k:Int) (Ss.hmPut (k:Int) out (ps.drop 0)) code)=Ss.hmAll 0 bs z0:=hout;refine QT ?_;refine QY ?_ (r:=by conv=>lhs;simp[QV,hkt,hx]);refine QT ?_;refine jG rfl rfl rfl ?_;refine QT ?_;refine jB rfl ?_;refine QT ?_;refine jK 1 rfl rfl ?_;refine QT ?_;refine QY ?_ (r:=by conv=>lhs;simp[QV,hkt,hx])
   repeat first|refine QG ?_|refine QY ?_
   refine QO [3,4,5,17,18,19,25,26,27] ?_;refine QT ?_;refine jc [3,4,5,17,18,19,25,26,27] rfl (fun c σ S' => ∃ (j:Nat) (out:List Int),j≤ps.length∧c=ps.length-j∧out.length=N∧Ss.hmAll (k+1) (bs.drop (k+1)) (Ss.hmCode (k:Int) (Ss.hmPut (k:Int) out (ps.drop j)) code)=Ss.hmAll 0 bs z0∧σ=[(3, .slice (lid S.nx 0) 0 N),(4,vnat k),(5, .ptr (lid S.nx 1) 0),(17,vl jb bs),(18,vnat bs.length),(19,vnat k),(25,vl vint ps),(26,vnat ps.length),(27,vnat j)]∧S'=St S [] [some (1,out.map vint),some (6,[vl vint ps,vl jg code,vint tk,vint ta,vl jf to,vl vint az])]) ps.length ?_ ?_
   ·exact ⟨0,out,by omega,rfl,hol,hout0,by simp [Fr.only,Fr.look],rfl⟩
   ·rintro c σ T ⟨j,out,hj,rfl,hol,hout,rfl,rfl⟩
    by_cases hjt:j<ps.length
    ·have hwj:=ji hjt (by omega);obtain ⟨m,hm⟩ : ∃ m:Nat,ps[j]=(m:Int):=⟨ps[j].toNat,by have:=(hpk _ (List.getElem_mem hjt)).1; omega⟩
     have hmN:m<N:=by have:=(hpk _ (List.getElem_mem hjt)).2; omega
     have hmo:m<out.length:=by omega
     rw [List.drop_eq_getElem_cons hjt] at hout;have hout2:Ss.hmAll (k+1) (bs.drop (k+1)) (Ss.hmCode (k:Int) (Ss.hmPut (k:Int) (out.set m (k:Int)) (ps.drop (j+1))) code)=Ss.hmAll 0 bs z0:=by
      rw [←hout,hm]; rfl
     repeat first|refine QG ?_|refine QY ?_ (r:=by conv=>lhs;simp[QV,hjt,hm,hmN,hmo,hwj])
     show jp _ _ _ _ _ _ _;exact again ⟨Nat.sub_lt_sub_left hjt (Nat.lt_succ_self j),j+1,out.set m (k:Int),hjt,rfl,by rw [List.length_set]; exact hol,hout2,by simp [Fr.only,Fr.look],rfl⟩
    ·have e:ps.drop j=[]:=by rw [List.drop_eq_nil_iff]; omega
     rw [e] at hout;have hout3:Ss.hmAll (k+1) (bs.drop (k+1)) (Ss.hmCode (k:Int) out (code.drop 0))=Ss.hmAll 0 bs z0:=hout;clear hout hout0 e
     repeat first|refine QG ?_|refine QY ?_ (r:=by conv=>lhs;simp[QV,hjt])
     refine QO [3,4,17,18,19,37,38,39] ?_;refine QK [0] ?_;refine QT ?_;refine jc [3,4,17,18,19,37,38,39] rfl (fun c σ S' => ∃ (i:Nat) (out:List Int),i≤code.length∧c=code.length-i∧out.length=N∧Ss.hmAll (k+1) (bs.drop (k+1)) (Ss.hmCode (k:Int) out (code.drop i))=Ss.hmAll 0 bs z0∧σ=[(3, .slice (lid S.nx 0) 0 N),(4,vnat k),(17,vl jb bs),(18,vnat bs.length),(19,vnat k),(37,vl jg code),(38,vnat code.length),(39,vnat i)]∧S'=St S [] [some (1,out.map vint)]) code.length ?_ ?_
     ·exact ⟨0,out,by omega,rfl,hol,hout3,by simp [Fr.only,Fr.look],rfl⟩
     ·rintro c σ T ⟨i,out,hi,rfl,hol,hout,rfl,rfl⟩
      by_cases hit:i<code.length
      ·have hwi:=ji hit (by omega);rw [List.drop_eq_getElem_cons hit] at hout;have hoi:=hok _ (List.getElem_mem hit);have hci:=hcf _ (List.getElem_mem hit);obtain ⟨⟨xo,xn,xa,xs⟩,hx2⟩ : ∃ b,code[i]=b:=⟨_,rfl⟩
       rw [hx2] at hout hoi hci;simp only at hoi;have hxl:xs.length<2^62:=by
        have:=hci.2.2.2.1;simp only at this;omega
       have hout4:Ss.hmAll (k+1) (bs.drop (k+1)) (Ss.hmCode (k:Int) (Ss.hmPut (k:Int) out (xs.drop 0)) (code.drop (i+1)))=Ss.hmAll 0 bs z0:=hout;clear hout hout3;refine QT ?_;refine QY ?_ (r:=by conv=>lhs;simp[QV,hit,hx2]);refine QT ?_;refine jG rfl rfl rfl ?_;refine QT ?_;refine jB rfl ?_;refine QT ?_;refine jK 5 rfl rfl ?_;refine QT ?_;refine QY ?_ (r:=by conv=>lhs;simp[QV,hit,hx2])
       repeat first|refine QG ?_|refine QY ?_
       refine QO [3,4,17,18,19,37,38,39,44,45,46] ?_;refine QK [0] ?_;refine QT ?_;refine jc [3,4,17,18,19,37,38,39,44,45,46] rfl (fun c σ S' => ∃ (q:Nat) (out:List Int),q≤xs.length∧c=xs.length-q∧out.length=N∧Ss.hmAll (k+1) (bs.drop (k+1)) (Ss.hmCode (k:Int) (Ss.hmPut (k:Int) out (xs.drop q)) (code.drop (i+1)))=Ss.hmAll 0 bs z0∧σ=[(3, .slice (lid S.nx 0) 0 N),(4,vnat k),(17,vl jb bs),(18,vnat bs.length),(19,vnat k),(37,vl jg code),(38,vnat code.length),(39,vnat i),(44,vl vint xs),(45,vnat xs.length),(46,vnat q)]∧S'=St S [] [some (1,out.map vint)]) xs.length ?_ ?_
       ·exact ⟨0,out,by omega,rfl,hol,hout4,by simp [Fr.only,Fr.look],rfl⟩
       ·rintro c σ T ⟨q,out,hq,rfl,hol,hout,rfl,rfl⟩
        by_cases hqt:q<xs.length
        ·have hwq:=ji hqt (by omega);obtain ⟨m,hm⟩ : ∃ m:Nat,xs[q]=(m:Int):=⟨xs[q].toNat,by have:=(hoi _ (List.getElem_mem hqt)).1; omega⟩
         have hmN:m<N:=by have:=(hoi _ (List.getElem_mem hqt)).2; omega
         have hmo:m<out.length:=by omega
         rw [List.drop_eq_getElem_cons hqt] at hout;have hout2:Ss.hmAll (k+1) (bs.drop (k+1)) (Ss.hmCode (k:Int) (Ss.hmPut (k:Int) (out.set m (k:Int)) (xs.drop (q+1))) (code.drop (i+1)))=Ss.hmAll 0 bs z0:=by
          rw [←hout,hm]; rfl
         repeat first|refine QG ?_|refine QY ?_ (r:=by conv=>lhs;simp[QV,hqt,hm,hmN,hmo,hwq])
         show jp _ _ _ _ _ _ _;exact again ⟨Nat.sub_lt_sub_left hqt (Nat.lt_succ_self q),q+1,out.set m (k:Int),hqt,rfl,by rw [List.length_set]; exact hol,hout2,by simp [Fr.only,Fr.look],rfl⟩
        ·have e:xs.drop q=[]:=by rw [List.drop_eq_nil_iff]; omega
         rw [e] at hout;have hout5:Ss.hmAll (k+1) (bs.drop (k+1)) (Ss.hmCode (k:Int) out (code.drop (i+1)))=Ss.hmAll 0 bs z0:=hout
         repeat first|refine QG ?_|refine QY ?_ (r:=by conv=>lhs;simp[QV,hqt,hwi])
         show jp _ _ _ _ _ _ _;exact again ⟨Nat.sub_lt_sub_left hit (Nat.lt_succ_self i),i+1,out,hit,rfl,hol,hout5,by simp [Fr.only,Fr.look],rfl⟩
      ·have e:code.drop i=[]:=by rw [List.drop_eq_nil_iff]; omega
       rw [e] at hout;have hout5:Ss.hmAll (k+1) (bs.drop (k+1)) out=Ss.hmAll 0 bs z0:=hout
       repeat first|refine QG ?_|refine QY ?_ (r:=by conv=>lhs;simp[QV,hit,hw])
       show jp _ _ _ _ _ _ _;exact again ⟨Nat.sub_lt_sub_left hkt (Nat.lt_succ_self k),k+1,out,hkt,rfl,hol,hout5,by simp [Fr.only,Fr.look],rfl⟩
  ·have hke:bs.drop k=[]:=by rw [List.drop_eq_nil_iff]; omega
   rw [hke] at hout;have hout5:out=Ss.hmAll 0 bs z0:=hout;rw [←hout5]
   repeat first|refine QG ?_|refine QY ?_ (r:=by conv=>lhs;simp[QV,hkt])
   exact qZ ⟨by simp [lid],rfl⟩
theorem LClo_v (S:Store) {ph oh:Nat} {hm:List Int} {h:Int} {nodes:List Int} (hp:S.get ph=some (1,[.slice oh 0 hm.length])) (ho:S.get oh=some (1,hm.map vint)) (hs:nodes.Pairwise (· < ·)) (hl:nodes.length<4611686018427387904) {m:Nat} (hmN:m<hm.length) :
  VCalls Tryz.prog 29 [vint (m:Int), .ref (.agg [vint h,vl vint nodes]), .ptr ph 0] S fun r T=>r = .bool (decide (hm[m]∈nodes))∧T=S:=by
 have cb:=BinSearch_v nodes hm[m] hl hs;refine QB (c:=jd Tryz.f29) Tryz.func29 Tryz.ntmps29 fun hwf=>?_
 have lp:=jy hwf hp;have lo:=jy hwf ho;have bp:=fun u l => @jk S u l ph lp
 have bo:=fun u l => @jk S u l oh lo
 repeat first|refine QG ?_|refine QY ?_
 refine QT ?_;refine QD (r:=by conv=>lhs;simp[QV,bp,bo,hp,ho,hmN]) (k:=?_);refine jm rfl (cb) ?_;refine QW ?_
 repeat first|refine QG ?_|refine QY ?_
 exact qZ ⟨rfl,qF hwf⟩
theorem LIdx_v {S:Store} {l:List Int} {oc:Nat} {fid:FuncId} {caps:List V} {p:Int→Bool} (hc:qb Tryz.prog fid=true) (hlim:l.length<2^62) (hclo : ∀ v∈l,VCalls Tryz.prog fid (vint v::caps) S fun r T=>r = .bool (p v)∧T=S) (hg:S.get oc=some (1,l.map vint)) :
  VCalls Tryz.prog 84 [.slice oc 0 l.length, .func fid caps] S fun v T=>v=vint (qy p l 0)∧T=S:=by
 refine QB (c:=jd Tryz.f84) Tryz.func84 Tryz.ntmps84 fun hwf=>?_
 have lo:=jy hwf hg;have b0:=fun u m => @jk S u m oc lo
 repeat first|refine QG ?_|refine QY ?_ (r:=by conv=>lhs;simp[QV,b0,hg])
 refine QT ?_;refine jc [0,1,7,8] rfl (fun c σ S' => ∃ (k:Nat),k≤l.length∧c=l.length-k∧qy p (l.drop k) k=qy p l 0∧σ=[(0, .slice oc 0 l.length),(1, .func fid caps),(7,vnat l.length),(8,vnat k)]∧S'=St S [] []) l.length ?_ ?_
 ·exact ⟨0,by omega,rfl,rfl,by simp [Fr.only],rfl⟩
 ·rintro c σ T ⟨k,hk,rfl,hd,rfl,rfl⟩
  by_cases hkt:k<l.length
  ·have hst:qy p (l.drop k) k=if p l[k]=true then (k:Int) else qy p (l.drop (k+1)) (k+1):=by rw [List.drop_eq_getElem_cons hkt,qy]
   have hw:=ji hkt (by omega);have cc:=hclo l[k] (List.getElem_mem hkt);rw [←qF hwf] at cc
   repeat first|refine QG ?_|refine QY ?_ (r:=by conv=>lhs;simp[QV,hkt,b0,hg])
   refine QT ?_;refine QP ?_ (r:=by conv=>lhs;simp[QV,hkt,b0,hg]);refine zQ rfl hc rfl cc ?_;rintro X T9 ⟨rfl,rfl⟩
   cases hp:p l[k] with
   | true =>
    rw [hp,if_pos rfl] at hst;refine QW ?_
    repeat first|refine QG ?_|refine QY ?_
    exact qZ ⟨by rw [←hd,hst]; rfl,by first | exact qF hwf | (rw [qF hwf]; exact qF hwf)⟩
   | false =>
    rw [hp,if_neg (by simp)] at hst;refine QW ?_
    repeat first|refine QG ?_|refine QY ?_ (r:=by conv=>lhs;simp[QV,hw])
    show jp _ _ _ _ _ _ _;exact again ⟨Nat.sub_lt_sub_left hkt (Nat.lt_succ_self k),k+1,hkt,rfl,by rw [←hst,hd],by simp [Fr.only,Fr.look],by first | rfl | (rw [qF hwf]; rfl)⟩
  ·have e:l.drop k=[]:=by rw [List.drop_eq_nil_iff]; omega
   rw [e] at hd;simp only [qy] at hd
   repeat first|refine QG ?_|refine QY ?_ (r:=by conv=>lhs;simp[QV,hkt])
   exact qZ ⟨congrArg vint hd,qF hwf⟩
theorem LAny_v {S:Store} {l:List Int} {oc:Nat} {fid:FuncId} {caps:List V} {p:Int→Bool} (hc:qb Tryz.prog fid=true) (hlim:l.length<2^62) (hclo : ∀ v∈l,VCalls Tryz.prog fid (vint v::caps) S fun r T=>r = .bool (p v)∧T=S) (hg:S.get oc=some (1,l.map vint)) :
  VCalls Tryz.prog 32 [.slice oc 0 l.length, .func fid caps] S fun v T=>v = .bool (l.any p)∧T=S:=by
 have ci:=LIdx_v hc hlim hclo hg;rw [←Jb p l 0];refine QB (c:=jd Tryz.f32) Tryz.func32 Tryz.ntmps32 fun hwf=>?_
 rw [←qF hwf] at ci
 repeat first|refine QG ?_|refine QY ?_
 refine QT ?_;refine QP ?_;refine jT rfl ci ?_;rintro X T9 ⟨rfl,rfl⟩;refine QW ?_
 repeat first|refine QG ?_|refine QY ?_
 exact qZ ⟨rfl,by first | exact qF hwf | (rw [qF hwf]; exact qF hwf)⟩
end Go.Vw
