import Derived.Test.YtenhhokhkkfgbaaGreatC31
import Derived.Test.YtenhhokhkkfgbaaGreatC32
import Derived.Test.YtenhhokhkkfgbaaGreatC30
import Derived.Test.YtenhhokhkkfgbaaGreatC24
import Derived.Test.YtenhhokhkkfgbaaGreatC14
import Derived.Test.YtenhhokhkkfgbaaGreatC12
import Derived.Test.YtenhhokhkkfgbaaGreatC22
/-
  Part of the proof (texts CIns, CTerm, CSucc, CTick).
-/
set_option linter.unusedVariables false
set_option linter.unusedSimpArgs false
namespace Ss
def rinsOk (e:Env) (f:Fn) (ds:List Def) (near:List Int) (block pos:Int) (x:Ins):Bool :=
 (rform e x.op x.n (insOut f.types x)).ok&&decide (typesOf f.types x.outs=(rform e x.op x.n (insOut f.types x)).outs)&&asks f.types ds near block pos x.args (rform e x.op x.n (insOut f.types x)).inn
end Ss
namespace Go.Vw
open Go.Proofs Go.RowKit
set_option maxRecDepth 10000
set_option maxHeartbeats 4000000
theorem rins_v (e:Ss.Env) (f:Ss.Fn) (ds:List Ss.Def) (near:List Int) (i k:Nat) (b:Ss.Block) (x:Ss.Ins) (hsl:e.sigs.length≤140737488355328) (hgl:e.globals.length≤140737488355328) (hml:e.muts.length=e.globals.length)
  (hds:ds.length=f.types.length) (htl:f.types.length<2^63) (hnl:near.length<2^63) (hnn : ∀ x∈ds,x.made=true→0≤x.block) (hi:f.blocks[i]? = some b) (hk:b.code[k]? = some x) (hx:x.Fits) (hol:x.outs.length≤1048576) (hov:Ss.InTs f.types.length x.outs) :
  VPure Tryz.prog 48 [ckR e f ds near,vnat i,vnat k] (.bool (Ss.rinsOk e f ds near i k x)):=by
 intro S
 have cf:=Form_v e x (Ss.insOut f.types x) hsl hgl hml hx
 have ct:=rtypes_v e f ds near x.outs hol hov
 have hal:=hx.2.2.1.1
 have ca : ∀ l:List Int,VPure Tryz.prog 82 [ckR e f ds near,vl vint x.args,vl vint l,vnat i,vnat k] (.bool (Ss.asks f.types ds near i k x.args l)):=fun l=>rthere_v e f ds near i k x.args l hds htl hnl (by omega) hnn
 unfold Ss.rinsOk
 generalize hr:Ss.rform e x.op x.n (Ss.insOut f.types x)=r at *
 have hql:(Ss.typesOf f.types x.outs).length<2^63:=by simp [Ss.typesOf]; omega
 generalize htt:Ss.typesOf f.types x.outs=tt at *
 obtain ⟨ri,ro,rk⟩:=r
 have ceq:=WInts_v tt ro hql
 obtain ⟨xo,xn,xa,xu⟩:=x
 obtain ⟨ps,code,⟨tk,ta,to,az⟩⟩:=b
 obtain ⟨⟨fi,fo⟩,ts,bs⟩:=f
 obtain ⟨sg,im,gl,mu,me⟩:=e
 simp only at *
 obtain ⟨hi1,hi2⟩:=List.getElem?_eq_some_iff.1 hi
 obtain ⟨hk1,hk2⟩:=List.getElem?_eq_some_iff.1 hk
 have ca':=ca ri
 generalize Ss.asks ts ds near i k xa ri=ax at ca'
 generalize hio:Ss.insOut ts ⟨xo,xn,xa,xu⟩=io at cf
 have cf':VPure Tryz.prog 81 [.agg [vl encSig sg, .int .i64 im,vl vint gl,vl V.bool mu, .bool me], .agg [.int .i64 xo, .int .u64 xn,vl vint xa,vl vint xu], .int .i64 io] (.tuple [vl vint ri,vl vint ro, .bool rk]):=cf
 refine vcalls_start (c:=bodyOf Tryz.f48) Tryz.func48 rfl rfl (by simp [Tryz.ntmps48]) ?_
 rw [Tryz.ntmps48]
 intro hwf
 repeat (first|refine QG ?_|refine QX (r:=by conv=>lhs;simp[-List.map_set,QV,hi1,hi2,hk1,hk2]) (k:=?_))
 refine vw_join (fun σ S'=>σ=[(0,ckR ⟨sg,im,gl,mu,me⟩ ⟨⟨fi,fo⟩,ts,bs⟩ ds near),(1,vnat i),(2,vnat k),(7, .ptr (lid S.nx 0) 0),(8,vint io)]∧S'=St S [] [some (4,[vint xo,vu xn,vl vint xa,vl vint xu])]) [0,1,2,7,8] ?_ ?_
 ·cases xu with
  | nil =>
   have h0:io=0:=by rw [←hio]; rfl
   subst h0
   repeat (first|refine QG ?_|refine QX (r:=by conv=>lhs;simp[-List.map_set,QV]) (k:=?_))
   exact ⟨by simp [Fr.only],by simp⟩
  | cons v r =>
   obtain ⟨h0,h1⟩:=hov v (by simp)
   obtain ⟨n,rfl⟩ : ∃ n:Nat,v=n:=⟨v.toNat,by omega⟩
   have hn:n<ts.length:=by omega
   have h2:io=ts[n]:=by rw [←hio]; simp [Ss.insOut,hn]
   subst h2
   have hpos:(0:Int)<((r.length:Int)+1):=by omega
   repeat (first|refine QG ?_|refine QX (r:=by conv=>lhs;simp[-List.map_set,QV,hn,hpos]) (k:=?_))
   exact ⟨by simp [Fr.only],by simp⟩
 rintro σ S' ⟨rfl,rfl⟩
 repeat refine QS ?_
 repeat refine QS ?_
 refine QD (r:=by conv=>lhs;simp[-List.map_set,QV]) (k:=?_)
 refine vcall_useH (cf') (by rfl) ?_
 refine QM (by conv=>lhs;simp[-List.map_set,QV]) ?_
 refine QN ?_
 by_cases h1:rk=true
 case neg =>
  have h1':rk=false:=by simpa using h1
  repeat (first|refine QG ?_|refine QX (r:=by conv=>lhs;simp[-List.map_set,QV,h1']) (k:=?_))
  exact done_pure hwf (by simp [h1']) rfl
 repeat refine QS ?_
 refine QR (r:=by conv=>lhs;simp[-List.map_set,QV,h1]) (k:=?_)
 refine vcall_useH (ct) (by rfl) ?_
 refine QM (by conv=>lhs;simp[-List.map_set,QV]) ?_
 refine vcall_useH (ceq) (by rfl) ?_
 by_cases h3:tt=ro
 case neg =>
  refine QM (by conv=>lhs;simp[-List.map_set,QV,h3]) ?_
  refine QN ?_
  repeat (first|refine QG ?_|refine QX (r:=by conv=>lhs;simp[-List.map_set,QV]) (k:=?_))
  exact done_pure hwf (by simp [h3]) rfl
 refine QM (by conv=>lhs;simp[-List.map_set,QV,h3]) ?_
 refine vcall_useH (ca') (by rfl) ?_
 refine QM (by conv=>lhs;simp[-List.map_set,QV]) ?_
 refine QN ?_
 repeat (first|refine QG ?_|refine QX (r:=by conv=>lhs;simp[-List.map_set,QV]) (k:=?_))
 exact done_pure hwf (by simp [h1,h3]) rfl
end Go.Vw

namespace Ss
def rtermOk (f:Fn) (ds:List Def) (near:List Int) (i pos:Int) (t:Term):Bool :=
 if t.kind=2 then asks f.types ds near i pos [t.arg] [127]&&(decide (t.args.length=0)&&decide (t.to.length=2))
 else if t.kind=3 then asks f.types ds near i pos [t.arg] [127]&&(decide (t.args.length=0)&&(decide (1≤t.to.length)&&decide (t.to.length≤65)))
 else decide (t.arg=0)&&(if t.kind=4 then decide (t.to.length=0)&&asks f.types ds near i pos t.args f.sig.out
  else decide (t.args.length=0)&&(if t.kind=1 then decide (t.to.length=1) else decide (t.kind=5)&&decide (t.to.length=0)))
def redgeOk (f:Fn) (ds:List Def) (near:List Int) (i pos:Int) (x:Edge):Bool :=
 decide (1≤x.to)&&asks f.types ds near i pos x.args (typesOf f.types (f.blocks.getD x.to.toNat default).params)
end Ss
namespace Go.Vw
open Go.Proofs Go.RowKit
set_option maxRecDepth 10000
set_option maxHeartbeats 8000000
theorem rterm_v (e:Ss.Env) (f:Ss.Fn) (ds:List Ss.Def) (near:List Int) (i:Nat) (b:Ss.Block) (hds:ds.length=f.types.length) (htl:f.types.length<2^63) (hnl:near.length<2^63) (hnn : ∀ x∈ds,x.made=true→0≤x.block) (hi:f.blocks[i]? = some b) (hb:b.Fits) :
  VPure Tryz.prog 49 [ckR e f ds near,vnat i] (.bool (Ss.rtermOk f ds near i b.code.length b.term)):=by
 intro S
 obtain ⟨_,⟨hcl,_⟩,_,_,⟨htol,htf⟩,⟨haz,_⟩⟩:=hb
 have ca : ∀ l m:List Int,l.length<2^63→VPure Tryz.prog 82 [ckR e f ds near,vl vint l,vl vint m,vnat i,vnat b.code.length] (.bool (Ss.asks f.types ds near i b.code.length l m)):=fun l m hl=>rthere_v e f ds near i b.code.length l m hds htl hnl hl hnn
 obtain ⟨ps,code,⟨tk,ta,to,az⟩⟩:=b
 simp only at hcl htol htf haz ca
 obtain ⟨⟨fi,fo⟩,ts,bs⟩:=f
 simp only at *
 have c1:=ca [ta] [127] (by simp)
 have c2:=ca az fo (by omega)
 obtain ⟨hi1,hi2⟩:=List.getElem?_eq_some_iff.1 hi
 have hX:Ss.rtermOk ⟨⟨fi,fo⟩,ts,bs⟩ ds near i code.length ⟨tk,ta,to,az⟩=if tk=2 then Ss.asks ts ds near i code.length [ta] [127]&&(decide (az.length=0)&&decide (to.length=2))
  else if tk=3 then Ss.asks ts ds near i code.length [ta] [127]&&(decide (az.length=0)&&(decide (1≤to.length)&&decide (to.length≤65)))
  else decide (ta=0)&&(if tk=4 then decide (to.length=0)&&Ss.asks ts ds near i code.length az fo
   else decide (az.length=0)&&(if tk=1 then decide (to.length=1) else decide (tk=5)&&decide (to.length=0))):=rfl
 rw [hX]
 clear hX
 generalize Ss.asks ts ds near i code.length [ta] [127]=A at *
 generalize Ss.asks ts ds near i code.length az fo=B at *
 refine vcalls_start (c:=bodyOf Tryz.f49) Tryz.func49 rfl rfl (by simp [Tryz.ntmps49]) ?_
 rw [Tryz.ntmps49]
 intro hwf
 repeat (first|refine QG ?_|refine QX (r:=by conv=>lhs;simp[-List.map_set,QV,hi1,hi2]) (k:=?_))
 repeat refine QS ?_
 refine vw_drawW (St S [] [some (6,[vl vint ps,vl encIns code, .int .i64 tk, .int .i64 ta,vl encEdge to,vl vint az])]) (St S [] [some (6,[vl vint ps,vl encIns code, .int .i64 tk, .int .i64 ta,vl encEdge to,vl vint az])]) [] rfl (by kernel_rfl) (by conv=>lhs; reduce) (by conv=>lhs; reduce) (by kernel_rfl) (by kernel_rfl) (ok_St (by simp [subU,shpU,subL,shpL])) (by conv=>lhs; simp [-List.map_set,QV]) ?_
 refine vseg_write rfl (by conv=>lhs;simp[-List.map_set,QV]) (ok_St (by simp [subU,shpU,subL,shpL])) ?_
 refine QM (by conv=>lhs;simp[-List.map_set,QV]) ?_
 refine vseg_write rfl (by conv=>lhs;simp[-List.map_set,QV]) (ok_St (by simp [subU,shpU,subL,shpL])) ?_
 refine QM (by conv=>lhs;simp[-List.map_set,QV]) ?_
 refine QN ?_
 by_cases k2:tk=2
 ·rw [if_pos k2]
  repeat (first|refine QG ?_|refine QX (r:=by conv=>lhs;simp[-List.map_set,QV,k2]) (k:=?_))
  repeat refine QS ?_
  refine QR (r:=by conv=>lhs;simp[-List.map_set,QV]) (k:=?_)
  refine vcall_useG (xs':=[ckR e ⟨⟨fi,fo⟩,ts,bs⟩ ds near,vl vint [ta],vl vint [127],vnat i,vnat code.length]) rfl (GhostArgs.trans (GhostArgs.one [_] [_,_,_] (frz1 (k:=2) (len:=1) (by simp) (by rfl) (by rfl) (by rfl))) (GhostArgs.one [_,_] [_,_] (frz1 (k:=3) (len:=1) (by simp) (by rfl) (by rfl) (by rfl)))) c1 ?_
  simp only [List.set_cons_succ,List.set_cons_zero]
  by_cases h2:A=true
  case neg =>
   have h2':A=false:=by simpa using h2
   refine QM (by conv=>lhs;simp[-List.map_set,QV,h2']) ?_
   refine QN ?_
   repeat (first|refine QG ?_|refine QX (r:=by conv=>lhs;simp[-List.map_set,QV]) (k:=?_))
   exact done_pure hwf (by simp [h2']) rfl
  by_cases h3:az.length=0
  case neg =>
   have h3':(0:Int)<(az.length:Int):=by omega
   have h3n:0<az.length:=by omega
   refine QM (by conv=>lhs;simp[-List.map_set,QV,h2,k2,h3,h3',h3n]) ?_
   refine QN ?_
   repeat (first|refine QG ?_|refine QX (r:=by conv=>lhs;simp[-List.map_set,QV]) (k:=?_))
   exact done_pure hwf (by simp [h3]) rfl
  have h3':az=[]:=List.eq_nil_of_length_eq_zero h3
  subst h3'
  refine QM (by conv=>lhs;simp[-List.map_set,QV,h2,k2]) ?_
  refine QN ?_
  repeat (first|refine QG ?_|refine QX (r:=by conv=>lhs;simp[-List.map_set,QV,k2]) (k:=?_))
  exact done_pure hwf (by simp [h2]; try omega) rfl
 rw [if_neg k2]
 by_cases k3:tk=3
 ·rw [if_pos k3]
  repeat (first|refine QG ?_|refine QX (r:=by conv=>lhs;simp[-List.map_set,QV,k2,k3]) (k:=?_))
  repeat refine QS ?_
  refine QR (r:=by conv=>lhs;simp[-List.map_set,QV]) (k:=?_)
  refine vcall_useG (xs':=[ckR e ⟨⟨fi,fo⟩,ts,bs⟩ ds near,vl vint [ta],vl vint [127],vnat i,vnat code.length]) rfl (GhostArgs.trans (GhostArgs.one [_] [_,_,_] (frz1 (k:=2) (len:=1) (by simp) (by rfl) (by rfl) (by rfl))) (GhostArgs.one [_,_] [_,_] (frz1 (k:=3) (len:=1) (by simp) (by rfl) (by rfl) (by rfl)))) c1 ?_
  simp only [List.set_cons_succ,List.set_cons_zero]
  by_cases h2:A=true
  case neg =>
   have h2':A=false:=by simpa using h2
   refine QM (by conv=>lhs;simp[-List.map_set,QV,h2']) ?_
   refine QN ?_
   repeat (first|refine QG ?_|refine QX (r:=by conv=>lhs;simp[-List.map_set,QV]) (k:=?_))
   exact done_pure hwf (by simp [h2']) rfl
  by_cases h3:az.length=0
  case neg =>
   have h3':(0:Int)<(az.length:Int):=by omega
   have h3n:0<az.length:=by omega
   refine QM (by conv=>lhs;simp[-List.map_set,QV,h2,k2,k3,h3,h3',h3n]) ?_
   refine QN ?_
   repeat (first|refine QG ?_|refine QX (r:=by conv=>lhs;simp[-List.map_set,QV]) (k:=?_))
   exact done_pure hwf (by simp [h3]) rfl
  have h3':az=[]:=List.eq_nil_of_length_eq_zero h3
  subst h3'
  have k4 : ¬ tk=4:=by omega
  refine QM (by conv=>lhs;simp[-List.map_set,QV,h2,k2,k3,k4]) ?_
  refine QN ?_
  by_cases h5:(1:Int)≤(to.length:Int)
  case neg =>
   repeat (first|refine QG ?_|refine QX (r:=by conv=>lhs;simp[-List.map_set,QV,k2,k3,h5]) (k:=?_))
   exact done_pure hwf (by simp; omega) rfl
  have h6:decide (1≤to.length)=true:=decide_eq_true (by omega)
  repeat (first|refine QG ?_|refine QX (r:=by conv=>lhs;simp[-List.map_set,QV,k2,k3,h5]) (k:=?_))
  exact done_pure hwf (by rw [h6]; simp [h2]; try omega) rfl
 rw [if_neg k3]
 by_cases h1:ta=0
 case neg =>
  repeat (first|refine QG ?_|refine QX (r:=by conv=>lhs;simp[-List.map_set,QV,k2,k3,h1]) (k:=?_))
  exact done_pure hwf (by simp [h1]) rfl
 by_cases k4:tk=4
 ·rw [if_pos k4]
  by_cases h5:to.length=0
  case neg =>
   have h5' : ¬ (to.length:Int)=0:=by omega
   have k1 : ¬ tk=1:=by omega
   repeat (first|refine QG ?_|refine QX (r:=by conv=>lhs;simp[-List.map_set,QV,k2,k3,h1,k4,k1,h5,h5']) (k:=?_))
   exact done_pure hwf (by simp [h5]) rfl
  have h5':(to.length:Int)=0:=by omega
  have k1 : ¬ tk=1:=by omega
  obtain rfl:to=[]:=List.eq_nil_of_length_eq_zero h5
  repeat (first|refine QG ?_|refine QX (r:=by conv=>lhs;simp[-List.map_set,QV,k2,k3,h1,k4,k1]) (k:=?_))
  repeat refine QS ?_
  refine QD (r:=by conv=>lhs;simp[-List.map_set,QV]) (k:=?_)
  refine vcall_useH (c2) (by rfl) ?_
  refine QM (by conv=>lhs;simp[-List.map_set,QV]) ?_
  refine QN ?_
  repeat (first|refine QG ?_|refine QX (r:=by conv=>lhs;simp[-List.map_set,QV]) (k:=?_))
  exact done_pure hwf (by simp [h1]) rfl
 rw [if_neg k4]
 by_cases h3:az.length=0
 case neg =>
  have h3':(0:Int)<(az.length:Int):=by omega
  have h3n:0<az.length:=by omega
  repeat (first|refine QG ?_|refine QX (r:=by conv=>lhs;simp[-List.map_set,QV,k2,k3,h1,k4,h3,h3',h3n]) (k:=?_))
  exact done_pure hwf (by simp [h3]) rfl
 have h3':az=[]:=List.eq_nil_of_length_eq_zero h3
 subst h3'
 by_cases k1:tk=1
 ·repeat (first|refine QG ?_|refine QX (r:=by conv=>lhs;simp[-List.map_set,QV,k2,k3,h1,k4,k1]) (k:=?_))
  exact done_pure hwf (by simp [h1,k1]; try omega) rfl
 by_cases k5:tk=5
 ·repeat (first|refine QG ?_|refine QX (r:=by conv=>lhs;simp[-List.map_set,QV,k2,k3,h1,k4,k1,k5]) (k:=?_))
  exact done_pure hwf (by simp [h1,k1,k5]; try omega) rfl
 ·repeat (first|refine QG ?_|refine QX (r:=by conv=>lhs;simp[-List.map_set,QV,k2,k3,h1,k4,k1,k5]) (k:=?_))
  exact done_pure hwf (by simp [h1,k1,k5]; try omega) rfl
theorem redges_v (e:Ss.Env) (f:Ss.Fn) (ds:List Ss.Def) (near:List Int) (i:Nat) (b:Ss.Block) (hds:ds.length=f.types.length) (htl:f.types.length<2^63) (hnl:near.length<2^63) (hnn : ∀ x∈ds,x.made=true→0≤x.block) (hi:f.blocks[i]? = some b) (hb:b.Fits)
  (hbl:f.blocks.length<2^63) (hto : ∀ x∈b.term.to,0≤x.to∧x.to<f.blocks.length) (hps : ∀ b∈f.blocks,b.params.length≤1048576∧Ss.InTs f.types.length b.params) :
  VPure Tryz.prog 50 [ckR e f ds near,vnat i] (.bool (b.term.to.all (Ss.redgeOk f ds near i b.code.length))):=by
 intro S
 obtain ⟨_,⟨hcl,_⟩,_,_,⟨htol,htf⟩,⟨haz,_⟩⟩:=hb
 have ca : ∀ l m:List Int,l.length<2^63→VPure Tryz.prog 82 [ckR e f ds near,vl vint l,vl vint m,vnat i,vnat b.code.length] (.bool (Ss.asks f.types ds near i b.code.length l m)):=fun l m hl=>rthere_v e f ds near i b.code.length l m hds htl hnl hl hnn
 have ct : ∀ b∈f.blocks,VPure Tryz.prog 46 [ckR e f ds near,vl vint b.params] (vl vint (Ss.typesOf f.types b.params)):=fun b hb=>rtypes_v e f ds near b.params (hps b hb).1 (hps b hb).2
 obtain ⟨ps,code,⟨tk,ta,to,az⟩⟩:=b
 simp only at hcl htol htf haz hto ca
 obtain ⟨hi1,hi2⟩:=List.getElem?_eq_some_iff.1 hi
 have htl63:to.length<2^63:=by omega
 have hE : ∀ x:Ss.Edge,Ss.redgeOk f ds near i code.length x=(decide (1≤x.to)&&Ss.asks f.types ds near i code.length x.args (Ss.typesOf f.types (f.blocks.getD x.to.toNat default).params)):=fun x=>rfl
 obtain ⟨⟨fi,fo⟩,ts,bs⟩:=f
 simp only at *
 generalize hP:Ss.redgeOk ⟨⟨fi,fo⟩,ts,bs⟩ ds near i code.length=P at *
 refine vcalls_start (c:=bodyOf Tryz.f50) Tryz.func50 rfl rfl (by simp [Tryz.ntmps50]) ?_
 rw [Tryz.ntmps50]
 intro hwf
 repeat (first|refine QG ?_|refine QX (r:=by conv=>lhs;simp[-List.map_set,QV,hi1,hi2]) (k:=?_))
 repeat refine QS ?_
 refine vw_loopAt [0,1,5,6] rfl (fun c σ S' => ∃ (k:Nat),k≤to.length∧c=to.length-k∧(to.drop k).all P=to.all P∧σ=[(0,ckR e ⟨⟨fi,fo⟩,ts,bs⟩ ds near),(1,vnat i),(5, .ptr (lid S.nx 0) 0),(6,vnat k)]∧S'=St S [] [some (6,[vl vint ps,vl encIns code,vint tk,vint ta,vl encEdge to,vl vint az])]) to.length ?_ ?_
 ·exact ⟨0,by omega,rfl,rfl,by simp [Fr.only],rfl⟩
 ·rintro c σ T ⟨k,hk,rfl,hd,rfl,rfl⟩
  by_cases hkt:k<to.length
  case neg =>
   repeat (first|refine QG ?_|refine QX (r:=by conv=>lhs;simp[-List.map_set,QV,hkt]) (k:=?_))
   rw [←hd,Ss.drop_all_end _ hkt]
   exact done_pure hwf rfl rfl
  have hw:=wrapNat hkt htl63
  have hst:=Ss.drop_all P hkt
  obtain ⟨h0,h1⟩:=hto _ (List.getElem_mem hkt)
  have hxa:=(htf _ (List.getElem_mem hkt)).2.1
  obtain ⟨⟨xt,xa⟩,hx⟩ : ∃ x,to[k]=x:=⟨_,rfl⟩
  rw [hx] at hst h0 h1 hxa
  simp only at h0 h1 hxa
  obtain ⟨n,rfl⟩ : ∃ n:Nat,xt=n:=⟨xt.toNat,by omega⟩
  have hn:n<bs.length:=by omega
  obtain ⟨⟨qs,qc,⟨qk,qa,qt,qz⟩⟩,hq⟩ : ∃ b,bs[n]=b:=⟨_,rfl⟩
  have hqg:bs.getD (n:Int).toNat default=⟨qs,qc,⟨qk,qa,qt,qz⟩⟩:=by simp [hn,hq]
  have hE':=hE ⟨(n:Int),xa⟩
  rw [hqg] at hE'
  simp only at hE'
  rw [hE'] at hst
  by_cases h2:(n:Int)<1
  ·have h2' : ¬ (1:Int)≤(n:Int):=by omega
   rw [decide_eq_false h2',Bool.false_and,Bool.false_and,hd] at hst
   repeat (first|refine QG ?_|refine QX (r:=by conv=>lhs;simp[-List.map_set,QV,hkt,hx,h2]) (k:=?_))
   rw [hst]
   exact done_pure hwf rfl rfl
  have h2':(1:Int)≤(n:Int):=by omega
  rw [decide_eq_true h2',Bool.true_and] at hst
  have c1:=ct _ (List.getElem_mem hn)
  rw [hq] at c1
  simp only at c1
  generalize Ss.typesOf ts qs=tq at *
  have c2:=ca xa tq (by omega)
  generalize Ss.asks ts ds near i code.length xa tq=B at *
  repeat (first|refine QG ?_|refine QX (r:=by conv=>lhs;simp[-List.map_set,QV,hkt,hx,h2,hn,hq]) (k:=?_))
  repeat refine QS ?_
  refine QD (r:=by conv=>lhs;simp[-List.map_set,QV,h2,hn,hq]) (k:=?_)
  refine vcall_useH (c1) (by rfl) ?_
  refine QM (by conv=>lhs;simp[-List.map_set,QV]) ?_
  refine vcall_useH (c2) (by rfl) ?_
  by_cases h3:B=true
  ·rw [h3,Bool.true_and,hd] at hst
   refine QM (by conv=>lhs;simp[-List.map_set,QV,h3]) ?_
   refine QN ?_
   repeat (first|refine QG ?_|refine QX (r:=by conv=>lhs;simp[-List.map_set,QV]) (k:=?_))
   refine QA [0] (h:=⟨?_,k+1,hkt,rfl,hst.symm,by simp [hw],by simp⟩)
   omega
  ·have h3':B=false:=by simpa using h3
   rw [h3',Bool.false_and,hd] at hst
   refine QM (by conv=>lhs;simp[-List.map_set,QV,h3']) ?_
   refine QN ?_
   repeat (first|refine QG ?_|refine QX (r:=by conv=>lhs;simp[-List.map_set,QV]) (k:=?_))
   rw [hst]
   exact done_pure hwf rfl rfl
end Go.Vw

namespace Go.Vw
open Go.Proofs Go.RowKit
set_option maxRecDepth 10000
set_option maxHeartbeats 8000000
theorem RSuccO_v (S:Store) (f:Ss.Fn) (hf:f.Fits) (hs:f.small=true):VCalls Tryz.prog 41 [encFn f] S (fun r T=>r = .slice (lid S.nx 0) 0 f.blocks.length∧T=St S [] [some (1,(Ss.succs f.blocks).map (vl vint))]):=by
 have cs:=RSmall_v f hf
 have hsb := @small_blocks f
 obtain ⟨⟨fi,fo⟩,ts,bs⟩:=f
 rw [hs] at cs
 obtain ⟨sm,hsm⟩ : ∃ sm,sm=true:=⟨_,rfl⟩
 rw [←hsm] at cs
 have cs':VPure Tryz.prog 33 [.agg [vl vint fi,vl vint fo,vl vint ts,vl encBlock bs]] (.bool sm):=cs
 obtain ⟨_,hbl,hbf,_⟩:=hsb hs
 simp only at hbl hbf ⊢
 refine vcalls_start (c:=bodyOf Tryz.f41) Tryz.func41 rfl rfl (by simp [Tryz.ntmps41]) ?_
 rw [Tryz.ntmps41]
 intro hwf
 repeat (first|refine QG ?_|refine QX (r:=by conv=>lhs;simp[-List.map_set,QV]) (k:=?_))
 repeat refine QS ?_
 refine QR (r:=by conv=>lhs;simp[-List.map_set,QV]) (k:=?_)
 refine vcall_useH (cs') (by rfl) ?_
 refine QM (by conv=>lhs;simp[-List.map_set,QV,hsm]) ?_
 refine QN ?_
 repeat (first|refine QG ?_|refine QX (r:=by conv=>lhs;simp[-List.map_set,QV]) (k:=?_))
 refine vw_void 3 1 rfl (by conv=>lhs; simp [Fr.set]) ?_
 repeat refine QS ?_
 refine vw_loopAt [1,3,4] rfl (fun c σ S' => ∃ (k:Nat) (out:List (List Int)),k≤bs.length∧c=bs.length-k∧out.length=k∧out=(bs.take k).map Ss.rowOf∧σ=[(1, .ptr (lid S.nx 0) 0),(3, .slice (lid S.nx 1) 0 k),(4,vnat k)]∧S'=St S [] [some (4,[vl vint fi,vl vint fo,vl vint ts,vl encBlock bs]),some (1,out.map (vl vint))]) bs.length ?_ ?_
 ·exact ⟨0,[],by omega,rfl,rfl,by simp,by simp [Fr.only],by simp⟩
 ·rintro c σ T ⟨k,out,hk,rfl,hol,ho,rfl,rfl⟩
  by_cases hkt:k<bs.length
  ·have hw:=wrapNat hkt (by omega)
   obtain ⟨_,htl,_,_⟩:=hbf _ (List.getElem_mem hkt)
   obtain ⟨⟨ps,code,⟨tk,ta,to,az⟩⟩,hx⟩ : ∃ b,bs[k]=b:=⟨_,rfl⟩
   rw [hx] at htl
   simp only at htl
   have htk:bs.take (k+1)=bs.take k++[⟨ps,code,⟨tk,ta,to,az⟩⟩]:=by rw [List.take_add_one,List.getElem?_eq_getElem hkt,hx]; rfl
   repeat (first|refine QG ?_|refine QX (r:=by conv=>lhs;simp[-List.map_set,QV,hkt,hx]) (k:=?_))
   refine vw_void 5 1 rfl (by conv=>lhs; simp [Fr.set]) ?_
   repeat refine QS ?_
   refine vw_loopAt [1,3,4,5,6] rfl (fun c σ S' => ∃ (j:Nat) (r:List Int),j≤to.length∧c=to.length-j∧r.length=j∧r=(to.take j).map Ss.Edge.to∧σ=[(1, .ptr (lid S.nx 0) 0),(3, .slice (lid S.nx 1) 0 k),(4,vnat k),(5, .slice (lid S.nx 2) 0 j),(6,vnat j)]∧S'=St S [] [some (4,[vl vint fi,vl vint fo,vl vint ts,vl encBlock bs]),some (1,out.map (vl vint)),some (1,r.map vint)]) to.length ?_ ?_
   ·exact ⟨0,[],by omega,rfl,rfl,by simp,by simp [Fr.only],by simp⟩
   ·rintro c σ T ⟨j,r,hj,rfl,hrl,hr,rfl,rfl⟩
    by_cases hjt:j<to.length
    ·have hwj:=wrapNat hjt (by omega)
     have hb:(j+1)*8≤140737488355328:=by omega
     have hb':j+1≤140737488355328:=by omega
     obtain ⟨⟨xt,xa⟩,hx2⟩ : ∃ b,to[j]=b:=⟨_,rfl⟩
     have htj:to.take (j+1)=to.take j++[⟨xt,xa⟩]:=by rw [List.take_add_one,List.getElem?_eq_getElem hjt,hx2]; rfl
     repeat (first|refine QG ?_|refine QX (r:=by conv=>lhs;simp[-List.map_set,QV,hkt,hx,hjt,hx2,hb,hb',hrl]) (k:=?_))
     refine QA [0,1,4] (h:=⟨?_,j+1,r++[xt],hjt,rfl,by simp [hrl],by rw [htj,List.map_append,hr]; rfl,by simp [hwj],by simp⟩)
     omega
    ·have hje:j=to.length:=by omega
     subst hje
     rw [List.take_length] at hr
     have hb:(k+1)*24≤140737488355328:=by omega
     have hb':k+1≤140737488355328:=by omega
     repeat refine QS ?_
     refine QR (r:=by conv=>lhs;simp[-List.map_set,QV,hkt,hx,hjt]) (k:=?_)
     refine QN ?_
     repeat refine QS ?_
     refine vw_condF rfl rfl rfl ?_
     repeat refine QS ?_
     refine vw_exitAt 2 rfl rfl ?_
     refine vw_ghost' 5 rfl ((frz1 (k:=2) (len:=to.length) (by simp) (by rfl) (all_closed1 vint (fun _=>rfl) _) (by simpa using hrl))) (by conv=>lhs; simp [Fr.set]) ?_
     simp only [List.set_cons_succ,List.set_cons_zero]
     repeat (first|refine QG ?_|refine QX (r:=by conv=>lhs;simp[-List.map_set,QV,hb,hb',hol]) (k:=?_))
     refine QA [0,4] (h:=⟨?_,k+1,out++[r],hkt,rfl,by simp [hol],by rw [htk,List.map_append, ←ho,hr]; rfl,by simp [hw],by simp [vl]⟩)
     omega
  ·have hke:k=bs.length:=by omega
   subst hke
   rw [List.take_length] at ho
   repeat refine QS ?_
   refine QR (r:=by conv=>lhs;simp[-List.map_set,QV,hkt]) (k:=?_)
   refine QN ?_
   repeat refine QS ?_
   refine vw_condF rfl rfl rfl ?_
   repeat refine QS ?_
   refine vw_exitAt 0 rfl rfl ?_
   refine vw_only' [3] (by conv=>lhs; simp [Fr.only,Fr.look]) ?_
   refine vw_gc [1] hwf (by decide) (by simp [-List.map_set]) (by conv=>lhs; simp [-List.map_set]) (by conv=>lhs; simp [-List.map_set]) (by conv=>lhs; simp [-List.map_set]) ?_
   repeat (first|refine QG ?_|refine QX (r:=by conv=>lhs;simp[-List.map_set,QV]) (k:=?_))
   rw [Ss.succs, ←ho]
   exact done_as ⟨by simp,rfl⟩
end Go.Vw

namespace Go.Vw
open Go.Proofs Go.RowKit
set_option maxRecDepth 10000
set_option maxHeartbeats 4000000
theorem RSucc_v (f:Ss.Fn) (hf:f.Fits) (hs:f.small=true):VPure Tryz.prog 41 [encFn f] (vl (vl vint) (Ss.succs f.blocks)):=by
 intro S
 refine vcalls_wf fun hwf=>vcalls_postB ((RSuccO_v S f hf hs).mono ?_)
 rintro r T ⟨rfl,rfl⟩
 exact done_via hwf ((frz1 (k:=0) (cells:=(Ss.succs f.blocks).map (vl vint)) (by simp) (by rfl) (all_closed1 (vl vint) (fun _=>rfl) _) (by simp [Ss.succs])).toB _) rfl
theorem any_drop {α:Type} (p:α→Bool) {l:List α} {k:Nat} (h:k<l.length):(l.drop k).any p=(p l[k]||(l.drop (k+1)).any p):=by
 rw [List.drop_eq_getElem_cons h,List.any_cons]
theorem any_drop_end {α:Type} (p:α→Bool) {l:List α} {k:Nat} (h : ¬ k<l.length):(l.drop k).any p=false:=by
 have:l.drop k=[]:=by rw [List.drop_eq_nil_iff]; omega
 rw [this]; rfl
theorem ticks_v (b:Ss.Block) (hb:b.code.length<2^63):VPure Tryz.prog 80 [encBlock b] (.bool (Ss.tickB b)):=by
 intro S
 obtain ⟨ps,code,⟨tk,ta,to,az⟩⟩:=b
 simp only at hb
 have hX:Ss.tickB ⟨ps,code,⟨tk,ta,to,az⟩⟩=code.any fun x=>decide (x.op=258):=rfl
 rw [hX]
 generalize hP:(fun x:Ss.Ins=>decide (x.op=258))=P
 refine vcalls_start (c:=bodyOf Tryz.f80) Tryz.func80 rfl rfl (by simp [Tryz.ntmps80]) ?_
 rw [Tryz.ntmps80]
 intro hwf
 repeat (first|refine QG ?_|refine QX (r:=by conv=>lhs;simp[-List.map_set,QV]) (k:=?_))
 repeat refine QS ?_
 refine vw_loopAt [1,3] rfl (fun c σ S' => ∃ (k:Nat),k≤code.length∧c=code.length-k∧(code.drop k).any P=code.any P∧σ=[(1, .ptr (lid S.nx 0) 0),(3,vnat k)]∧S'=St S [] [some (6,[vl vint ps,vl encIns code,vint tk,vint ta,vl encEdge to,vl vint az])]) code.length ?_ ?_
 ·exact ⟨0,by omega,rfl,rfl,by simp [Fr.only],rfl⟩
 ·rintro c σ T ⟨k,hk,rfl,hd,rfl,rfl⟩
  by_cases hkt:k<code.length
  ·have hst:=any_drop P hkt
   have hw:=wrapNat hkt hb
   obtain ⟨⟨o,n,a,u⟩,hx⟩ : ∃ x,code[k]=x:=⟨_,rfl⟩
   have hp:P ⟨o,n,a,u⟩=decide (o=258):=by rw [←hP]
   rw [hx,hp] at hst
   by_cases h1:o=258
   ·rw [decide_eq_true h1,Bool.true_or,hd] at hst
    repeat (first|refine QG ?_|refine QX (r:=by conv=>lhs;simp[-List.map_set,QV,hkt,hx,h1]) (k:=?_))
    rw [hst]
    exact done_pure hwf rfl rfl
   ·rw [decide_eq_false h1,Bool.false_or,hd] at hst
    repeat (first|refine QG ?_|refine QX (r:=by conv=>lhs;simp[-List.map_set,QV,hkt,hx,h1,hw]) (k:=?_))
    show Again _ _ _ _ _ _ _
    exact again ⟨by omega,k+1,by omega,rfl,hst.symm,by simp [Fr.only],rfl⟩
  ·repeat (first|refine QG ?_|refine QX (r:=by conv=>lhs;simp[-List.map_set,QV,hkt]) (k:=?_))
   rw [←hd,any_drop_end _ hkt]
   exact done_pure hwf rfl rfl
end Go.Vw
