import Derived.Test.YtkfllaokjaldnaaGreatC6
import Derived.Test.YtkfllaokjaldnaaGreatProg
import Derived.OpenShut
/- Part of the proof. -/
set_option linter.unusedVariables false
set_option linter.unusedSimpArgs false
set_option maxRecDepth 100000
set_option maxHeartbeats 8000000
/-
 The rules by which a walk writes out a run.
-/
namespace Go.Vw
attribute [simp] rs_alloc rs_box jce rs_store rs_makeSlice rs_append rs_copy rs_makeMap rs_mapUpdate jcd rs_clear rv_lookup2 jbZ rv_clear rv_buildList opList JA run_nil rval_some rnew_some rd_none rd_plain rd_some sh_indexAddr sh_fieldAddr sh_nilCheck sh_len sh_slice sh_load sh_bin rv_move rv_pick rv_alloc rv_box rv_build jca rv_load rv_store rv_nilCheck rv_bin rv_beq opBeq rv_un rv_conv rv_makeFunc rv_makeSlice rv_makeMap rv_lookup rv_mapUpdate rv_slice rv_fieldAddr rv_field rv_indexAddr rv_len rv_lenS rv_append rv_copy rv_extract rv_guardT rv_guardF rv_guardU rv_call rv_callv ev Fr.look Fr.put Fr.set Ki opPick opBox Jw Yv opNil opUn opConv opExtract opLenS opBin jO okSz WK nc_vint nc_vnat nc_vl one_bool one_int one_str one_nils one_nilp one_nilf one_nilm one_list one_ref one_slice one_ptr one_func one_map cells_bool cells_int cells_str cells_nils cells_nilp cells_nilf cells_nilm cells_list cells_ref cells_slice cells_ptr cells_func cells_map nc_vbool nc_int nc_str nc_nils nc_nilp nc_nilf nc_nilm nc_list nc_ref nc_slice nc_ptr nc_func nc_map cells_agg nc_agg Ya vint vnat one_vint one_vnat one_vl int_beq int_bne upTo_len jv Yf JP jbP jE opIndex_own opLen_own opLen_nils qi jW opMake_own rep0_one splice_eq opBuild_nil opBuild_cons jI Jx opIndex_vl0 opSlice_to Za jcm jak Kn YD jbc gcL gcE gcU gcTo_lid gcP_lid idsF renF ren_bool ids_bool ren_int ids_int ren_str ids_str ren_nils ids_nils ren_nilp ids_nilp ren_nilf ids_nilf ren_nilm ids_nilm ren_junk ids_junk ren_list ids_list ren_ref ids_ref ren_agg ids_agg ren_tuple ids_tuple ren_func ids_func ren_slice ids_slice ren_ptr ids_ptr ren_map ids_map ren_vl ids_vl ren_vint ids_vint ren_vnat ids_vnat renL_nil renL_cons jad jab renL_vint jac renL_vl idsL_nil idsL_cons jaC jaA idsL_vint jaB idsL_vl uGet uSet
attribute [simp] List.idxOf_cons
section
variable {P:Program} {N b:Nat} {Q:Exit→Fr→Store→Prop} {σ σ':Fr} {S S':Store} {c:Code} {cs:List CO}
end
section
variable {P:Program} {N b:Nat} {Q:Exit→Fr→Store→Prop} {σ σ':Fr} {S S':Store} {c:Code} {cs rest:List CO}
theorem QV:(∀ (l:List Nat) (k x:Nat),(l.map vnat).set k (.int .i64 (x:Int))=(l.set k x).map vnat)∧(∀ (l:List Nat) (k x:Nat),(l.map vnat).set k (.int .i64 ((x:Int)+1))=(l.set k (x+1)).map vnat)∧(∀ (l:List Int) (k:Nat) (x:Int),(l.map vint).set k (.int .i64 x)=(l.set k x).map vint) ∧ ∀ (l:List Bool) (k:Nat) (x:Bool),(l.map V.bool).set k (.bool x)=(l.set k x).map V.bool :=
 ⟨set_vnat,set_vnat1,set_vint,set_bool⟩
theorem QG {G:Prop} (H:G) (h:G→VWp P N b c Q σ S:=by first | exact fun H=>Jg rfl H | exact fun H=>vw_scopeAt rfl H | exact fun H=>vw_labelAt rfl H | exact fun H=>jB rfl H | exact fun H=>jQ _ rfl rfl H | exact fun H=>jN rfl H | (refine fun H=>jG rfl rfl ?_ H; focus (simp [ev,Fr.look]; done)) | (refine fun H=>jH rfl rfl ?_ H; focus (simp [ev,Fr.look]; done)) | exact fun H=>jK _ rfl rfl H):VWp P N b c Q σ S:=h H
def kz:Nat→Store→Option (Option ZZ)
 | 1,_=>some none
 | 2,S=>some (some (ZZ.plain S))
 | _,_=>none
def km (P:Program) (c:Code) (ms:List Nat) (cs:List CO):Nat→Bool
 | 1=>true
 | _=>P.follows .mixedOrders&&lexZ ms (Code.ops c) cs cs.length 0 (Array.replicate (Code.ops c).size false)
def kms:Nat→Code→List Nat
 | 1,_=>[]
 | _,c=>zh (Code.ops c)
theorem QX {z:Option ZZ} {ms:List Nat} (h:kz (Code.kind c) S=some z:=by exact rfl) (hc:(kms (Code.kind c) c,qv P N (Code.ops c))=(ms,some cs):=by (conv=>lhs; reduce)) (hB:km P c ms cs (Code.kind c)=true:=by kernel_rfl)
  (r:runV z cs σ S=some ([],σ',S')) (k:Q .normal σ' S'):VWp P N b c Q σ S:=by
 by_cases h1:Code.kind c=1
 ·rw [h1] at h
  cases h
  exact qg h1 (Prod.mk.inj hc).2 r (ZO k)
 ·by_cases h2:Code.kind c=2
  ·rw [h2] at h hc hB
   cases h
   obtain ⟨e1,e2⟩:=Bool.and_eq_true_iff.1 hB;exact Kt h2 e1 (Prod.mk.inj hc).1 (Prod.mk.inj hc).2 e2 r (ZO k)
  ·have:kz (Code.kind c) S=none:=by
    unfold kz;split<;>simp_all
   rw [this] at h; cases h
theorem QR (h:Code.kind c=1:=by exact rfl) (hc:qv P N (Code.ops c)=some cs:=by (conv=>lhs; reduce)) (r:runV none cs σ S=some (rest,σ',S')) (k:jP P none rest (Q .normal) σ' S'):VWp P N b c Q σ S:=qg h hc r k
theorem QD {ms:List Nat} (h:Code.kind c=2:=by exact rfl) (hm:P.follows .mixedOrders=true:=by kernel_rfl) (hM:zh (Code.ops c)=ms:=by (conv=>lhs; reduce)) (hc:qv P N (Code.ops c)=some cs:=by (conv=>lhs; reduce)) (hB:lexZ ms (Code.ops c) cs cs.length 0 (Array.replicate (Code.ops c).size false)=true:=by kernel_rfl)
  (r:runV (some (ZZ.plain S)) cs σ S=some (rest,σ',S')) (k:jP P (some (ZZ.plain S)) rest (Q .normal) σ' S'):VWp P N b c Q σ S:=Kt h hm hM hc hB r k
theorem QL {z:Option ZZ} {K:Fr→Store→Prop} {d:Option Nat} {f:FuncId} {args:List Arg} {xs:List V} {r:List CO} {X:V} (h:VPure P f xs X) (H:jP P z r K (σ.put d X) S) (ha:args.map (ev σ)=xs:=by rfl) (hz:noW z d=true:=by rfl):jP P z (⟨d,none,.call f args⟩::r) K σ S:=jm ha h H hz
theorem QB {f:FuncId} {fn:Func} {c:Code} {ts:List Nat} {args:List V} {R:V→Store→Prop} {n:Nat} (hf:P.funcs[f]?=some fn) (hk:fn.ntmps=n) (h:S.Wf→VWp P n S.nx c (bodyV ts (Yg S.nx R)) (Ki 0 args) (St S [] [])) (hb:fn.body=some c:=by exact rfl) (ht:resT fn=some ts:=by exact rfl) (hn:args.length≤n:=by simp):VCalls P f args S R:=by
 subst hk;exact vcalls_start hf hb ht hn h
theorem QO (ks:List Nat) (H:VWp P N b c Q σ' S) (hk:σ.only ks=σ':=by conv=>lhs; simp [Fr.only,Fr.look]):VWp P N b c Q σ S:=vw_only' ks hk H
theorem QK {B:Store} {u u':Upds} {l l':List (Option (Nat × List V))} (ks:List Nat) (H:VWp P N B.nx c Q σ' (St B u' l')) (hw:B.Wf:=by assumption) (h1:ks.Nodup:=by decide) (h2:(Kn B.nx ks u&&YD B.nx ks l ks&&idsF (gcP B.nx ks) σ)=true:=by simp) (hu:gcU B.nx ks u=u':=by conv=>lhs; simp) (hl:gcL B.nx ks l ks=l':=by conv=>lhs; simp) (hs:renF (gcTo B.nx ks) σ=σ':=by conv=>lhs; simp):VWp P N B.nx c Q σ (St B u l):=Wx ks hw h1 h2 hu hl hs H
def unS (P:Program) (N b:Nat):Nat→Code→(Exit→Fr→Store→Prop)→Code × (Exit→Fr→Store→Prop)
 | 0,c,Q=>(c,Q)
 | n+1,c,Q=>match Code.kind c with
  | 3=>unS P N b n (Code.fst c) (Km (VWp P N b (Code.snd c) Q) Q)
  | _=>(c,Q)
theorem unS_ok {P:Program} {N b:Nat} {σ:Fr} {S:Store}:∀ (n:Nat) (c:Code) (Q:Exit→Fr→Store→Prop),VWp P N b (unS P N b n c Q).1 (unS P N b n c Q).2 σ S→VWp P N b c Q σ S
 | 0,_,_,h=>h
 | n+1,c,Q,h=>by
  unfold unS at h;split at h
  ·exact Jg (by assumption) (unS_ok n _ _ h)
  ·exact h
theorem QT {c':Code} {Q':Exit→Fr→Store→Prop} (k:VWp P N b c' Q' σ S) (h:unS P N b 9 c Q=(c',Q'):=by exact rfl):VWp P N b c Q σ S:=unS_ok 9 c Q (by rw [h]; exact k)
theorem QE {Z:ZZ} {K:Fr→Store→Prop} {d:Option Nat} {op:COp} (hz:Z.ok S') (H:jP P (some Z) rest K σ' S') (r:runV none [⟨d,none,op⟩] σ S=some ([],σ',S'):=by conv=>lhs;simp[QV]) (hk:(op.isCall||op.reader)=false:=by exact rfl):jP P (some Z) (⟨d,none,op⟩::rest) K σ S:=jS hk r hz H
theorem QI {B:Store} {u:Upds} {l lc ls:List (Option (Nat × List V))} {us uc:Upds} {S0:Store} {es:List Nat} {K:Fr→Store→Prop} {d:Option Nat} {op:COp} (H:jP P (some (ZZ.mk S0 (St B uc lc) (St B us ls) es)) rest K σ' (St B u l)) (r:runV none [⟨d,none,op⟩] σ S=some ([],σ',St B u l):=by conv=>lhs;simp[QV]) (hk:(op.isCall||op.reader)=false:=by exact rfl) (hz:subU uc u∧shpU us u∧subL lc l∧shpL ls l:=by simp [subU,shpU,subL,shpL]):jP P (some (ZZ.mk S0 (St B uc lc) (St B us ls) es)) (⟨d,none,op⟩::rest) K σ S:=jS hk r (JG hz) H
theorem QJ (zc zs:Store) (es:List Nat) (H:jP P (some (ZZ.mk S zc zs es)) rest (Q .normal) σ' S') (h:Code.kind c=2:=by exact rfl) (hm:P.follows .mixedOrders=true:=by kernel_rfl) {ms:List Nat} (hM:zh (Code.ops c)=ms:=by (conv=>lhs; reduce)) (hc:qv P N (Code.ops c)=some cs:=by (conv=>lhs; reduce)) (hB:lexW es ms (Code.ops c) cs cs.length 0 (Array.replicate (Code.ops c).size false)=true:=by kernel_rfl) (hE:zN ms cs es=true:=by kernel_rfl) (hz:(ZZ.mk S zc zs es).ok S:=by exact JG (by simp [subU,shpU,subL,shpL])) (r:runV (some (ZZ.mk S zc zs es)) cs σ S=some (rest,σ',S')):VWp P N b c Q σ S:=vw_drawW zc zs es h hm hM hc hB hE hz r H
theorem QW {z:Option ZZ} {K:Fr→Store→Prop} (k:K σ' S') (r:runV z cs σ S=some ([],σ',S'):=by conv=>lhs;simp[QV]):jP P z cs K σ S:=Wz r k
theorem QZ {z:Option ZZ} {K:Fr→Store→Prop} (k:jP P z rest K σ' S') (r:runV z cs σ S=some (rest,σ',S'):=by conv=>lhs;simp[QV]):jP P z cs K σ S:=Wz r k
theorem QY {z:Option ZZ} {ms:List Nat} (k:Q .normal σ' S') (h:kz (Code.kind c) S=some z:=by exact rfl) (hc:(kms (Code.kind c) c,qv P N (Code.ops c))=(ms,some cs):=by (conv=>lhs; reduce)) (hB:km P c ms cs (Code.kind c)=true:=by kernel_rfl)
  (r:runV z cs σ S=some ([],σ',S'):=by conv=>lhs;simp[QV]):VWp P N b c Q σ S:=QX h hc hB r k
theorem QP (k:jP P none rest (Q .normal) σ' S') (h:Code.kind c=1:=by exact rfl) (hc:qv P N (Code.ops c)=some cs:=by (conv=>lhs; reduce)) (r:runV none cs σ S=some (rest,σ',S'):=by conv=>lhs;simp[QV]):VWp P N b c Q σ S:=QR h hc r k
theorem QM {z:Option ZZ} {K:Fr→Store→Prop} (r:runV z cs σ S=some (rest,σ',S')) (k:jP P z rest K σ' S'):jP P z cs K σ S:=Wz r k
theorem QN {z:Option ZZ} {K:Fr→Store→Prop} (h:K σ S):jP P z [] K σ S:=h
theorem QS (H:VWp P N b (Code.fst c) (Km (VWp P N b (Code.snd c) Q) Q) σ S) (h:Code.kind c=3:=by exact rfl):VWp P N b c Q σ S:=Jg h H
end
theorem QA {N:Nat} {I:Nat→Fr→Store→Prop} {ks:List Nat} {n n':Nat} {σ σ1 σ':Fr} {B:Store} {u u':Upds} {l l':List (Option (Nat × List V))} (gs:List Nat) (hσ1:σ.only ks=σ1:=by conv=>lhs; simp [Fr.only]) (hw:B.Wf:=by assumption) (h1:gs.Nodup:=by decide)
  (h2:(Kn B.nx gs u&&YD B.nx gs l gs&&idsF (gcP B.nx gs) σ1)=true:=by simp) (hu:gcU B.nx gs u=u':=by conv=>lhs; simp) (hl:gcL B.nx gs l gs=l':=by conv=>lhs; simp) (hσ:renF (gcTo B.nx gs) σ1=σ':=by conv=>lhs; simp)
  (h:n'<n∧I n' σ' (St B u' l')):jp N B.nx I ks n σ (St B u l):=qR gs hσ1 hw h1 h2 hu hl hσ h
end Go.Vw
/-
 More rules for walks.
-/
namespace Go.Vw
open Go.RowKit
theorem jaY {P:Program} {N b:Nat} {Q Q2:Exit→Fr→Store→Prop} {σ σ':Fr} {S S':Store} {c c2:Code} {cs:List CO} (p:Prop) (ks:List Nat) (h:Code.kind c=1) (hc:qv P N (Code.ops c)=some cs)
  (hA:p → ∃ σ1,runV none cs σ S=some ([],σ1,S')∧σ1.only ks=σ') (hB : ¬ p → ∃ σ1,runV none cs σ S=some ([],σ1,S')∧σ1.only ks=σ') (H:VWp P N b c2 Q2 σ' S'):VWp P N b c (Km (VWp P N b c2 Q2) Q) σ S:=by
 have fin:(∃ σ1,runV none cs σ S=some ([],σ1,S')∧σ1.only ks=σ')→VWp P N b c (Km (VWp P N b c2 Q2) Q) σ S:=by
  rintro ⟨σ1,h1,h2⟩;exact qg h hc h1 (ZO (jbS ks (by rw [h2]; exact H)))
 by_cases hp:p
 ·exact fin (hA hp)
 ·exact fin (hB hp)
def mapS (ns:List Nat):List V:=ns.map fun n => .tuple [vnat n, .bool true]
def addS (ns:List Nat) (n:Nat):List Nat:=if n∈ns then ns else ns++[n]
theorem YA (n:Nat) : ∀ (ns:List Nat) (i:Nat),(n∉ns∧zA (.int .i64 (n:Int)) (mapS ns) i=some none) ∨ ∃ j,n∈ns∧ns[j]? = some n∧zA (.int .i64 (n:Int)) (mapS ns) i=some (some (i+j, .bool true))
 | [],i => .inl ⟨by simp,rfl⟩
 | x::ns,i=>by
  by_cases e:n=x
  ·subst e;exact .inr ⟨0,by simp,rfl,by simp [mapS,zA,zK,vnat]⟩
  ·have e':((n:Int)==(x:Int))=false:=by simp; omega
   have h0:zA (.int .i64 (n:Int)) (mapS (x::ns)) i=zA (.int .i64 (n:Int)) (mapS ns) (i+1):=by
    show (match zK (.int .i64 (n:Int)) (vnat x) with | some true=>_ | some false=>_ | none=>_)=_;simp only [zK,vnat,if_true,e']
    rfl
   rcases YA n ns (i+1) with ⟨h1,h2⟩ | ⟨j,h1,h2,h3⟩
   ·exact .inl ⟨by simp [e,h1],by rw [h0,h2]⟩
   ·exact .inr ⟨j+1,by simp [h1],by simpa using h2,by rw [h0,h3]; simp; omega⟩
theorem opLookup_set {S:Store} {o:Nat} {ns:List Nat} {n:Nat} (h:S.get o=some (0,mapS ns)):zi (.bool false) false S (.map o) (.int .i64 (n:Int))=some (.bool (decide (n∈ns))):=by
 simp only [zi,h];rcases YA n ns 0 with ⟨h1,h2⟩ | ⟨j,h1,h2,h3⟩
 ·simp [h2,h1]
 ·simp [h3,h1]
theorem jal {S:Store} {o:Nat} {ns:List Nat} {n:Nat} (h:S.get o=some (0,mapS ns)):qE S (.map o) (.int .i64 (n:Int)) (.bool true)=some (S.upd o (0,mapS (addS ns n))):=by
 simp only [qE,h];rcases YA n ns 0 with ⟨h1,h2⟩ | ⟨j,h1,h2,h3⟩
 ·simp only [h2,addS,if_neg h1];simp [mapS,vnat]
 ·simp only [h3,addS,h1,if_true,Nat.zero_add];have e:(mapS ns).set j (.tuple [.int .i64 (n:Int), .bool true])=mapS ns:=by
   refine List.ext_getElem? fun i => ?_
   by_cases hij:j=i
   ·subst hij;have hj:j<ns.length:=(List.getElem?_eq_some_iff.1 h2).1;have hv:ns[j]=n:=(List.getElem?_eq_some_iff.1 h2).2;simp [mapS,hj,hv,vnat]
   ·rw [List.getElem?_set_ne hij]
  rw [e]
theorem renL_mapS (f:Nat→Nat) (ns:List Nat):V.renL f (mapS ns)=mapS ns:=by
 unfold mapS;rw [qH,List.map_map];exact List.map_congr_left fun x _=>by simp [V.ren,V.renL,vnat]
theorem idsL_mapS (p:Nat→Bool) (ns:List Nat):V.idsL p (mapS ns)=true:=by
 unfold mapS;rw [qS,List.all_map];simp [V.ids,V.idsL,vnat]
attribute [simp] opLookup_set jal renL_mapS idsL_mapS
end Go.Vw
/-
 What the functions of layer 7 compute, in plain Lean.
-/
namespace Go.Vw.G
def okIx (l:List Int) (n:Int):Prop:=0≤n∧n<l.length
instance (l:List Int) (n:Int):Decidable (okIx l n):=inferInstanceAs (Decidable (_∧_))
def dom1 (l:List Int) (a:Int):Nat→Int→Bool
 | 0,_=>false
 | n+1,b=>if okIx l b then (if a=b then true else dom1 l a n (l.getD b.toNat 0)) else false
def dominates (l:List Int) (a b:Int):Bool:=if okIx l a then dom1 l a 257 b else false
def wild (len:Nat) (n:Int):Bool:=decide (n<0)||decide ((len:Int)≤n)
def find (p:Int→Bool):List Int→Nat→Int
 | [],_ => -1
 | x::xs,k=>if p x then k else find p xs (k+1)
theorem find_any (p:Int→Bool) : ∀ (l:List Int) (k:Nat),decide (0≤find p l k)=l.any p
 | [],k=>by simp [find]
 | x::xs,k=>by
   cases h:p x
   ·simp [find,h,find_any p xs (k+1)]
   ·simp [find,h]
def rowOk (len:Nat) (l:List Int):Bool:=decide (l.length≤128) && !(l.any (wild len))
def right (g:List (List Int)):Bool:=decide (1≤g.length)&&decide (g.length≤256)&&g.all (rowOk g.length)
end Go.Vw.G
/-
 Functions in SSA form, told plainly; what they read as.
-/
namespace Ss
structure Sig where
 inn:List Int
 out:List Int
deriving DecidableEq,Inhabited
structure Ins where
 op:Int
 n:Int
 args:List Int
 outs:List Int
deriving DecidableEq,Inhabited
structure Edge where
 to:Int
 args:List Int
deriving DecidableEq,Inhabited
structure Term where
 kind:Int
 arg:Int
 to:List Edge
 args:List Int
deriving DecidableEq,Inhabited
structure Block where
 params:List Int
 code:List Ins
 term:Term
deriving DecidableEq,Inhabited
structure Fn where
 sig:Sig
 types:List Int
 blocks:List Block
deriving DecidableEq,Inhabited
structure Env where
 sigs:List Sig
 imports:Int
 globals:List Int
 muts:List Bool
 mem:Bool
deriving DecidableEq,Inhabited
def I64 (n:Int):Prop := -9223372036854775808≤n∧n≤9223372036854775807
def Ints (l:List Int):Prop:=l.length≤140737488355328 ∧ ∀ n∈l,I64 n
def Sig.Fits (s:Sig):Prop:=Ints s.inn∧Ints s.out
def Ins.Fits (x:Ins):Prop:=I64 x.op∧(0≤x.n∧x.n<18446744073709551616)∧Ints x.args∧Ints x.outs
def Edge.Fits (x:Edge):Prop:=I64 x.to∧Ints x.args
def Term.Fits (t:Term):Prop:=I64 t.kind∧I64 t.arg∧(t.to.length≤140737488355328 ∧ ∀ x∈t.to,x.Fits)∧Ints t.args
def Block.Fits (b:Block):Prop:=Ints b.params∧(b.code.length≤140737488355328 ∧ ∀ x∈b.code,x.Fits)∧b.term.Fits
def Fn.Fits (f:Fn):Prop:=f.sig.Fits∧Ints f.types∧(f.blocks.length≤140737488355328 ∧ ∀ b∈f.blocks,b.Fits)
def Env.Fits (e:Env):Prop:=(e.sigs.length≤140737488355328 ∧ ∀ s∈e.sigs,s.Fits)∧I64 e.imports∧Ints e.globals∧e.muts.length≤140737488355328
end Ss
namespace Go.Vw
def vu (n:Int):V := .int .u64 n
def jC (s:Ss.Sig):V := .agg [vl vint s.inn,vl vint s.out]
def jg (x:Ss.Ins):V := .agg [vint x.op,vu x.n,vl vint x.args,vl vint x.outs]
def jf (x:Ss.Edge):V := .agg [vint x.to,vl vint x.args]
def jcv (t:Ss.Term):V := .agg [vint t.kind,vint t.arg,vl jf t.to,vl vint t.args]
def jb (b:Ss.Block):V := .agg [vl vint b.params,vl jg b.code,vint b.term.kind,vint b.term.arg,vl jf b.term.to,vl vint b.term.args]
def ql (f:Ss.Fn):V := .agg [vl vint f.sig.inn,vl vint f.sig.out,vl vint f.types,vl jb f.blocks]
def zk (e:Ss.Env):V := .agg [vl jC e.sigs,vint e.imports,vl vint e.globals,vl V.bool e.muts, .bool e.mem]
theorem qo (x:Ss.Ins):(jg x).closed=true:=rfl
theorem qp (x:Ss.Edge):(jf x).closed=true:=rfl
theorem zM (x:Ss.Block):(jb x).closed=true:=rfl
theorem jJ (x:Ss.Ins):(jg x).cells=[vint x.op,vu x.n,vl vint x.args,vl vint x.outs]:=nr rfl
theorem qq (x:Ss.Edge):(jf x).cells=[vint x.to,vl vint x.args]:=nr rfl
theorem jz (b:Ss.Block):(jb b).cells=[vl vint b.params,vl jg b.code,vint b.term.kind,vint b.term.arg,vl jf b.term.to,vl vint b.term.args]:=nr rfl
theorem encSig_nc (x:Ss.Sig):(jC x).ncells=2:=nr rfl
theorem encIns_nc (x:Ss.Ins):(jg x).ncells=4:=nr rfl
theorem encEdge_nc (x:Ss.Edge):(jf x).ncells=2:=nr rfl
theorem encBlock_nc (x:Ss.Block):(jb x).ncells=6:=nr rfl
theorem encSig_eq (s:Ss.Sig):jC s = .agg [vl vint s.inn,vl vint s.out]:=nr rfl
theorem encIns_eq (x:Ss.Ins):jg x = .agg [vint x.op,vu x.n,vl vint x.args,vl vint x.outs]:=nr rfl
theorem encEdge_eq (x:Ss.Edge):jf x = .agg [vint x.to,vl vint x.args]:=nr rfl
theorem encTerm_eq (t:Ss.Term):jcv t = .agg [vint t.kind,vint t.arg,vl jf t.to,vl vint t.args]:=nr rfl
theorem encBlock_eq (b:Ss.Block):jb b = .agg [vl vint b.params,vl jg b.code,vint b.term.kind,vint b.term.arg,vl jf b.term.to,vl vint b.term.args]:=nr rfl
theorem encFn_eq (f:Ss.Fn):ql f = .agg [vl vint f.sig.inn,vl vint f.sig.out,vl vint f.types,vl jb f.blocks]:=nr rfl
theorem encEnv_eq (e:Ss.Env):zk e = .agg [vl jC e.sigs,vint e.imports,vl vint e.globals,vl V.bool e.muts, .bool e.mem]:=nr rfl
theorem one_vu (n:Int):(vu n).one=true:=nr rfl
theorem resV_one (t:Nat) (σ:Fr):resV [t] σ=σ.look t:=nr rfl
theorem resV_two (t u:Nat) (σ:Fr):resV [t,u] σ = .tuple [σ.look t,σ.look u]:=nr rfl
theorem resV_3 (t u v:Nat) (σ:Fr):resV [t,u,v] σ = .tuple [σ.look t,σ.look u,σ.look v]:=nr rfl
theorem resV_4 (t u v w:Nat) (σ:Fr):resV [t,u,v,w] σ = .tuple [σ.look t,σ.look u,σ.look v,σ.look w]:=nr rfl
theorem resV_nil (σ:Fr):resV [] σ = .tuple []:=nr rfl
attribute [simp] resV_one resV_two resV_3 resV_4 resV_nil encSig_nc encIns_nc encEdge_nc encBlock_nc encSig_eq encIns_eq encEdge_eq encTerm_eq encBlock_eq encFn_eq encEnv_eq one_vu vu
theorem vcall_useH {P:Program} {z:Option ZZ} {σ:Fr} {S:Store} {K:Fr→Store→Prop} {d:Option Nat} {f:FuncId} {args:List Arg} {xs:List V} {r:List CO} {X:V} (h:VPure P f xs X) (ha:args.map (ev σ)=xs) (H:jP P z r K (σ.put d X) S) (hz:noW z d=true:=by rfl):jP P z (⟨d,none, .call f args⟩::r) K σ S:=jm ha h H hz
theorem ZQ {P:Program} {z:Option ZZ} {σ:Fr} {S:Store} {K:Fr→Store→Prop} {d:Option Nat} {g:FuncId} {caps:List V} {fz:Arg} {args:List Arg} {xs:List V} {r:List CO} {X:V} (h:VPure P g xs X) (hf:ev σ fz = .func g caps) (hc:qb P g=true) (ha:args.map (ev σ)++caps=xs) (H:jP P z r K (σ.put d X) S) (hz:noW z d=true:=by rfl):jP P z (⟨d,none, .callv fz args⟩::r) K σ S:=ze hf hc ha h H hz
theorem ji {k n:Nat} (h:k<n) (hn:n<2^63):IntKind.i64.wrap ((k:Int)+1)=(k:Int)+1:=wrap_i64 (by omega) (by omega)
end Go.Vw
namespace Go.Vw
open Go.Proofs Go.RowKit Go.ChangeShapes Go.WideShapes
theorem jbF {l b:Nat} (hb:1≤b) (h:l*b≤140737488351232):l≤140737488355328:=by
 have:l*1≤l*b:=Nat.mul_le_mul_left _ hb;omega
theorem i64_of {n:Int} (h:(Lit.int .i64 n).wf=true):Ss.I64 n:=bounds_i64 h
theorem rdInt:ReadsC Tryz.prog 3 (fun n:Int=>[vint n]) Ss.I64 :=
 (ReadsC.int Tryz.underlying3).map id (fun _=>rfl) (fun n h=>i64_of h)
theorem rdU64:ReadsC Tryz.prog 63 (fun n:Int=>[vu n]) (fun n=>0≤n∧n<18446744073709551616) :=
 (ReadsC.int Tryz.underlying63).map id (fun _=>rfl) (fun n h=>by have h1:=bounds_u64 h; simp only [id]; omega)
theorem rdBool:ReadsC Tryz.prog 4 (fun b:Bool=>[.bool b]) (fun _=>True):=ReadsC.bool Tryz.underlying4
theorem WF:ReadsC Tryz.prog 23 (fun l:List Int=>[vl vint l]) Ss.Ints :=
 (ReadsC.slice vint Tryz.underlying23 rdInt (of_decide_eq_true (by kernel_rfl)) (fun _ => .inr rfl)).map id (fun _=>rfl) (fun l h=>⟨jbF (of_decide_eq_true (by kernel_rfl)) h.1.2,h.2⟩)
theorem rdBools:ReadsC Tryz.prog 24 (fun l:List Bool=>[vl V.bool l]) (fun l=>l.length≤140737488355328) :=
 (ReadsC.slice V.bool Tryz.underlying24 rdBool (of_decide_eq_true (by kernel_rfl)) (fun _ => .inr rfl)).map id (fun _=>rfl) (fun l h=>jbF (of_decide_eq_true (by kernel_rfl)) h.1.2)
theorem rdSig:ReadsC Tryz.prog 28 (fun s:Ss.Sig=>[vl vint s.inn,vl vint s.out]) Ss.Sig.Fits :=
 (ReadsC.struct Tryz.underlying28 (by kernel_rfl) (ReadsF.cons (by kernel_rfl) WF (ReadsF.cons (by kernel_rfl) WF ReadsF.nil))).map (fun p=>(⟨p.1,p.2.1⟩:Ss.Sig)) (fun _=>rfl) (fun p h=>⟨h.1,h.2.1⟩)
theorem rdSigs:ReadsC Tryz.prog 22 (fun l:List Ss.Sig=>[vl jC l]) (fun l=>l.length≤140737488355328 ∧ ∀ s∈l,s.Fits) :=
 (ReadsC.slice jC Tryz.underlying22 rdSig (of_decide_eq_true (by kernel_rfl)) (fun _ => .inl rfl)).map id (fun _=>rfl) (fun l h=>⟨jbF (of_decide_eq_true (by kernel_rfl)) h.1.2,h.2⟩)
theorem rdIns:ReadsC Tryz.prog 65 (fun x:Ss.Ins=>[vint x.op,vu x.n,vl vint x.args,vl vint x.outs]) Ss.Ins.Fits :=
 (ReadsC.struct Tryz.underlying65 (by kernel_rfl) (ReadsF.cons (by kernel_rfl) rdInt (ReadsF.cons (by kernel_rfl) rdU64 (ReadsF.cons (by kernel_rfl) WF (ReadsF.cons (by kernel_rfl) WF ReadsF.nil))))).map (fun p=>(⟨p.1,p.2.1,p.2.2.1,p.2.2.2.1⟩:Ss.Ins)) (fun _=>rfl) (fun p h=>⟨h.1,h.2.1,h.2.2.1,h.2.2.2.1⟩)
theorem rdInss:ReadsC Tryz.prog 57 (fun l:List Ss.Ins=>[vl jg l]) (fun l=>l.length≤140737488355328 ∧ ∀ s∈l,s.Fits) :=
 (ReadsC.slice jg Tryz.underlying57 rdIns (of_decide_eq_true (by kernel_rfl)) (fun _ => .inl rfl)).map id (fun _=>rfl) (fun l h=>⟨jbF (of_decide_eq_true (by kernel_rfl)) h.1.2,h.2⟩)
theorem rdEdge:ReadsC Tryz.prog 67 (fun x:Ss.Edge=>[vint x.to,vl vint x.args]) Ss.Edge.Fits :=
 (ReadsC.struct Tryz.underlying67 (by kernel_rfl) (ReadsF.cons (by kernel_rfl) rdInt (ReadsF.cons (by kernel_rfl) WF ReadsF.nil))).map (fun p=>(⟨p.1,p.2.1⟩:Ss.Edge)) (fun _=>rfl) (fun p h=>⟨h.1,h.2.1⟩)
theorem rdEdges:ReadsC Tryz.prog 58 (fun l:List Ss.Edge=>[vl jf l]) (fun l=>l.length≤140737488355328 ∧ ∀ s∈l,s.Fits) :=
 (ReadsC.slice jf Tryz.underlying58 rdEdge (of_decide_eq_true (by kernel_rfl)) (fun _ => .inl rfl)).map id (fun _=>rfl) (fun l h=>⟨jbF (of_decide_eq_true (by kernel_rfl)) h.1.2,h.2⟩)
theorem rdTerm:ReadsC Tryz.prog 60 (fun t:Ss.Term=>[vint t.kind,vint t.arg,vl jf t.to,vl vint t.args]) Ss.Term.Fits :=
 (ReadsC.struct Tryz.underlying60 (by kernel_rfl) (ReadsF.cons (by kernel_rfl) rdInt (ReadsF.cons (by kernel_rfl) rdInt (ReadsF.cons (by kernel_rfl) rdEdges (ReadsF.cons (by kernel_rfl) WF ReadsF.nil))))).map (fun p=>(⟨p.1,p.2.1,p.2.2.1,p.2.2.2.1⟩:Ss.Term)) (fun _=>rfl) (fun p h=>⟨h.1,h.2.1,h.2.2.1,h.2.2.2.1⟩)
theorem rdBlock:ReadsC Tryz.prog 62 (fun b:Ss.Block=>[vl vint b.params,vl jg b.code,vint b.term.kind,vint b.term.arg,vl jf b.term.to,vl vint b.term.args]) Ss.Block.Fits :=
 (ReadsC.struct Tryz.underlying62 (by kernel_rfl) (ReadsF.cons (by kernel_rfl) WF (ReadsF.cons (by kernel_rfl) rdInss (ReadsF.cons (by kernel_rfl) rdTerm ReadsF.nil)))).map (fun p=>(⟨p.1,p.2.1,p.2.2.1⟩:Ss.Block)) (fun _=>rfl) (fun p h=>⟨h.1,h.2.1,h.2.2.1⟩)
theorem rdBlocks:ReadsC Tryz.prog 29 (fun l:List Ss.Block=>[vl jb l]) (fun l=>l.length≤140737488355328 ∧ ∀ s∈l,s.Fits) :=
 (ReadsC.slice jb Tryz.underlying29 rdBlock (of_decide_eq_true (by kernel_rfl)) (fun _ => .inl rfl)).map id (fun _=>rfl) (fun l h=>⟨jbF (of_decide_eq_true (by kernel_rfl)) h.1.2,h.2⟩)
theorem rdFn:ReadsC Tryz.prog 31 (fun f:Ss.Fn=>[vl vint f.sig.inn,vl vint f.sig.out,vl vint f.types,vl jb f.blocks]) Ss.Fn.Fits :=
 (ReadsC.struct Tryz.underlying31 (by kernel_rfl) (ReadsF.cons (by kernel_rfl) rdSig (ReadsF.cons (by kernel_rfl) WF (ReadsF.cons (by kernel_rfl) rdBlocks ReadsF.nil)))).map (fun p=>(⟨p.1,p.2.1,p.2.2.1⟩:Ss.Fn)) (fun _=>rfl) (fun p h=>⟨h.1,h.2.1,h.2.2.1⟩)
theorem rdEnv:ReadsC Tryz.prog 26 (fun e:Ss.Env=>[vl jC e.sigs,vint e.imports,vl vint e.globals,vl V.bool e.muts, .bool e.mem]) Ss.Env.Fits :=
 (ReadsC.struct Tryz.underlying26 (by kernel_rfl) (ReadsF.cons (by kernel_rfl) rdSigs (ReadsF.cons (by kernel_rfl) rdInt (ReadsF.cons (by kernel_rfl) WF (ReadsF.cons (by kernel_rfl) rdBools (ReadsF.cons (by kernel_rfl) rdBool ReadsF.nil)))))).map (fun p=>(⟨p.1,p.2.1,p.2.2.1,p.2.2.2.1,p.2.2.2.2.1⟩:Ss.Env)) (fun _=>rfl) (fun p h=>⟨h.1,h.2.1,h.2.2.1,h.2.2.2.1⟩)
end Go.Vw
/-
 Functions in SSA form: how long their lists are.
-/
namespace Ss
def shortL (ls:List (List Int)):Bool:=ls.all fun l=>decide (l.length≤4096)
def Ins.small (x:Ins):Bool:=decide (x.args.length≤4096)&&decide (x.outs.length≤4096)
def Edge.small (x:Edge):Bool:=decide (x.args.length≤4096)
def Block.small (b:Block):Bool:=decide (b.params.length≤4096)&&decide (b.term.to.length≤4096)&&decide (b.term.args.length≤4096)&&b.code.all Ins.small&&b.term.to.all Edge.small
def smallFrom (n:Nat):List Block→Bool
 | []=>true
 | b::bs=>decide (n+b.code.length≤4096)&&b.small&&smallFrom (n+b.code.length) bs
def Fn.heads (f:Fn):Bool:=decide (f.types.length≤4096)&&decide (f.blocks.length≤4096)&&decide (f.sig.inn.length≤4096)&&decide (f.sig.out.length≤4096)
def Fn.small (f:Fn):Bool:=f.heads&&smallFrom 0 f.blocks
def count (bs:List Block):Nat:=(bs.map fun b=>b.code.length).sum
theorem WB : ∀ {bs:List Block} {n:Nat},smallFrom n bs=true→(∀ b∈bs,b.small=true)∧(n≤4096→n+count bs≤4096)
 | [],n,_=>⟨by simp,by simp [count]⟩
 | b::bs,n,h=>by
  simp only [smallFrom,Bool.and_eq_true,decide_eq_true_eq] at h;obtain ⟨⟨h1,h2⟩,h3⟩:=h;obtain ⟨k1,k2⟩:=WB h3;refine ⟨fun x hx => ?_,fun _ => ?_⟩
  ·rcases List.mem_cons.1 hx with rfl | hx
   ·exact h2
   ·exact k1 x hx
  ·have:=k2 h1;simp only [count,List.map_cons,List.sum_cons] at this ⊢;omega
theorem YU : ∀ {bs:List Block} {n:Nat},(∀ b∈bs,b.small=true)→n+count bs≤4096→smallFrom n bs=true
 | [],n,_,_=>rfl
 | b::bs,n,h,hn=>by
  simp only [count,List.map_cons,List.sum_cons] at hn;simp only [smallFrom,Bool.and_eq_true,decide_eq_true_eq];exact ⟨⟨by omega,h b (by simp)⟩,YU (fun x hx=>h x (by simp [hx])) (by simp only [count]; omega)⟩
theorem small_iff (f:Fn):f.small=true↔f.heads=true∧(∀ b∈f.blocks,b.small=true)∧count f.blocks≤4096:=by
 simp only [Fn.small,Bool.and_eq_true];constructor
 ·rintro ⟨h1,h2⟩;obtain ⟨k1,k2⟩:=WB h2;exact ⟨h1,k1,by simpa using k2 (by omega)⟩
 ·rintro ⟨h1,h2,h3⟩;exact ⟨h1,YU h2 (by simpa using h3)⟩
theorem drop_all {α:Type} (p:α→Bool) {l:List α} {k:Nat} (h:k<l.length):(l.drop k).all p=(p l[k]&&(l.drop (k+1)).all p):=by
 rw [List.drop_eq_getElem_cons h,List.all_cons]
theorem drop_all_end {α:Type} (p:α→Bool) {l:List α} {k:Nat} (h : ¬ k<l.length):(l.drop k).all p=true:=by
 have:l.drop k=[]:=by rw [List.drop_eq_nil_iff]; omega
 rw [this]; rfl
theorem drop_small {n:Nat} {l:List Block} {k:Nat} (h:k<l.length):smallFrom n (l.drop k)=(decide (n+l[k].code.length≤4096)&&l[k].small&&smallFrom (n+l[k].code.length) (l.drop (k+1))):=by
 rw [List.drop_eq_getElem_cons h,smallFrom]
theorem drop_small_end {n:Nat} {l:List Block} {k:Nat} (h : ¬ k<l.length):smallFrom n (l.drop k)=true:=by
 have:l.drop k=[]:=by rw [List.drop_eq_nil_iff]; omega
 rw [this]; rfl
end Ss
namespace Go.Vw
open Go.Proofs Go.RowKit
attribute [-simp] List.map_set
theorem Ke (f:Ss.Fn) (hf:f.Fits):VPure Tryz.prog 35 [ql f] (.bool f.small):=by
 intro S;obtain ⟨⟨fi,fo⟩,ts,bs⟩:=f;obtain ⟨_,_,hbl0,hbf⟩:=hf;simp only at hbl0 hbf;have hbl:bs.length<2^63:=by omega
 refine QB (c:=jd Tryz.f35) Tryz.func35 Tryz.ntmps35 fun hwf=>?_
 by_cases h1:(4096:Int)<(ts.length:Int)
 ·repeat first|refine QG ?_|refine QY ?_ (r:=by conv=>lhs;simp[QV,h1])
  exact ja hwf (by simp [Ss.Fn.small,Ss.Fn.heads]; omega) rfl
 by_cases h2:(4096:Int)<(bs.length:Int)
 ·repeat first|refine QG ?_|refine QY ?_ (r:=by conv=>lhs;simp[QV,h1,h2])
  exact ja hwf (by simp [Ss.Fn.small,Ss.Fn.heads]; omega) rfl
 by_cases h3:(4096:Int)<(fi.length:Int)
 ·repeat first|refine QG ?_|refine QY ?_ (r:=by conv=>lhs;simp[QV,h1,h2,h3])
  exact ja hwf (by simp [Ss.Fn.small,Ss.Fn.heads]; omega) rfl
 by_cases h4:(4096:Int)<(fo.length:Int)
 ·repeat first|refine QG ?_|refine QY ?_ (r:=by conv=>lhs;simp[QV,h1,h2,h3,h4])
  exact ja hwf (by simp [Ss.Fn.small,Ss.Fn.heads]; omega) rfl
 have hh:Ss.Fn.small ⟨⟨fi,fo⟩,ts,bs⟩=Ss.smallFrom 0 bs:=by
  have:Ss.Fn.heads ⟨⟨fi,fo⟩,ts,bs⟩=true:=by simp [Ss.Fn.heads]; omega
  simp [Ss.Fn.small,this]
 rw [hh]
 repeat first|refine QG ?_|refine QY ?_ (r:=by conv=>lhs;simp[QV,h1,h2,h3,h4])
 refine QT ?_;refine jc [1,3,4] rfl (fun c σ S' => ∃ (k n:Nat),k≤bs.length∧n≤4096∧c=bs.length-k∧Ss.smallFrom n (bs.drop k)=Ss.smallFrom 0 bs∧σ=[(1, .ptr (lid S.nx 0) 0),(3,vnat n),(4,vnat k)]∧S'=St S [] [some (4,[vl vint fi,vl vint fo,vl vint ts,vl jb bs])]) bs.length ?_ ?_
 ·exact ⟨0,0,by omega,by omega,rfl,rfl,by simp [Fr.only],rfl⟩
 ·rintro c σ T ⟨k,n,hk,hn,rfl,hd,rfl,rfl⟩
  by_cases hkt:k<bs.length
  ·have hw:=ji hkt hbl;have hbk:=hbf _ (List.getElem_mem hkt);have hst:=Ss.drop_small (n:=n) hkt;obtain ⟨⟨ps,code,⟨tk,ta,to,az⟩⟩,hb⟩ : ∃ b,bs[k]=b:=⟨_,rfl⟩
   rw [hb] at hst hbk;obtain ⟨_,⟨hcl0,_⟩,_,_,⟨htl0,_⟩,_⟩:=hbk;simp only at hcl0 htl0;have hcl:code.length<2^63:=by omega
   have htl:to.length<2^63:=by omega
   have hwn:IntKind.i64.wrap ((n:Int)+(code.length:Int))=(n:Int)+(code.length:Int):=wrap_i64 (by omega) (by omega);have hS:Ss.Block.small ⟨ps,code,⟨tk,ta,to,az⟩⟩=(decide (ps.length≤4096)&&decide (to.length≤4096)&&decide (az.length≤4096)&&code.all Ss.Ins.small&&to.all Ss.Edge.small):=rfl
   by_cases g1:(4096:Int)<(n:Int)+(code.length:Int)
   ·have e:Ss.smallFrom n (bs.drop k)=false:=by rw [hst]; simp; omega
    rw [←hd,e]
    repeat first|refine QG ?_|refine QY ?_ (r:=by conv=>lhs;simp[QV,hkt,hb,hwn,g1])
    exact ja hwf rfl rfl
   by_cases g2:(4096:Int)<(ps.length:Int)
   ·have e:Ss.smallFrom n (bs.drop k)=false:=by rw [hst,hS]; simp; omega
    rw [←hd,e]
    repeat first|refine QG ?_|refine QY ?_ (r:=by conv=>lhs;simp[QV,hkt,hb,hwn,g1,g2])
    exact ja hwf rfl rfl
   by_cases g3:(4096:Int)<(to.length:Int)
   ·have e:Ss.smallFrom n (bs.drop k)=false:=by rw [hst,hS]; simp; omega
    rw [←hd,e]
    repeat first|refine QG ?_|refine QY ?_ (r:=by conv=>lhs;simp[QV,hkt,hb,hwn,g1,g2,g3])
    exact ja hwf rfl rfl
   by_cases g4:(4096:Int)<(az.length:Int)
   ·have e:Ss.smallFrom n (bs.drop k)=false:=by rw [hst,hS]; simp; omega
    rw [←hd,e]
    repeat first|refine QG ?_|refine QY ?_ (r:=by conv=>lhs;simp[QV,hkt,hb,hwn,g1,g2,g3,g4])
    exact ja hwf rfl rfl
   rw [show decide (n+code.length≤4096)=true by simp; omega,hS,show decide (ps.length≤4096)=true by simp; omega,show decide (to.length≤4096)=true by simp; omega,show decide (az.length≤4096)=true by simp; omega,Bool.true_and,Bool.true_and,Bool.true_and,Bool.true_and] at hst
   repeat first|refine QG ?_|refine QY ?_ (r:=by conv=>lhs;simp[QV,hkt,hb,hwn,g1,g2,g3,g4])
   refine QT ?_;refine jc [1,3,4,5,6] rfl (fun c σ S' => ∃ (j:Nat),j≤code.length∧c=code.length-j∧(code.drop j).all Ss.Ins.small=code.all Ss.Ins.small∧σ=[(1, .ptr (lid S.nx 0) 0),(3,vnat (n+code.length)),(4,vnat k),(5, .ptr (lid S.nx 1) 0),(6,vnat j)]∧S'=St S [] [some (4,[vl vint fi,vl vint fo,vl vint ts,vl jb bs]),some (6,[vl vint ps,vl jg code,vint tk,vint ta,vl jf to,vl vint az])]) code.length ?_ ?_
   ·exact ⟨0,by omega,rfl,rfl,by simp [Fr.only],rfl⟩
   ·rintro c σ T ⟨j,hj,rfl,hdj,rfl,rfl⟩
    by_cases hjt:j<code.length
    ·have hwj:=ji hjt hcl;have hstj:=Ss.drop_all Ss.Ins.small hjt;obtain ⟨⟨io,iN,ia,iu⟩,hx⟩ : ∃ b,code[j]=b:=⟨_,rfl⟩
     rw [hx] at hstj;have hX:Ss.Ins.small ⟨io,iN,ia,iu⟩=(decide (ia.length≤4096)&&decide (iu.length≤4096)):=rfl
     by_cases q1:(4096:Int)<(ia.length:Int)
     ·have e:code.all Ss.Ins.small=false:=by rw [←hdj,hstj,hX]; simp; omega
      rw [←hd,hst,e]
      repeat first|refine QG ?_|refine QY ?_ (r:=by conv=>lhs;simp[QV,hjt,hx,q1])
      exact ja hwf rfl rfl
     by_cases q2:(4096:Int)<(iu.length:Int)
     ·have e:code.all Ss.Ins.small=false:=by rw [←hdj,hstj,hX]; simp; omega
      rw [←hd,hst,e]
      repeat first|refine QG ?_|refine QY ?_ (r:=by conv=>lhs;simp[QV,hjt,hx,q1,q2])
      exact ja hwf rfl rfl
     rw [hX,show decide (ia.length≤4096)=true by simp; omega,show decide (iu.length≤4096)=true by simp; omega,Bool.true_and,Bool.true_and] at hstj
     repeat first|refine QG ?_|refine QY ?_ (r:=by conv=>lhs;simp[QV,hjt,hx,q1,q2])
     show jp _ _ _ _ _ _ _;exact again ⟨Nat.sub_lt_sub_left hjt (Nat.lt_succ_self j),j+1,hjt,rfl,by rw [←hdj,hstj],by simp [Fr.only,hwj],rfl⟩
    ·rw [Ss.drop_all_end _ hjt] at hdj;rw [←hdj,Bool.true_and] at hst
     repeat first|refine QG ?_|refine QY ?_ (r:=by conv=>lhs;simp[QV,hjt])
     refine QT ?_;refine jc [1,3,4,5,7] rfl (fun c σ S' => ∃ (j:Nat),j≤to.length∧c=to.length-j∧(to.drop j).all Ss.Edge.small=to.all Ss.Edge.small∧σ=[(1, .ptr (lid S.nx 0) 0),(3,vnat (n+code.length)),(4,vnat k),(5, .ptr (lid S.nx 1) 0),(7,vnat j)]∧S'=St S [] [some (4,[vl vint fi,vl vint fo,vl vint ts,vl jb bs]),some (6,[vl vint ps,vl jg code,vint tk,vint ta,vl jf to,vl vint az])]) to.length ?_ ?_
     ·exact ⟨0,by omega,rfl,rfl,by simp [Fr.only],rfl⟩
     ·rintro c σ T ⟨j,hj,rfl,hdj,rfl,rfl⟩
      by_cases hjt:j<to.length
      ·have hwj:=ji hjt htl;have hstj:=Ss.drop_all Ss.Edge.small hjt;obtain ⟨⟨io,ia⟩,hx⟩ : ∃ b,to[j]=b:=⟨_,rfl⟩
       rw [hx] at hstj;have hX:Ss.Edge.small ⟨io,ia⟩=decide (ia.length≤4096):=rfl
       by_cases q1:(4096:Int)<(ia.length:Int)
       ·have e:to.all Ss.Edge.small=false:=by rw [←hdj,hstj,hX]; simp; omega
        rw [←hd,hst,e]
        repeat first|refine QG ?_|refine QY ?_ (r:=by conv=>lhs;simp[QV,hjt,hx,q1])
        exact ja hwf rfl rfl
       rw [hX,show decide (ia.length≤4096)=true by simp; omega,Bool.true_and] at hstj
       repeat first|refine QG ?_|refine QY ?_ (r:=by conv=>lhs;simp[QV,hjt,hx,q1])
       show jp _ _ _ _ _ _ _;exact again ⟨Nat.sub_lt_sub_left hjt (Nat.lt_succ_self j),j+1,hjt,rfl,by rw [←hdj,hstj],by simp [Fr.only,hwj],rfl⟩
      ·rw [Ss.drop_all_end _ hjt] at hdj;rw [←hdj,Bool.true_and] at hst
       repeat first|refine QG ?_|refine QY ?_ (r:=by conv=>lhs;simp[QV,hjt,hw])
       refine QA [0] (h:=⟨?_,k+1,n+code.length,hkt,by omega,rfl,by rw [←hd,hst],by simp,rfl⟩);omega
  ·rw [Ss.drop_small_end hkt] at hd;rw [←hd]
   repeat first|refine QG ?_|refine QY ?_ (r:=by conv=>lhs;simp[QV,hkt])
   exact ja hwf rfl rfl
def qy {α:Type} (p:α→Bool):List α→Nat→Int
 | [],_ => -1
 | x::xs,k=>if p x then (k:Int) else qy p xs (k+1)
theorem Jb {α:Type} (p:α→Bool) : ∀ (l:List α) (k:Nat),decide (0≤qy p l k)=l.any p
 | [],k=>by simp [qy]
 | x::xs,k=>by
   cases h:p x
   ·simp [qy,h,Jb p xs (k+1)]
   ·simp [qy,h]
def eqF {α:Type} (p:α→α→Bool):List α→List α→Bool
 | [],[]=>true
 | x::xs,y::ys=>p x y&&eqF p xs ys
 | _,_=>false
theorem eqF_len {α:Type} {p:α→α→Bool} : ∀ {l m:List α}, ¬ l.length=m.length→eqF p l m=false
 | [],[],h=>absurd rfl h
 | [],_::_,_=>rfl
 | _::_,[],_=>rfl
 | x::xs,y::ys,h=>by rw [eqF,eqF_len (l:=xs) (m:=ys) (by simpa using h)]; simp
theorem eqF_eq {α:Type} [DecidableEq α] {p:α→α→Bool} (hp : ∀ x y,p x y=decide (x=y)) : ∀ (l m:List α),eqF p l m=decide (l=m)
 | [],[]=>by simp [eqF]
 | [],_::_=>by simp [eqF]
 | _::_,[]=>by simp [eqF]
 | x::xs,y::ys=>by rw [eqF,hp,eqF_eq hp xs ys]; simp
theorem IndexL_v (l:List (List Int)) (p:List Int→Bool) (fid:FuncId) (caps:List V) (hc:qb Tryz.prog fid=true) (hl:l.length<2^63) (h : ∀ x∈l,VPure Tryz.prog fid ([vl vint x]++caps) (.bool (p x))) :
  VPure Tryz.prog 144 [vl (vl vint) l, .func fid caps] (vint (qy p l 0)):=by
 intro S;refine QB (c:=jd Tryz.f144) Tryz.func144 Tryz.ntmps144 fun hwf=>?_
 repeat first|refine QG ?_|refine QY ?_
 refine QT ?_;refine jc [0,1,7,8] rfl (fun c σ S' => ∃ (k:Nat),k≤l.length∧c=l.length-k∧qy p (l.drop k) k=qy p l 0∧σ=[(0,vl (vl vint) l),(1, .func fid caps),(7,vnat l.length),(8,vnat k)]∧S'=St S [] []) l.length ?_ ?_
 ·exact ⟨0,by omega,rfl,rfl,by simp [Fr.only],rfl⟩
 ·rintro c σ T ⟨k,hk,rfl,hd,rfl,rfl⟩
  by_cases hkt:k<l.length
  ·have hst:qy p (l.drop k) k=if p l[k] then (k:Int) else qy p (l.drop (k+1)) (k+1):=by rw [List.drop_eq_getElem_cons hkt,qy]
   have hw:=ji hkt hl
   repeat first|refine QG ?_|refine QY ?_ (r:=by conv=>lhs;simp[QV,hkt])
   refine QT ?_;refine QP ?_ (r:=by conv=>lhs;simp[QV,hkt]);refine ze rfl hc rfl (h _ (List.getElem_mem hkt)) ?_;refine QW ?_
   cases hp:p l[k] with
   | true =>
    rw [hp] at hst
    repeat first|refine QG ?_|refine QY ?_ (r:=by conv=>lhs;simp[QV,hp])
    exact ja hwf (by rw [←hd,hst]; rfl) rfl
   | false =>
    rw [hp] at hst
    repeat first|refine QG ?_|refine QY ?_ (r:=by conv=>lhs;simp[QV,hp])
    show jp _ _ _ _ _ _ _;exact again ⟨Nat.sub_lt_sub_left hkt (Nat.lt_succ_self k),k+1,hkt,rfl,by rw [←hd,hst]; rfl,by simp [Fr.only,hw],rfl⟩
  ·have e:l.drop k=[]:=by rw [List.drop_eq_nil_iff]; omega
   rw [e] at hd
   repeat first|refine QG ?_|refine QY ?_ (r:=by conv=>lhs;simp[QV,hkt])
   exact ja hwf (by rw [←hd]; rfl) rfl
theorem AnyL_v (l:List (List Int)) (p:List Int→Bool) (fid:FuncId) (caps:List V) (hc:qb Tryz.prog fid=true) (hl:l.length<2^63) (h : ∀ x∈l,VPure Tryz.prog fid ([vl vint x]++caps) (.bool (p x))) :
  VPure Tryz.prog 128 [vl (vl vint) l, .func fid caps] (.bool (l.any p)):=by
 intro S;refine QB (c:=jd Tryz.f128) Tryz.func128 Tryz.ntmps128 fun hwf=>?_
 rw [←Jb p l 0]
 repeat first|refine QG ?_|refine QY ?_
 refine QT ?_;refine QP ?_;refine jm rfl (IndexL_v l p fid caps hc hl h) ?_;refine QW ?_
 repeat first|refine QG ?_|refine QY ?_
 exact ja hwf rfl rfl
theorem IndexI_v (l:List (Int)) (p:Int→Bool) (fid:FuncId) (caps:List V) (hc:qb Tryz.prog fid=true) (hl:l.length<2^63) (h : ∀ x∈l,VPure Tryz.prog fid ([vint x]++caps) (.bool (p x))) :
  VPure Tryz.prog 84 [vl (vint) l, .func fid caps] (vint (qy p l 0)):=by
 intro S;refine QB (c:=jd Tryz.f84) Tryz.func84 Tryz.ntmps84 fun hwf=>?_
 repeat first|refine QG ?_|refine QY ?_
 refine QT ?_;refine jc [0,1,7,8] rfl (fun c σ S' => ∃ (k:Nat),k≤l.length∧c=l.length-k∧qy p (l.drop k) k=qy p l 0∧σ=[(0,vl (vint) l),(1, .func fid caps),(7,vnat l.length),(8,vnat k)]∧S'=St S [] []) l.length ?_ ?_
 ·exact ⟨0,by omega,rfl,rfl,by simp [Fr.only],rfl⟩
 ·rintro c σ T ⟨k,hk,rfl,hd,rfl,rfl⟩
  by_cases hkt:k<l.length
  ·have hst:qy p (l.drop k) k=if p l[k] then (k:Int) else qy p (l.drop (k+1)) (k+1):=by rw [List.drop_eq_getElem_cons hkt,qy]
   have hw:=ji hkt hl
   repeat first|refine QG ?_|refine QY ?_ (r:=by conv=>lhs;simp[QV,hkt])
   refine QT ?_;refine QP ?_ (r:=by conv=>lhs;simp[QV,hkt]);refine ze rfl hc rfl (h _ (List.getElem_mem hkt)) ?_;refine QW ?_
   cases hp:p l[k] with
   | true =>
    rw [hp] at hst
    repeat first|refine QG ?_|refine QY ?_ (r:=by conv=>lhs;simp[QV,hp])
    exact ja hwf (by rw [←hd,hst]; rfl) rfl
   | false =>
    rw [hp] at hst
    repeat first|refine QG ?_|refine QY ?_ (r:=by conv=>lhs;simp[QV,hp])
    show jp _ _ _ _ _ _ _;exact again ⟨Nat.sub_lt_sub_left hkt (Nat.lt_succ_self k),k+1,hkt,rfl,by rw [←hd,hst]; rfl,by simp [Fr.only,hw],rfl⟩
  ·have e:l.drop k=[]:=by rw [List.drop_eq_nil_iff]; omega
   rw [e] at hd
   repeat first|refine QG ?_|refine QY ?_ (r:=by conv=>lhs;simp[QV,hkt])
   exact ja hwf (by rw [←hd]; rfl) rfl
theorem AnyI_v (l:List (Int)) (p:Int→Bool) (fid:FuncId) (caps:List V) (hc:qb Tryz.prog fid=true) (hl:l.length<2^63) (h : ∀ x∈l,VPure Tryz.prog fid ([vint x]++caps) (.bool (p x))) :
  VPure Tryz.prog 32 [vl (vint) l, .func fid caps] (.bool (l.any p)):=by
 intro S;refine QB (c:=jd Tryz.f32) Tryz.func32 Tryz.ntmps32 fun hwf=>?_
 rw [←Jb p l 0]
 repeat first|refine QG ?_|refine QY ?_
 refine QT ?_;refine QP ?_;refine jm rfl (IndexI_v l p fid caps hc hl h) ?_;refine QW ?_
 repeat first|refine QG ?_|refine QY ?_
 exact ja hwf rfl rfl
theorem IndexB_v (l:List (Ss.Block)) (p:Ss.Block→Bool) (fid:FuncId) (caps:List V) (hc:qb Tryz.prog fid=true) (hl:l.length<2^63) (h : ∀ x∈l,VPure Tryz.prog fid ([jb x]++caps) (.bool (p x))) :
  VPure Tryz.prog 102 [vl (jb) l, .func fid caps] (vint (qy p l 0)):=by
 intro S;refine QB (c:=jd Tryz.f102) Tryz.func102 Tryz.ntmps102 fun hwf=>?_
 repeat first|refine QG ?_|refine QY ?_
 refine QT ?_;refine jc [0,1,7,8] rfl (fun c σ S' => ∃ (k:Nat),k≤l.length∧c=l.length-k∧qy p (l.drop k) k=qy p l 0∧σ=[(0,vl (jb) l),(1, .func fid caps),(7,vnat l.length),(8,vnat k)]∧S'=St S [] []) l.length ?_ ?_
 ·exact ⟨0,by omega,rfl,rfl,by simp [Fr.only],rfl⟩
 ·rintro c σ T ⟨k,hk,rfl,hd,rfl,rfl⟩
  by_cases hkt:k<l.length
  ·have hst:qy p (l.drop k) k=if p l[k] then (k:Int) else qy p (l.drop (k+1)) (k+1):=by rw [List.drop_eq_getElem_cons hkt,qy]
   have hw:=ji hkt hl
   repeat first|refine QG ?_|refine QY ?_ (r:=by conv=>lhs;simp[QV,hkt])
   refine QT ?_;refine QP ?_ (r:=by conv=>lhs;simp[QV,hkt]);refine ze rfl hc rfl (h _ (List.getElem_mem hkt)) ?_;refine QW ?_
   cases hp:p l[k] with
   | true =>
    rw [hp] at hst
    repeat first|refine QG ?_|refine QY ?_ (r:=by conv=>lhs;simp[QV,hp])
    exact ja hwf (by rw [←hd,hst]; rfl) rfl
   | false =>
    rw [hp] at hst
    repeat first|refine QG ?_|refine QY ?_ (r:=by conv=>lhs;simp[QV,hp])
    show jp _ _ _ _ _ _ _;exact again ⟨Nat.sub_lt_sub_left hkt (Nat.lt_succ_self k),k+1,hkt,rfl,by rw [←hd,hst]; rfl,by simp [Fr.only,hw],rfl⟩
  ·have e:l.drop k=[]:=by rw [List.drop_eq_nil_iff]; omega
   rw [e] at hd
   repeat first|refine QG ?_|refine QY ?_ (r:=by conv=>lhs;simp[QV,hkt])
   exact ja hwf (by rw [←hd]; rfl) rfl
theorem AnyB_v (l:List (Ss.Block)) (p:Ss.Block→Bool) (fid:FuncId) (caps:List V) (hc:qb Tryz.prog fid=true) (hl:l.length<2^63) (h : ∀ x∈l,VPure Tryz.prog fid ([jb x]++caps) (.bool (p x))) :
  VPure Tryz.prog 67 [vl (jb) l, .func fid caps] (.bool (l.any p)):=by
 intro S;refine QB (c:=jd Tryz.f67) Tryz.func67 Tryz.ntmps67 fun hwf=>?_
 rw [←Jb p l 0]
 repeat first|refine QG ?_|refine QY ?_
 refine QT ?_;refine QP ?_;refine jm rfl (IndexB_v l p fid caps hc hl h) ?_;refine QW ?_
 repeat first|refine QG ?_|refine QY ?_
 exact ja hwf rfl rfl
theorem IndexS_v (l:List (Ss.Sig)) (p:Ss.Sig→Bool) (fid:FuncId) (caps:List V) (hc:qb Tryz.prog fid=true) (hl:l.length<2^63) (h : ∀ x∈l,VPure Tryz.prog fid ([jC x]++caps) (.bool (p x))) :
  VPure Tryz.prog 127 [vl (jC) l, .func fid caps] (vint (qy p l 0)):=by
 intro S;refine QB (c:=jd Tryz.f127) Tryz.func127 Tryz.ntmps127 fun hwf=>?_
 repeat first|refine QG ?_|refine QY ?_
 refine QT ?_;refine jc [0,1,7,8] rfl (fun c σ S' => ∃ (k:Nat),k≤l.length∧c=l.length-k∧qy p (l.drop k) k=qy p l 0∧σ=[(0,vl (jC) l),(1, .func fid caps),(7,vnat l.length),(8,vnat k)]∧S'=St S [] []) l.length ?_ ?_
 ·exact ⟨0,by omega,rfl,rfl,by simp [Fr.only],rfl⟩
 ·rintro c σ T ⟨k,hk,rfl,hd,rfl,rfl⟩
  by_cases hkt:k<l.length
  ·have hst:qy p (l.drop k) k=if p l[k] then (k:Int) else qy p (l.drop (k+1)) (k+1):=by rw [List.drop_eq_getElem_cons hkt,qy]
   have hw:=ji hkt hl
   repeat first|refine QG ?_|refine QY ?_ (r:=by conv=>lhs;simp[QV,hkt])
   refine QT ?_;refine QP ?_ (r:=by conv=>lhs;simp[QV,hkt]);refine ze rfl hc rfl (h _ (List.getElem_mem hkt)) ?_;refine QW ?_
   cases hp:p l[k] with
   | true =>
    rw [hp] at hst
    repeat first|refine QG ?_|refine QY ?_ (r:=by conv=>lhs;simp[QV,hp])
    exact ja hwf (by rw [←hd,hst]; rfl) rfl
   | false =>
    rw [hp] at hst
    repeat first|refine QG ?_|refine QY ?_ (r:=by conv=>lhs;simp[QV,hp])
    show jp _ _ _ _ _ _ _;exact again ⟨Nat.sub_lt_sub_left hkt (Nat.lt_succ_self k),k+1,hkt,rfl,by rw [←hd,hst]; rfl,by simp [Fr.only,hw],rfl⟩
  ·have e:l.drop k=[]:=by rw [List.drop_eq_nil_iff]; omega
   rw [e] at hd
   repeat first|refine QG ?_|refine QY ?_ (r:=by conv=>lhs;simp[QV,hkt])
   exact ja hwf (by rw [←hd]; rfl) rfl
theorem AnyS_v (l:List (Ss.Sig)) (p:Ss.Sig→Bool) (fid:FuncId) (caps:List V) (hc:qb Tryz.prog fid=true) (hl:l.length<2^63) (h : ∀ x∈l,VPure Tryz.prog fid ([jC x]++caps) (.bool (p x))) :
  VPure Tryz.prog 97 [vl (jC) l, .func fid caps] (.bool (l.any p)):=by
 intro S;refine QB (c:=jd Tryz.f97) Tryz.func97 Tryz.ntmps97 fun hwf=>?_
 rw [←Jb p l 0]
 repeat first|refine QG ?_|refine QY ?_
 refine QT ?_;refine QP ?_;refine jm rfl (IndexS_v l p fid caps hc hl h) ?_;refine QW ?_
 repeat first|refine QG ?_|refine QY ?_
 exact ja hwf rfl rfl
theorem IndexN_v (l:List (Ss.Ins)) (p:Ss.Ins→Bool) (fid:FuncId) (caps:List V) (hc:qb Tryz.prog fid=true) (hl:l.length<2^63) (h : ∀ x∈l,VPure Tryz.prog fid ([jg x]++caps) (.bool (p x))) :
  VPure Tryz.prog 145 [vl (jg) l, .func fid caps] (vint (qy p l 0)):=by
 intro S;refine QB (c:=jd Tryz.f145) Tryz.func145 Tryz.ntmps145 fun hwf=>?_
 repeat first|refine QG ?_|refine QY ?_
 refine QT ?_;refine jc [0,1,7,8] rfl (fun c σ S' => ∃ (k:Nat),k≤l.length∧c=l.length-k∧qy p (l.drop k) k=qy p l 0∧σ=[(0,vl (jg) l),(1, .func fid caps),(7,vnat l.length),(8,vnat k)]∧S'=St S [] []) l.length ?_ ?_
 ·exact ⟨0,by omega,rfl,rfl,by simp [Fr.only],rfl⟩
 ·rintro c σ T ⟨k,hk,rfl,hd,rfl,rfl⟩
  by_cases hkt:k<l.length
  ·have hst:qy p (l.drop k) k=if p l[k] then (k:Int) else qy p (l.drop (k+1)) (k+1):=by rw [List.drop_eq_getElem_cons hkt,qy]
   have hw:=ji hkt hl
   repeat first|refine QG ?_|refine QY ?_ (r:=by conv=>lhs;simp[QV,hkt])
   refine QT ?_;refine QP ?_ (r:=by conv=>lhs;simp[QV,hkt]);refine ze rfl hc rfl (h _ (List.getElem_mem hkt)) ?_;refine QW ?_
   cases hp:p l[k] with
   | true =>
    rw [hp] at hst
    repeat first|refine QG ?_|refine QY ?_ (r:=by conv=>lhs;simp[QV,hp])
    exact ja hwf (by rw [←hd,hst]; rfl) rfl
   | false =>
    rw [hp] at hst
    repeat first|refine QG ?_|refine QY ?_ (r:=by conv=>lhs;simp[QV,hp])
    show jp _ _ _ _ _ _ _;exact again ⟨Nat.sub_lt_sub_left hkt (Nat.lt_succ_self k),k+1,hkt,rfl,by rw [←hd,hst]; rfl,by simp [Fr.only,hw],rfl⟩
  ·have e:l.drop k=[]:=by rw [List.drop_eq_nil_iff]; omega
   rw [e] at hd
   repeat first|refine QG ?_|refine QY ?_ (r:=by conv=>lhs;simp[QV,hkt])
   exact ja hwf (by rw [←hd]; rfl) rfl
theorem AnyN_v (l:List (Ss.Ins)) (p:Ss.Ins→Bool) (fid:FuncId) (caps:List V) (hc:qb Tryz.prog fid=true) (hl:l.length<2^63) (h : ∀ x∈l,VPure Tryz.prog fid ([jg x]++caps) (.bool (p x))) :
  VPure Tryz.prog 131 [vl (jg) l, .func fid caps] (.bool (l.any p)):=by
 intro S;refine QB (c:=jd Tryz.f131) Tryz.func131 Tryz.ntmps131 fun hwf=>?_
 rw [←Jb p l 0]
 repeat first|refine QG ?_|refine QY ?_
 refine QT ?_;refine QP ?_;refine jm rfl (IndexN_v l p fid caps hc hl h) ?_;refine QW ?_
 repeat first|refine QG ?_|refine QY ?_
 exact ja hwf rfl rfl
theorem short1_v (l:List Int):VPure Tryz.prog 129 ([vl vint l]++[]) (.bool (decide (4096<l.length))):=by
 intro S;refine QB (c:=jd Tryz.f129) Tryz.func129 Tryz.ntmps129 fun hwf=>?_
 repeat first|refine QG ?_|refine QY ?_
 exact ja hwf (by simp; omega) rfl
theorem jbY (ls:List (List Int)) (hl:ls.length<2^63):VPure Tryz.prog 99 [vl (vl vint) ls] (.bool (Ss.shortL ls)):=by
 intro S;have e:(!ls.any fun l=>decide (4096<l.length))=Ss.shortL ls:=by
  rw [Ss.shortL,List.not_any_eq_all_not]
  congr 1; funext l; by_cases h:l.length≤4096<;>simp [h]<;>omega
 rw [←e];refine QB (c:=jd Tryz.f99) Tryz.func99 Tryz.ntmps99 fun hwf=>?_
 repeat first|refine QG ?_|refine QY ?_
 refine QT ?_;refine QP ?_;refine jm rfl (AnyL_v ls (fun l=>decide (4096<l.length)) _ [] rfl hl (fun l _=>short1_v l)) ?_;refine QW ?_
 repeat first|refine QG ?_|refine QY ?_
 exact ja hwf rfl rfl
theorem shortL_1 (a:List Int):Ss.shortL [a]=decide (a.length≤4096):=by simp [Ss.shortL]
theorem Zt (a b:List Int):Ss.shortL [a,b]=(decide (a.length≤4096)&&decide (b.length≤4096)):=by simp [Ss.shortL]
theorem shortL_3 (a b c:List Int):Ss.shortL [a,b,c]=(decide (a.length≤4096)&&decide (b.length≤4096)&&decide (c.length≤4096)):=by simp [Ss.shortL,Bool.and_assoc]
theorem jbV (f:Ss.Fn) (hf:f.Fits):VPure Tryz.prog 64 [ql f] (.bool f.small):=by
 intro S;obtain ⟨⟨fi,fo⟩,ts,bs⟩:=f;obtain ⟨_,_,hbl0,hbf⟩:=hf;simp only at hbl0 hbf;have hbl:bs.length<2^63:=by omega
 refine QB (c:=jd Tryz.f64) Tryz.func64 Tryz.ntmps64 fun hwf=>?_
 repeat first|refine QG ?_|refine QY ?_
 refine QT ?_;refine QP ?_;refine zr (xs':=[vl (vl vint) [ts,fi,fo]]) rfl (GhostArgs.one [] [] (frz1 (k:=1) (len:=3) (by simp) rfl rfl rfl)) (jbY _ (by simp)) ?_;simp only [List.set_cons_succ,List.set_cons_zero]
 cases h1:Ss.shortL [ts,fi,fo] with
 | false =>
  refine QM (by conv=>lhs;simp[QV,h1]) ?_;refine QN ?_
  repeat first|refine QG ?_|refine QY ?_
  refine ja hwf ?_ rfl;rw [shortL_3] at h1;simp [Ss.Fn.small,Ss.Fn.heads] at h1 ⊢;omega
 | true =>
 by_cases h2:(4096:Int)<(bs.length:Int)
 ·refine QM (by conv=>lhs;simp[QV,h1,h2]) ?_;refine QN ?_
  repeat first|refine QG ?_|refine QY ?_
  exact ja hwf (by simp [Ss.Fn.small,Ss.Fn.heads]; omega) rfl
 have hh:Ss.Fn.small ⟨⟨fi,fo⟩,ts,bs⟩=Ss.smallFrom 0 bs:=by
  have:Ss.Fn.heads ⟨⟨fi,fo⟩,ts,bs⟩=true:=by rw [shortL_3] at h1; simp [Ss.Fn.heads] at h1 ⊢; omega
  simp [Ss.Fn.small,this]
 rw [hh];refine QM (by conv=>lhs;simp[QV,h1,h2]) ?_;refine QN ?_
 repeat first|refine QG ?_|refine QY ?_
 refine QO [3,28,29,30] ?_;refine QK [0] ?_;refine QT ?_;refine jc [3,28,29,30] rfl (fun c σ S' => ∃ (k n:Nat),k≤bs.length∧n≤4096∧c=bs.length-k∧Ss.smallFrom n (bs.drop k)=Ss.smallFrom 0 bs∧σ=[(3,vint (4096-(n:Int))),(28,vl jb bs),(29,vnat bs.length),(30,vnat k)]∧S'=St S [] [some (4,[vl vint fi,vl vint fo,vl vint ts,vl jb bs])]) bs.length ?_ ?_
 ·exact ⟨0,0,by omega,by omega,rfl,rfl,by simp [Fr.only],rfl⟩
 ·rintro c σ T ⟨k,n,hk,hn,rfl,hd,rfl,rfl⟩
  by_cases hkt:k<bs.length
  ·have hw:=ji hkt hbl;have hbk:=hbf _ (List.getElem_mem hkt);have hst:=Ss.drop_small (n:=n) hkt;obtain ⟨⟨ps,code,⟨tk,ta,to,az⟩⟩,hb⟩ : ∃ b,bs[k]=b:=⟨_,rfl⟩
   rw [hb] at hst hbk;obtain ⟨_,⟨hcl0,_⟩,_,_,⟨htl0,_⟩,_⟩:=hbk;simp only at hcl0 htl0;have hcl:code.length<2^63:=by omega
   have htl:to.length<2^63:=by omega
   have hwn:IntKind.i64.wrap (4096-(n:Int)-(code.length:Int))=4096-(n:Int)-(code.length:Int):=wrap_i64 (by omega) (by omega);have hS:Ss.Block.small ⟨ps,code,⟨tk,ta,to,az⟩⟩=(decide (ps.length≤4096)&&decide (to.length≤4096)&&decide (az.length≤4096)&&code.all Ss.Ins.small&&to.all Ss.Edge.small):=rfl
   by_cases g1:4096-(n:Int)-(code.length:Int)<0
   ·have e:Ss.smallFrom n (bs.drop k)=false:=by rw [hst]; simp; omega
    rw [←hd,e]
    repeat first|refine QG ?_|refine QY ?_ (r:=by conv=>lhs;simp[QV,hkt,hb,hwn,g1])
    exact ja hwf rfl rfl
   repeat first|refine QG ?_|refine QY ?_ (r:=by conv=>lhs;simp[QV,hkt,hb,hwn,g1])
   refine QT ?_;refine QP ?_ (r:=by conv=>lhs;simp[QV,hkt,hb,hwn,g1]);refine zr (xs':=[vl (vl vint) [ps,az]]) rfl (GhostArgs.one [] [] (frz1 (k:=2) (len:=2) (by simp) rfl rfl rfl)) (jbY _ (by simp)) ?_;simp only [List.set_cons_succ,List.set_cons_zero]
   cases g2:Ss.shortL [ps,az] with
   | false =>
    have e:Ss.smallFrom n (bs.drop k)=false:=by rw [Zt] at g2; rw [hst,hS]; simp at g2 ⊢; omega
    rw [←hd,e];refine QM (by conv=>lhs;simp[QV,g2]) ?_;refine QN ?_
    repeat first|refine QG ?_|refine QY ?_
    exact ja hwf rfl rfl
   | true =>
   by_cases g3:(4096:Int)<(to.length:Int)
   ·have e:Ss.smallFrom n (bs.drop k)=false:=by rw [hst,hS]; simp; omega
    rw [←hd,e];refine QM (by conv=>lhs;simp[QV,g2,g3]) ?_;refine QN ?_
    repeat first|refine QG ?_|refine QY ?_
    exact ja hwf rfl rfl
   rw [Zt] at g2;have g2':ps.length≤4096∧az.length≤4096:=by simpa using g2
   rw [show decide (n+code.length≤4096)=true by simp; omega,hS,show decide (ps.length≤4096)=true by simp; omega,show decide (to.length≤4096)=true by simp; omega,show decide (az.length≤4096)=true by simp; omega,Bool.true_and,Bool.true_and,Bool.true_and,Bool.true_and] at hst;rw [←Zt] at g2;refine QM (by conv=>lhs;simp[QV,g2,g3]) ?_;refine QN ?_
   repeat first|refine QG ?_|refine QY ?_
   refine QO [3,5,28,29,30,59,60,61] ?_;refine QK [0,1] ?_;refine QT ?_;refine jc [3,5,28,29,30,59,60,61] rfl (fun c σ S' => ∃ (j:Nat),j≤code.length∧c=code.length-j∧(code.drop j).all Ss.Ins.small=code.all Ss.Ins.small∧σ=[(3,vint (4096-(n:Int)-(code.length:Int))),(5, .ptr (lid S.nx 1) 0),(28,vl jb bs),(29,vnat bs.length),(30,vnat k),(59,vl jg code),(60,vnat code.length),(61,vnat j)]∧S'=St S [] [some (4,[vl vint fi,vl vint fo,vl vint ts,vl jb bs]),some (6,[vl vint ps,vl jg code, .int .i64 tk, .int .i64 ta,vl jf to,vl vint az])]) code.length ?_ ?_
   ·exact ⟨0,by omega,rfl,rfl,by simp [Fr.only],rfl⟩
   ·rintro c σ T ⟨j,hj,rfl,hdj,rfl,rfl⟩
    by_cases hjt:j<code.length
    ·have hwj:=ji hjt hcl;have hstj:=Ss.drop_all Ss.Ins.small hjt;obtain ⟨⟨io,iN,ia,iu⟩,hx⟩ : ∃ b,code[j]=b:=⟨_,rfl⟩
     rw [hx] at hstj;have hX:Ss.Ins.small ⟨io,iN,ia,iu⟩=Ss.shortL [ia,iu]:=(Zt _ _).symm;rw [hX] at hstj
     repeat first|refine QG ?_|refine QY ?_ (r:=by conv=>lhs;simp[QV,hjt,hx])
     refine QT ?_;refine QP ?_ (r:=by conv=>lhs;simp[QV,hjt,hx]);refine zr (xs':=[vl (vl vint) [ia,iu]]) rfl (GhostArgs.one [] [] (frz1 (k:=3) (len:=2) (by simp) rfl rfl rfl)) (jbY _ (by simp)) ?_;simp only [List.set_cons_succ,List.set_cons_zero]
     cases q1:Ss.shortL [ia,iu] with
     | false =>
      rw [q1,Bool.false_and] at hstj;have e:code.all Ss.Ins.small=false:=by rw [←hdj,hstj]
      rw [←hd,hst,e];refine QM (by conv=>lhs;simp[QV,q1]) ?_;refine QN ?_
      repeat first|refine QG ?_|refine QY ?_
      exact ja hwf rfl rfl
     | true =>
      rw [q1,Bool.true_and] at hstj;refine QM (by conv=>lhs;simp[QV,q1]) ?_;refine QN ?_
      repeat first|refine QG ?_|refine QY ?_
      refine QA [0,1] (h:=⟨?_,j+1,hjt,rfl,by rw [←hdj,hstj],by simp [hwj],rfl⟩);omega
    ·rw [Ss.drop_all_end _ hjt] at hdj;rw [←hdj,Bool.true_and] at hst
     repeat first|refine QG ?_|refine QY ?_ (r:=by conv=>lhs;simp[QV,hjt])
     refine QT ?_;refine jc [3,28,29,30,75,76,77] rfl (fun c σ S' => ∃ (j:Nat),j≤to.length∧c=to.length-j∧(to.drop j).all Ss.Edge.small=to.all Ss.Edge.small∧σ=[(3,vint (4096-(n:Int)-(code.length:Int))),(28,vl jb bs),(29,vnat bs.length),(30,vnat k),(75,vl jf to),(76,vnat to.length),(77,vnat j)]∧S'=St S [] [some (4,[vl vint fi,vl vint fo,vl vint ts,vl jb bs]),some (6,[vl vint ps,vl jg code, .int .i64 tk, .int .i64 ta,vl jf to,vl vint az])]) to.length ?_ ?_
     ·exact ⟨0,by omega,rfl,rfl,by simp [Fr.only],rfl⟩
     ·rintro c σ T ⟨j,hj,rfl,hdj,rfl,rfl⟩
      by_cases hjt:j<to.length
      ·have hwj:=ji hjt htl;have hstj:=Ss.drop_all Ss.Edge.small hjt;obtain ⟨⟨io,ia⟩,hx⟩ : ∃ b,to[j]=b:=⟨_,rfl⟩
       rw [hx] at hstj;have hX:Ss.Edge.small ⟨io,ia⟩=Ss.shortL [ia]:=(shortL_1 _).symm;rw [hX] at hstj
       repeat first|refine QG ?_|refine QY ?_ (r:=by conv=>lhs;simp[QV,hjt,hx])
       refine QT ?_;refine QP ?_ (r:=by conv=>lhs;simp[QV,hjt,hx]);refine zr (xs':=[vl (vl vint) [ia]]) rfl (GhostArgs.one [] [] (frz1 (k:=3) (len:=1) (by simp) rfl rfl rfl)) (jbY _ (by simp)) ?_;simp only [List.set_cons_succ,List.set_cons_zero]
       cases q1:Ss.shortL [ia] with
       | false =>
        rw [q1,Bool.false_and] at hstj;have e:to.all Ss.Edge.small=false:=by rw [←hdj,hstj]
        rw [←hd,hst,e];refine QM (by conv=>lhs;simp[QV,q1]) ?_;refine QN ?_
        repeat first|refine QG ?_|refine QY ?_
        exact ja hwf rfl rfl
       | true =>
        rw [q1,Bool.true_and] at hstj;refine QM (by conv=>lhs;simp[QV,q1]) ?_;refine QN ?_
        repeat first|refine QG ?_|refine QY ?_
        refine QA [0,1] (h:=⟨?_,j+1,hjt,rfl,by rw [←hdj,hstj],by simp [hwj],rfl⟩);omega
      ·rw [Ss.drop_all_end _ hjt] at hdj;rw [←hdj] at hst
       repeat first|refine QG ?_|refine QY ?_ (r:=by conv=>lhs;simp[QV,hjt,hw])
       refine QA [0] (h:=⟨?_,k+1,n+code.length,hkt,by omega,rfl,by rw [←hd,hst,Bool.true_and],by simp; omega,rfl⟩);omega
  ·rw [Ss.drop_small_end hkt] at hd;rw [←hd]
   repeat first|refine QG ?_|refine QY ?_ (r:=by conv=>lhs;simp[QV,hkt])
   exact ja hwf rfl rfl
end Go.Vw
