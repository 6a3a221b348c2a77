import Derived.Test.YtkfllaokjaldnaaGreatC1
import Derived.MapKept
import Derived.ChangeKeysEq
import Derived.WideKeyRuns
/- Part of the proof. -/
set_option linter.unusedVariables false
set_option linter.unusedSimpArgs false
/-
 Each operation over values without addresses is the model's: make, variables, literals, arithmetic.
-/
namespace Go.Vw
open Go.RowKit
section
variable {P:Program} {N:Nat} {S:Store} {m:Imm} {β:Objs} {w:World} {σ:Fr} {a:Act}
theorem jci (z:List V) (n:Nat) (hz:0<z.length) (q:Nat):(rep0 z n)[q]? = if q<n*z.length then z[q % z.length]? else none:=by
 have gen : ∀ (z:List V),0<z.length→((List.replicate n z).flatten)[q]? = if q<n*z.length then z[q % z.length]? else none:=by
  intro z hz;have h:=Jy (fun _:Unit=>z) z.length hz (List.replicate n ()) (fun _ _=>rfl) q;have e:(List.replicate n ()).flatMap (fun _=>z)=(List.replicate n z).flatten:=by
   rw [List.flatMap_def,List.map_replicate]
  rw [e] at h;rw [h,List.getElem?_replicate]
  by_cases hq:q / z.length<n
  ·rw [if_pos hq,if_pos ((Nat.div_lt_iff_lt_mul hz).1 hq)]; rfl
  ·rw [if_neg hq,if_neg (fun h=>hq ((Nat.div_lt_iff_lt_mul hz).2 h))]; rfl
 match z,hz with
 | [x],_ =>
  simp only [rep0,List.getElem?_replicate,List.length_singleton,Nat.mul_one,Nat.mod_one]
  rfl
 | x::y::zs,_=>exact gen (x::y::zs) (by simp)
theorem zB (z:List V) (n:Nat):(rep0 z n).length=n*z.length:=by
 match z with
 | []=>simp [rep0]
 | [x]=>simp [rep0]
 | x::y::zs=>simp [rep0]
theorem does_make {o:Oper} {t e:TypeId} {i:TypeInfo} {zs:List V} {l c:Operand} {lz cz:Arg} {x:V} {S':Store} (ho:o.op = .makeSlice t l c) (hs:Program.slc P t=some (e,i)) (hz:Program.zeroV P e=some zs)
  (hl:jt l=some lz) (hc:jt c=some cz) (hS:Holds S m β w) (hF:FrameRep N m β σ a) (he:WL i.size i.bytes zs S (ev σ lz) (ev σ cz)=some (x,S')):Does P ((execOp a.eval o).run P w) x S' m β w:=by
 obtain ⟨hut,hi⟩:=JT hs;obtain ⟨i',z,hi',hz',hzs,hzl,hzr⟩:=Jo (m:=m) hz;rw [hi] at hi'; cases hi';have r1:=jR hF hl;have r2:=jR hF hc;generalize ev σ lz=p at he r1;generalize ev σ cz=q at he r2
 cases p with
 | int k1 ln =>
  cases q with
  | int k2 cn =>
   cases k1<;>cases k2<;>simp only [WL] at he<;>try (cases he)
   split at he
   ·rename_i hcond;obtain ⟨c1,c2,c3,c4⟩:=hcond
    cases he
    have e1:=r1.inv_int;have e2:=r2.inv_int;have hr:=run_make (P:=P) w t e i z hut hi hz' .i64 .i64 ln cn c1 c2 (by rw [Int.mul_comm]; omega) (by omega);have hsz:=size_madeCells z.cells (cn.toNat*i.size);have hcell : ∀ q,q<cn.toNat*i.size→(madeCells z.cells (cn.toNat*i.size))[q]? = some (z.cells[q % z.cells.size]!):=by
     intro q hq;simp [madeCells,hq]
    obtain ⟨β',g1,g2,g3⟩:=YK (S':=S) (w0:=w) hS (fun _ _=>rfl) rfl (s:=i.size) (new:=rep0 zs cn.toNat) (T:=e) (madeCells z.cells (cn.toNat*i.size)) ln.toNat cn.toNat
     (by rw [zB,hsz,hzl]; exact Nat.le_refl _) (by omega) (by unfold maxLen; omega) (by rw [hsz]; exact Nat.le_refl _) (fun q x hx=>by
      by_cases h0:0<zs.length
      ·rw [jci _ _ h0] at hx;split at hx
       ·rename_i hq;rw [hzl] at hq;rw [hcell q hq];obtain ⟨u,hu,hr',ho',_⟩:=hzr _ x hx;rw [hzl, ←hzs] at hu;refine ⟨u, ?_, .imm hr',ho'⟩;rw [Array.getElem!_eq_getD,Array.getD_eq_getD_getElem?,hu]; rfl
       ·cases hx
      ·have e0:(rep0 zs cn.toNat)=[]:=List.eq_nil_of_length_eq_zero (by have h9:zs.length=0:=(by omega); rw [zB,h9,Nat.mul_zero]);rw [e0] at hx; cases hx)
    exact ⟨_,_,m,β', .inl (by simp [execOp,ho,e1,e2,hr]),g1,g2,g3⟩
   ·cases he
  | _=>cases k1<;>simp [WL] at he
 | _=>simp [WL] at he
theorem does_var {r:Result Next} {T:TypeId} {arr:Array Value} {cells:List V} (s:Nat) (hr:r = .ok (.value (.pointer (some ⟨w.heap.size,0,none⟩))) (w.alloc (.cells arr T))) (hS:Holds S m β w) (hle:cells.length≤arr.size)
  (hc : ∀ (i:Nat) x,cells[i]? = some x → ∃ v,arr[i]? = some v∧Rep m β x v∧v.oneCell'=true):Does P r (.ptr S.nx 0) (S.add (s,cells)) m β w:=by
 obtain ⟨h1,h2,h3⟩:=hS.alloc arr T s cells hle hc;refine ⟨_,_,m,_, .inl hr, ?_,h1,h2⟩;exact Rep.ptr (m:=m) S.nx 0 w.heap.size 0 s arr.size h3
theorem does_alloc {o:Oper} {t:TypeId} {zs:List V} (ho:o.op = .alloc t) (hz:Program.zeroV P t=some zs) (hS:Holds S m β w):Does P ((execOp a.eval o).run P w) (.ptr S.nx 0) (S.add (zs.length,zs)) m β w:=by
 obtain ⟨i,z,hi,hz',hzs,hzl,hzr⟩:=Jo (m:=m) hz;refine does_var zs.length (T:=t) (arr:=z.cells) ?_ hS (by rw [hzl,hzs]; exact Nat.le_refl _) fun j x hx => ?_
 ·simp [execOp,ho,Instr.alloc,zeroValue,typeInfo,hi,hz',newVar,newRow]
 ·obtain ⟨u,h1,h2,h3,_⟩:=hzr j x hx;exact ⟨u,h1, .imm h2,h3⟩
theorem does_box {o:Oper} {t:TypeId} {y:Operand} {yz:Arg} (ho:o.op = .box t y) (hy:jt y=some yz) (h1:(ev σ yz).cells.all V.one=true) (hS:Holds S m β w) (hF:FrameRep N m β σ a) :
  Does P ((execOp a.eval o).run P w) (.ptr S.nx 0) (S.add ((ev σ yz).ncells,(ev σ yz).cells)) m β w:=by
 obtain ⟨hl,hc⟩:=(jR hF hy).cellwise h1;refine does_var _ (T:=t) (arr:=(a.eval y).cells) ?_ hS (by omega) hc;simp [execOp,ho,Instr.box,newVar,newRow]
theorem jbf (cs:Array Value) (off:Nat) : ∀ (l:List Value) (k:Nat) (acc:Array Value),off+k+l.length≤acc.size →
  ((l.zipIdx k).foldl (fun cs (p:Value × Nat)=>cs.setIfInBounds (off+p.2) p.1) acc).toList=acc.toList.take (off+k)++l++acc.toList.drop (off+k+l.length)
 | [],k,acc,h=>by simp
 | v::r,k,acc,h=>by
  simp only [List.zipIdx_cons,List.foldl_cons];rw [jbf cs off r (k+1) _ (by simp at h ⊢; omega)];have:=list_seg_step acc.toList (off+k) v r (by simp at h ⊢; omega);simpa [Nat.add_assoc] using this
theorem jaH (place:Nat→Option (Nat × Nat)) (cnv:Nat × Operand→Option (Nat × Nat × Arg)) (hcnv : ∀ p f,cnv p=some f→place p.1=some (f.1,f.2.1)∧jt p.2=some f.2.2) (hF:FrameRep N m β σ a) :
  ∀ (parts:List (Nat × Operand)) (fs:List (Nat × Nat × Arg)) (cells:List V) (vs:Array Value) (out:List V),parts.mapM cnv=some fs→RepL m β cells vs.toList→(∀ v∈vs.toList,v.oneCell'=true)→qw (ev σ) cells fs=some out →
   ∃ us:Array Value,Instr.fill place vs (parts.map fun p=>(p.1,a.eval p.2))=some us∧RepL m β out us.toList∧(∀ v∈us.toList,v.oneCell'=true)∧out.length=cells.length
 | [],fs,cells,vs,out,hp,hr,h1,ho=>by
  simp at hp; subst hp;simp only [qw] at ho; cases ho;exact ⟨vs,rfl,hr,h1,rfl⟩
 | p::rest,fs,cells,vs,out,hp,hr,h1,ho=>by
  simp only [List.mapM_cons,Option.bind_eq_bind,Option.bind_eq_some_iff] at hp;obtain ⟨f,hf,fs',hfs',hp⟩:=hp;simp at hp; subst hp;obtain ⟨off,sz,x⟩:=f;obtain ⟨hpl,harg⟩:=hcnv p _ hf;simp only at hpl harg;simp only [qw] at ho;split at ho
  ·rename_i hc;obtain ⟨c1,c2,c3⟩:=hc;have hrx:=jR hF harg;obtain ⟨hl,hcw⟩:=hrx.cellwise c3;have hxl:(ev σ x).cells.length=sz:=by rw [←c1]; cases ev σ x<;>rfl
   have hvl:(a.eval p.2).cells.size=sz:=by omega
   have hcl:cells.length=vs.size:=by simpa using hr.1
   have hset:=jbf vs off (a.eval p.2).cells.toList 0 vs (by simp; omega);generalize hvs':((a.eval p.2).cells.toList.zipIdx 0).foldl (fun cs (p:Value × Nat)=>cs.setIfInBounds (off+p.2) p.1) vs=vs' at hset;have hlx:off+(ev σ x).cells.length≤cells.length:=by omega
   have hrs:RepL m β (qr cells off (ev σ x).cells) vs'.toList:=by
    rw [hset];refine ⟨by rw [Ji _ _ _ hlx]; simp; omega,fun i y v hy hv => ?_⟩;rw [Yl _ _ _ hlx] at hy;simp only [Nat.add_zero] at hv;rw [Wd _ _ _ (by simp; omega)] at hv;have e1:(a.eval p.2).cells.toList.length=(ev σ x).cells.length:=by simp; omega
    rw [e1] at hv;split at hy
    ·rename_i hi; rw [if_pos hi] at hv; exact hr.2 i y v hy hv
    ·rename_i hi;rw [if_neg hi] at hv;split at hy
     ·rename_i hi2;rw [if_pos hi2] at hv;obtain ⟨u,hu1,hu2,_⟩:=hcw _ y hy;rw [←Array.getElem?_toList] at hu1;rw [hu1] at hv; cases hv;exact hu2
     ·rename_i hi2; rw [if_neg hi2] at hv; exact hr.2 i y v hy hv
   have h1s : ∀ v∈vs'.toList,v.oneCell'=true:=by
    intro v hv;rw [hset] at hv;rcases List.mem_append.1 hv with hv | hv
    ·rcases List.mem_append.1 hv with hv | hv
     ·exact h1 v (List.mem_of_mem_take hv)
     ·obtain ⟨j,hj,rfl⟩:=List.getElem_of_mem hv;have hj':j<(ev σ x).cells.length:=by simp at hj; omega
      obtain ⟨u,hu1,_,hu3⟩:=hcw j _ (List.getElem?_eq_getElem hj');rw [←Array.getElem?_toList,List.getElem?_eq_getElem hj] at hu1
      cases hu1; exact hu3
    ·exact h1 v (List.mem_of_mem_drop hv)
   obtain ⟨us,g1,g2,g3,g4⟩:=jaH place cnv hcnv hF rest fs' _ vs' out hfs' hrs h1s ho;refine ⟨us, ?_,g2,g3,by rw [g4,Ji _ _ _ hlx]⟩;simp only [List.map_cons,Instr.fill,hpl];rw [if_neg (by simp [hvl]; omega)];rw [←g1]
   congr 1
   rw [←hvs', ←Array.foldl_toList];simp [Array.toList_zipIdx]
  ·cases ho
end
end Go.Vw
/-
 Each operation over values without addresses is the model's: all of them.
-/
namespace Go.Vw
open Go.RowKit
section
variable {P:Program} {N:Nat} {S:Store} {m:Imm} {β:Objs} {w:World} {σ:Fr} {a:Act}
theorem flds_spec {t:TypeId} {fs:List (Nat × Nat)} (h:Program.flds P t=some fs) : ∃ fds,P.underlying t=some (.struct fds) ∧
  (fds.mapM fun f=>do pure (f.offset, ←sizeOf f.type):Sem (Array (Nat × Nat))).run P w = .ok fs.toArray w:=by
 unfold Program.flds at h;split at h
 ·rename_i fds hu;refine ⟨fds,hu, ?_⟩;rw [Array.mapM_eq_mapM_toList];have gstep : ∀ (f:Field) j,P.info? f.type=some j→(do pure (f.offset, ←sizeOf f.type):Sem (Nat × Nat)).run P w = .ok (f.offset,j.size) w:=by
   intro f j hj; simp [sizeOf,typeInfo,hj]
  have gen : ∀ (l:List Field) (r:List (Nat × Nat)),(l.mapM fun f=>match P.info? f.type with | some j=>some (f.offset,j.size) | none=>none)=some r →
    (l.mapM fun f=>do pure (f.offset, ←sizeOf f.type):Sem (List (Nat × Nat))).run P w = .ok r w:=by
   intro l
   induction l with
   | nil=>intro r h; simp at h; subst h; rfl
   | cons f l ih =>
    intro r h;simp only [List.mapM_cons,Option.bind_eq_bind,Option.bind_eq_some_iff] at h;obtain ⟨b,hb,r',hr',h⟩:=h;simp at h; subst h;split at hb
    ·rename_i j hj
     cases hb
     rw [List.mapM_cons,Sem.run_bind,gstep f j hj,Result.andThen_ok,Sem.run_bind,ih r' hr']
     rfl
    ·cases hb
  rw [Sem.run_map,gen fds.toList fs h]
  rfl
 ·cases h
theorem zero_list {t:TypeId} {zs:List V} (hz:Program.zeroV P t=some zs) : ∃ z,(zeroValue t).run P w = .ok z w∧RepL m β zs z.cells.toList∧(∀ v∈z.cells.toList,v.oneCell'=true)∧zs.length=z.cells.size:=by
 obtain ⟨i,z,hi,hz',hzs,hzl,hzr⟩:=Jo (m:=m) hz;refine ⟨z,by simp [zeroValue,typeInfo,hi,hz'],⟨by simp; omega,fun j x v hx hv => ?_⟩,fun v hv => ?_,by omega⟩
 ·obtain ⟨u,h1,h2,_⟩:=hzr j x hx;rw [←Array.getElem?_toList,hv] at h1
  cases h1; exact .imm h2
 ·obtain ⟨j,hj,rfl⟩:=List.getElem_of_mem hv;have hj':j<zs.length:=by simp at hj; omega
  obtain ⟨u,h1,_,h3,_⟩:=hzr j _ (List.getElem?_eq_getElem hj');rw [←Array.getElem?_toList,List.getElem?_eq_getElem hj] at h1
  cases h1; exact h3
theorem does_build {o:Oper} {t:TypeId} {parts:Array (Nat × Operand)} {fs:List (Nat × Nat)} {zs:List V} {ps:List (Nat × Nat × Arg)} {cs:List V} (ho:o.op = .build t parts) (hf:Program.flds P t=some fs) (hz:Program.zeroV P t=some zs)
  (hp:(parts.toList.mapM fun (p:Nat × Operand)=>match fs[p.1]?,jt p.2 with | some f,some x=>some ((f.1,f.2,x):Nat × Nat × Arg) | _,_=>none)=some ps) (hS:Holds S m β w) (hF:FrameRep N m β σ a)
  (he:qw (ev σ) zs ps=some cs):Does P ((execOp a.eval o).run P w) (.agg cs) S m β w:=by
 obtain ⟨fds,hu,hpl⟩:=flds_spec (w:=w) hf;obtain ⟨z,hz1,hz2,hz3,hz4⟩:=zero_list (w:=w) (m:=m) (β:=β) hz;obtain ⟨us,g1,g2,g3,_⟩:=jaH (fs.toArray[·]?) _ (fun p f hpf=>by
  split at hpf
  ·rename_i f' x' h1 h2; cases hpf; exact ⟨by simpa using h1,h2⟩
  ·cases hpf) hF parts.toList ps zs z.cells cs hp hz2 hz3 he
 refine Does.same hS (v := .agg us) ?_ ?_
 ·have e:(parts.map fun (x:Nat × Operand)=>(x.1,a.eval x.2)).toList=parts.toList.map fun p=>(p.1,a.eval p.2):=by simp
  simp only [execOp,ho,Instr.build,Sem.run_bind,hz1,run_underlying hu,Result.andThen_ok,hpl,e,g1,Sem.run_pure]
 ·have:=Rep.agg (m:=m) (β:=β) cs us.toList g2.1 g2.2 g3;simpa using this
theorem jaM {o:Oper} {t e:TypeId} {i:TypeInfo} {len:Nat} {parts:Array (Nat × Operand)} {zs:List V} {ps:List (Nat × Nat × Arg)} {cs:List V} (ho:o.op = .buildSlice t len parts) (hs:Program.slc P t=some (e,i)) (hz:Program.zeroV P e=some zs)
  (hle:len*i.size≤65536∧0<i.size)
  (hp:(parts.toList.mapM fun (p:Nat × Operand)=>match jt p.2 with | some x=>some ((p.1*i.size,i.size,x):Nat × Nat × Arg) | none=>none)=some ps) (hS:Holds S m β w) (hF:FrameRep N m β σ a)
  (he:qw (ev σ) (rep0 zs len) ps=some cs):Does P ((execOp a.eval o).run P w) (.slice S.nx 0 len) (S.add (i.size,cs)) m β w:=by
 obtain ⟨hut,hi⟩:=JT hs;obtain ⟨z,hz1,hz2,hz3,hz4⟩:=zero_list (w:=w) (m:=m) (β:=β) hz;obtain ⟨i',z',hi',hz',hzs',hzl,hzr⟩:=Jo (m:=m) hz;rw [hi] at hi'; cases hi';have hz'':z'=z:=by
  have:(zeroValue e).run P w = .ok z' w:=by simp [zeroValue,typeInfo,hi,hz']
  rw [this] at hz1; cases hz1; rfl
 subst hz'';have hcell : ∀ q,q<len*i.size→(madeCells z'.cells (len*i.size))[q]? = some (z'.cells[q % z'.cells.size]!):=by
  intro q hq;simp [madeCells,hq]
 have hsz:=size_madeCells z'.cells (len*i.size);have h0:0<zs.length:=by omega
 have hrl:RepL m β (rep0 zs len) (madeCells z'.cells (len*i.size)).toList:=by
  refine ⟨by rw [zB,hzl]; simp [hsz],fun q x v hx hv => ?_⟩;rw [jci _ _ h0,hzl] at hx;split at hx
  ·rename_i hq;rw [Array.getElem?_toList,hcell q hq] at hv
   cases hv
   obtain ⟨u,hu,hr',_⟩:=hzr _ x hx;rw [←hzs'] at hu;rw [Array.getElem!_eq_getD,Array.getD_eq_getD_getElem?,hu];exact .imm hr'
  ·cases hx
 have hone : ∀ v∈(madeCells z'.cells (len*i.size)).toList,v.oneCell'=true:=by
  intro v hv;obtain ⟨q,hq,rfl⟩:=List.getElem_of_mem hv;have hq':q<len*i.size:=by simpa [hsz] using hq
  have h1:=hcell q hq';rw [←Array.getElem?_toList,List.getElem?_eq_getElem hq] at h1;have hlt:q % i.size<zs.length:=by rw [hzl]; exact Nat.mod_lt _ hle.2
  obtain ⟨u,hu,_,h3,_⟩:=hzr _ _ (List.getElem?_eq_getElem hlt);rw [Option.some.inj h1,Array.getElem!_eq_getD,Array.getD_eq_getD_getElem?,hzs',hu];exact h3
 obtain ⟨us,g1,g2,g3,g4⟩:=jaH (fun j=>some (j*i.size,i.size)) _ (fun p f hpf=>by
  split at hpf
  ·rename_i x' h2; cases hpf; exact ⟨rfl,h2⟩
  ·cases hpf) hF parts.toList ps (rep0 zs len) (madeCells z'.cells (len*i.size)) cs hp hrl hone he
 have hul:us.size=len*i.size:=by
  have:=g2.1; rw [g4,zB,hzl] at this; simpa using this.symm
 obtain ⟨β',k1,k2,k3⟩:=YK (S':=S) (w0:=w) hS (fun _ _=>rfl) rfl (s:=i.size) (new:=cs) (T:=e) us len len (by rw [g4,zB,hzl,hul]; exact Nat.le_refl _) (Nat.le_refl _)
  (by have:len*1≤len*i.size:=Nat.mul_le_mul_left _ hle.2; unfold maxLen; omega) (by rw [hul]; exact Nat.le_refl _) (fun j x hx=>by
   have hj:j<us.toList.length:=by rw [←g2.1]; exact (List.getElem?_eq_some_iff.1 hx).1
   exact ⟨us.toList[j],by rw [←Array.getElem?_toList]; exact List.getElem?_eq_getElem hj,g2.2 j x _ hx (List.getElem?_eq_getElem hj),g3 _ (List.getElem_mem hj)⟩)
 refine ⟨_,_,m,β', .inl ?_,k1,k2,k3⟩;have hlim : ¬ (2^24<len*i.size):=by omega
 by_cases hn:len*i.size=0
 ·have hmc:madeCells z'.cells 0 = #[]:=by simp [madeCells]
  have hr0 : ∀ f:Nat→Value,(Array.range 0).map f = #[]:=fun f=>by simp
  rw [hn,hmc] at g1;simp [execOp,ho,Instr.buildSlice,run_underlying hut,sizeOf,typeInfo,hi,hn,hr0,g1,newRow]
 ·simp only [madeCells] at g1;simp [execOp,ho,Instr.buildSlice,run_underlying hut,sizeOf,typeInfo,hi,hlim,hn,hz1,g1,newRow]
theorem does_bin {o:Oper} {op:BinOp} {t t':TypeId} {y u:Operand} {yz uz:Arg} {x:V} (ho:o.op = .binOp op t y u t') (hy:jt y=some yz) (hu:jt u=some uz) (hS:Holds S m β w) (hF:FrameRep N m β σ a)
  (he:opBin op (ev σ yz) (ev σ uz)=some x):Does P ((execOp a.eval o).run P w) x S m β w:=by
 have r1:=jR hF hy;have r2:=jR hF hu;generalize ev σ yz=p at he r1;generalize ev σ uz=q at he r2;have run : ∀ (k1 k2:IntKind) (x1 x2:Int) (v:Value),a.eval y = .int k1 x1→a.eval u = .int k2 x2→(binOp op t (.int k1 x1) (.int k2 x2)).run P w = .ok v w→(execOp a.eval o).run P w = .ok (.value v) w:=by
  intro k1 k2 x1 x2 v h1 h2 h3;have hg:(eqGuard op t y u (.int k1 x1) (.int k2 x2)).run P w = .ok () w:=by
   unfold eqGuard
   cases op<;>rfl
  simp [execOp,ho,h1,h2,hg,h3]
 cases p with
 | int k1 x1 =>
  cases q with
  | int k2 x2 =>
   have e1:=r1.inv_int;have e2:=r2.inv_int
   cases op<;>simp only [opBin] at he<;>first | (cases he; done) | (split at he<;>first | (cases he; done) | skip)
   all_goals
    rename_i hc
    first
    | (subst hc; cases he; refine Does.same hS (run _ _ _ _ _ e1 e2 ?_) (.imm (by first | exact .int _ _ | exact .bool _)); simp [binOp,Op.intArith,Op.intCmp,Op.intBits]; done)
    | (obtain ⟨hc,hc2⟩:=hc; subst hc; cases he; refine Does.same hS (run _ _ _ _ _ e1 e2 ?_) (.imm (by first | exact .int _ _ | exact .bool _)); simp [binOp,Op.intDiv,hc2]; done)
    | (cases he; refine Does.same hS (run _ _ _ _ _ e1 e2 ?_) (.imm (by first | exact .int _ _ | exact .bool _)); simp [binOp,Op.shift,Int.not_lt.2 hc]; done)
  | _=>cases op<;>simp [opBin] at he
 | _=>cases op<;>simp [opBin] at he
theorem does_beq {o:Oper} {op:BinOp} {neg:Bool} {t t':TypeId} {y u:Operand} {yz uz:Arg} {x:V} (ho:o.op = .binOp op t y u t') (hop:op=if neg then .neq else .eql) (ht:P.underlying t=some .bool) (hy:jt y=some yz) (hu:jt u=some uz) (hS:Holds S m β w) (hF:FrameRep N m β σ a)
  (he:opBeq neg (ev σ yz) (ev σ uz)=some x):Does P ((execOp a.eval o).run P w) x S m β w:=by
 have r1:=jR hF hy;have r2:=jR hF hu;generalize ev σ yz=p at he r1;generalize ev σ uz=q at he r2
 cases p with
 | bool b1 =>
  cases q with
  | bool b2 =>
   have e1:=r1.inv_bool;have e2:=r2.inv_bool;have hg:(eqGuard op t y u (.bool b1) (.bool b2)).run P w = .ok () w:=by
    unfold eqGuard
    cases op<;>rfl
   have heq:(Op.equal t (.bool b1) (.bool b2)).run P w = .ok (b1==b2) w:=by
    have hd:Op.maxDepth=9999+1:=rfl;unfold Op.equal;rw [hd];unfold Op.equalIn;simp [run_underlying ht]
   cases he
   cases neg with
   | false =>
    simp only [Bool.false_eq_true,if_false] at hop ⊢;subst hop;refine Does.same hS (v := .bool (b1==b2)) ?_ (.imm (.bool _));simp [execOp,ho,e1,e2,hg,binOp,heq]
   | true =>
    simp only [if_true] at hop ⊢;subst hop;refine Does.same hS (v := .bool (b1 != b2)) ?_ (.imm (.bool _));simp [execOp,ho,e1,e2,hg,binOp,heq,bne]
  | _=>simp [opBeq] at he
 | _=>simp [opBeq] at he
end
end Go.Vw
/-
 Maps whose keys are whole numbers, over values without addresses.
-/
namespace Go.Vw
open Go.RowKit
section
variable {P:Program} {N:Nat} {S:Store} {m:Imm} {β:Objs} {w:World} {σ:Fr} {a:Act}
theorem YB {d:IntKind} {kk:IntKind} {n:Int} : ∀ (cells:List V) (es:List MapEntry) (i:Nat) (r:Option (Nat × V)),cells.length=es.length →
  (∀ (i:Nat) (x:V) (e:MapEntry),cells[i]? = some x→es[i]? = some e→EntryRep m β x e)→zA (.int kk n) cells i=some r →
  (r=none∧Instr.findNow (.int d) (.int kk n) es i=some none) ∨
   ∃ j x e,r=some (i+j,x)∧es[j]? = some e∧e.key = .int kk n∧Rep m β x e.val∧Instr.findNow (.int d) (.int kk n) es i=some (some (i+j,e.val))
 | [],es,i,r,hl,hr,h=>by
  cases es with
  | nil=>simp only [zA,Option.some.injEq] at h; exact .inl ⟨h.symm,rfl⟩
  | cons _ _=>simp at hl
 | c::cells,es,i,r,hl,hr,h=>by
  cases es with
  | nil=>simp at hl
  | cons e es =>
   obtain ⟨k,v,rfl,hk,hv⟩:=hr 0 c e rfl rfl;have ih:=YB (d:=d) (kk:=kk) (n:=n) cells es (i+1) r (by simpa using hl) (fun i x e h1 h2=>hr (i+1) x e (by simpa using h1) (by simpa using h2));simp only [zA] at h
   cases k with
   | int k' b =>
    have ek:e.key = .int k' b:=by generalize e.key=q at hk; cases hk; rfl
    simp only [zK] at h
    by_cases e1:kk=k'
    ·subst e1;rw [if_pos rfl] at h
     by_cases e2:n=b
     ·subst e2;simp only [beq_self_eq_true,Option.some.injEq] at h;exact .inr ⟨0,v,e,by rw [←h]; rfl,rfl,ek,hv,by simp [Instr.findNow,ek,Instr.sameNow]⟩
     ·have e3:(n==b)=false:=by simp [e2]
      simp only [e3] at h;rcases ih h with ⟨h1,h2⟩ | ⟨j,x,e',h1,h2,h3,h4,h5⟩
      ·exact .inl ⟨h1,by simp [Instr.findNow,ek,Instr.sameNow,e3,h2]⟩
      ·exact .inr ⟨j+1,x,e',by rw [h1]; simp; omega,by simpa using h2,h3,h4,by simp [Instr.findNow,ek,Instr.sameNow,e3,h5]; omega⟩
    ·rw [if_neg e1] at h
     cases h
   | _=>simp [zK] at h
theorem Rep.inv_map {o:Nat} {v:Value} (h:Rep m β (.map o) v) (hd:β o ≠ .dead) : ∃ b,β o = .mp b∧v = .map (some b):=by
 cases h with
 | imm h=>cases h
 | mapDead _ _ h=>exact absurd h hd
 | map _ b h=>exact ⟨b,h,rfl⟩
theorem check_int {kt:TypeId} {d:IntKind} (hd:P.underlying kt=some (.int d)) (kk:IntKind) (n:Int) (e:Bool) (q:Nat):(Instr.checkKey e (q+1) kt (.int kk n)).run P w = .ok () w:=by
 unfold Instr.checkKey;simp only [Sem.run_bind,run_underlying hd,Result.andThen]
 rfl
theorem Holds.addMap (h:Holds S m β w):Holds (S.add (0,[])) m (β.set S.nx (.mp w.heap.size)) (w.alloc (.map #[] 0)) ∧
  Ext m β w m (β.set S.nx (.mp w.heap.size)) (w.alloc (.map #[] 0))∧(β.set S.nx (.mp w.heap.size)) S.nx = .mp w.heap.size:=by
 have hst:Step β (β.set S.nx (.mp w.heap.size)):=Step.fresh h.nx_fresh _;have hold : ∀ k,k<w.heap.size→(w.alloc (.map #[] 0)).heap[k]? = w.heap[k]? := fun k hk=>_root_.Go.heap_alloc_old w _ hk
 refine ⟨h.new (by intro h; cases h) (fun b o hb=>hold b (h.imm_lt hb)) (fun o b hb=>hold b (h.block_lt hb)) ?_ ?_,⟨fun _ _ h=>h,hst,by simp, ?_,rfl,rfl,rfl⟩,Objs.set_same _ _ _⟩
 ·intro b hb
  cases hb
  refine ⟨?_,fun o ho => ?_⟩
  ·cases hm:m w.heap.size with
   | none=>rfl
   | some o=>exact absurd (h.imm_lt hm) (Nat.lt_irrefl _)
  ·exact absurd (h.block_lt ho) (Nat.lt_irrefl _)
 ·exact ⟨#[],0,heap_alloc_new w _,rfl,by simp⟩
 ·intro b hb hm hn;refine ⟨hold b hb,hm,fun o ho => ?_⟩
  by_cases e:o=S.nx
  ·subst e; rw [Objs.set_same] at ho; simp only [Loc.block?,Option.some.injEq] at ho; omega
  ·rw [Objs.set_other _ _ e] at ho; exact hn o ho
theorem does_makeMap {o:Oper} {t:TypeId} (ho:o.op = .makeMap t none) (hS:Holds S m β w):Does P ((execOp a.eval o).run P w) (.map S.nx) (S.add (0,[])) m β w:=by
 obtain ⟨h1,h2,h3⟩:=hS.addMap;refine ⟨.map (some w.heap.size),_,m,_, .inl ?_,Rep.map (m:=m) S.nx w.heap.size h3,h1,h2⟩;simp [execOp,ho,Instr.makeMap]
theorem jbg {t:TypeId} {z:V} (h:Program.zero1 P t=some z) : ∃ zv,(zeroValue t).run P w = .ok zv w∧RepI m z zv:=by
 unfold Program.zero1 at h;split at h
 ·rename_i i hi;split at h
  ·rename_i zv hz;exact ⟨zv,by simp [zeroValue,typeInfo,hi,hz],jbH h⟩
  ·cases h
 ·cases h
theorem does_lookup {o:Oper} {t kt e:TypeId} {d:IntKind} {z:V} {ok:Bool} {y i:Operand} {yz iz:Arg} {x:V} (ho:o.op = .lookup t y i ok) (ht:P.underlying t=some (.map kt e)) (hd:P.underlying kt=some (.int d))
  (hz:Program.zero1 P e=some z) (hy:jt y=some yz) (hi:jt i=some iz) (hS:Holds S m β w) (hF:FrameRep N m β σ a) (he:zi z ok S (ev σ yz) (ev σ iz)=some x) :
  Does P ((execOp a.eval o).run P w) x S m β w:=by
 have hry:=jR hF hy;have hri:=jR hF hi;generalize ev σ yz=p at he hry;generalize ev σ iz=q at he hri
 cases p with
 | map ob =>
  cases q with
  | int kk n =>
   have ei:=hri.inv_int;simp only [zi] at he
   cases hc:S.get ob with
   | none=>simp [hc] at he
   | some c =>
    simp only [hc] at he;obtain ⟨b,hob,ey⟩:=hry.inv_map (hS.alive hc);have hl:=hS.live ob c hc;rw [hob] at hl;obtain ⟨es,clock,h1,h2,h3⟩:=hl;obtain ⟨zv,hzr,hzv⟩:=jbg (P:=P) (m:=m) (w:=w) hz;have hg:=MapKept.run_getObj_map (P:=P) h1;have hck:=check_int (w:=w) hd kk n es.isEmpty 9999
    cases hlk:zA (.int kk n) c.2 0 with
    | none=>simp [hlk] at he
    | some r =>
     have hf:=YB (d:=d) c.2 es.toList 0 r (by simpa using h2) (fun i x e q1 q2=>h3 i x e q1 (by simpa using q2)) hlk;rw [hlk] at he;rcases hf with ⟨rfl,hfn⟩ | ⟨j,v,e',rfl,g1,g2,g3,hfn⟩
     ·have hfk:=MapKept.run_findKey (P:=P) (w:=w) hd hfn;simp only [Option.some.injEq] at he;subst he
      cases ok with
      | false=>exact Does.same (v:=zv) hS (by simp [execOp,ho,ey,ei,Instr.lookup,run_underlying ht,Result.andThen,hg,hck,hfk,hzr]) (.imm hzv)
      | true =>
       refine Does.same (v := .tuple #[zv, .bool false]) hS (by simp [execOp,ho,ey,ei,Instr.lookup,run_underlying ht,Result.andThen,hg,hck,hfk,hzr]) ?_;exact Rep.tuple [z, .bool false] [zv, .bool false] rfl fun i x v h1 h2=>by
        match i,h1,h2 with
        | 0,h1,h2=>cases h1; cases h2; exact .imm hzv
        | 1,h1,h2=>cases h1; cases h2; exact .imm (.bool _)
     ·have hfk:=MapKept.run_findKey (P:=P) (w:=w) hd hfn;simp only [Option.some.injEq] at he;subst he
      cases ok with
      | false=>exact Does.same (v:=e'.val) hS (by simp [execOp,ho,ey,ei,Instr.lookup,run_underlying ht,Result.andThen,hg,hck,hfk]) g3
      | true =>
       refine Does.same (v := .tuple #[e'.val, .bool true]) hS (by simp [execOp,ho,ey,ei,Instr.lookup,run_underlying ht,Result.andThen,hg,hck,hfk]) ?_;exact Rep.tuple [v, .bool true] [e'.val, .bool true] rfl fun i x v h1 h2=>by
        match i,h1,h2 with
        | 0,h1,h2=>cases h1; cases h2; exact g3
        | 1,h1,h2=>cases h1; cases h2; exact .imm (.bool _)
  | _=>simp [zi] at he
 | _=>simp [zi] at he
theorem Holds.setMap (h:Holds S m β w) {o b:Nat} {c:Nat × List V} (ho:S.get o=some c) (hob:β o = .mp b) {es0:Array MapEntry} {clock0:Nat} (h0:w.heap[b]? = some (.map es0 clock0)) (es:Array MapEntry) (clock:Nat) (cells':List V) (hl:cells'.length=es.size)
  (hr : ∀ (i:Nat) (x:V) (e:MapEntry),cells'[i]? = some x→es[i]? = some e→EntryRep m β x e) :
  Holds (S.upd o (c.1,cells')) m β { w with heap:=w.heap.setIfInBounds b (.map es clock) }∧Ext m β w m β { w with heap:=w.heap.setIfInBounds b (.map es clock) }:=by
 have hbl:(β o).block? = some b:=by rw [hob]; rfl
 obtain ⟨k1,k2⟩:=MapKept.heap_set (o' := .map es clock) h0;refine ⟨h.write ho hbl (fun k hk=>k2 k hk) ?_,⟨fun _ _ h=>h,Step.refl β,by simp,fun k hk hm hnn=>⟨k2 k (fun e=>hnn o (by rw [hbl,e])),hm,hnn⟩,rfl,rfl,rfl⟩⟩;rw [hob];exact ⟨es,clock,k1,hl,hr⟩
theorem Wa {o:Oper} {t kt e:TypeId} {d:IntKind} {y i u:Operand} {yz iz uz:Arg} {S':Store} (ho:o.op = .mapUpdate t y i u) (ht:P.underlying t=some (.map kt e)) (hd:P.underlying kt=some (.int d))
  (hy:jt y=some yz) (hi:jt i=some iz) (hu:jt u=some uz) (hS:Holds S m β w) (hF:FrameRep N m β σ a) (he:qE S (ev σ yz) (ev σ iz) (ev σ uz)=some S') :
  Does P ((execOp a.eval o).run P w) (.tuple []) S' m β w:=by
 have hry:=jR hF hy;have hri:=jR hF hi;have hru:=jR hF hu;generalize ev σ yz=p at he hry;generalize ev σ iz=q at he hri;generalize ev σ uz=v at he hru
 cases p with
 | map ob =>
  cases q with
  | int kk n =>
   have ei:=hri.inv_int;simp only [qE] at he
   cases hc:S.get ob with
   | none=>simp [hc] at he
   | some c =>
    simp only [hc] at he;obtain ⟨b,hob,ey⟩:=hry.inv_map (hS.alive hc);have hl:=hS.live ob c hc;rw [hob] at hl;obtain ⟨es,clock,h1,h2,h3⟩:=hl;have hg:=MapKept.run_getObj_map (P:=P) h1;have hck:=check_int (w:=w) hd kk n false 9999;have hent : ∀ x,x=a.eval u→EntryRep m β (.tuple [.int kk n,v]) { key := .int kk n,val:=x,born:=clock }:=fun x hx=>⟨_,_,rfl, .int _ _,by rw [hx]; exact hru⟩
    cases hlk:zA (.int kk n) c.2 0 with
    | none=>simp [hlk] at he
    | some r =>
     have hf:=YB (d:=d) c.2 es.toList 0 r (by simpa using h2) (fun i x e q1 q2=>h3 i x e q1 (by simpa using q2)) hlk;rw [hlk] at he;rcases hf with ⟨rfl,hfn⟩ | ⟨j,v',e',rfl,g1,g2,g3,hfn⟩
     ·have hfk:=MapKept.run_findKey (P:=P) (w:=w) hd hfn;simp only [Option.some.injEq] at he;subst he;obtain ⟨k1,k2⟩:=hS.setMap hc hob h1 (es.push { key := .int kk n,val:=a.eval u,born:=clock }) (clock+1) (c.2++[.tuple [.int kk n,v]]) (by simp [h2]) (fun i x e q1 q2=>by
       by_cases hie:i<c.2.length
       ·rw [List.getElem?_append_left hie] at q1;rw [Array.getElem?_push,if_neg (by omega)] at q2;exact h3 i x e q1 q2
       ·rw [List.getElem?_append_right (by omega)] at q1;have hi0:i-c.2.length=0:=by
         rcases Nat.eq_zero_or_pos (i-c.2.length) with h | h
         ·exact h
         ·rw [List.getElem?_eq_none (by simp; omega)] at q1; cases q1
        rw [hi0] at q1
        cases q1
        rw [Array.getElem?_push,if_pos (by omega)] at q2
        cases q2
        exact hent _ rfl)
      refine ⟨undef,_,m,β, .inr ⟨?_,rfl⟩,zJ m β,k1,k2⟩;simp [execOp,ho,ey,ei,Instr.mapUpdate,run_underlying ht,Result.andThen,hg,hck,hfk,MapKept.run_setObj_map _ h1]
     ·have hfk:=MapKept.run_findKey (P:=P) (w:=w) hd hfn;simp only [Option.some.injEq] at he;subst he;simp only [Nat.zero_add] at hfk;have g1':es[j]? = some e':=by simpa using g1
      obtain ⟨k1,k2⟩:=hS.setMap hc hob h1 (es.modify j fun e=>{ e with key := .int kk n,val:=a.eval u }) clock (c.2.set (0+j) (.tuple [.int kk n,v])) (by simp [h2]) (fun i x e q1 q2=>by
       rw [Nat.zero_add] at q1
       by_cases hij:j=i
       ·subst hij;have hjl:j<c.2.length:=by rw [h2]; exact (Array.getElem?_eq_some_iff.1 g1').1
        rw [List.getElem?_set_self hjl] at q1
        cases q1
        rw [Array.getElem?_modify,if_pos rfl,g1'] at q2
        cases q2
        exact ⟨_,_,rfl, .int _ _,hru⟩
       ·rw [List.getElem?_set_ne hij] at q1;rw [Array.getElem?_modify,if_neg hij] at q2;exact h3 i x e q1 q2)
      refine ⟨undef,_,m,β, .inr ⟨?_,rfl⟩,zJ m β,k1,k2⟩;simp [execOp,ho,ey,ei,Instr.mapUpdate,run_underlying ht,Result.andThen,hg,hck,hfk,g1',g2,Instr.keyThatStays,Instr.sameBits,MapKept.run_setObj_map _ h1]
  | _=>simp [qE] at he
 | _=>simp [qE] at he
theorem does_insert {o:Oper} {t kt e:TypeId} {d:IntKind} {y i u:Operand} {yz iz uz:Arg} {S':Store} (ho:o.op = .insert t y i u) (ht:P.underlying t=some (.map kt e)) (hd:P.underlying kt=some (.int d))
  (hy:jt y=some yz) (hi:jt i=some iz) (hu:jt u=some uz) (hS:Holds S m β w) (hF:FrameRep N m β σ a) (he:qE S (ev σ yz) (ev σ iz) (ev σ uz)=some S') :
  Does P ((execOp a.eval o).run P w) (.tuple []) S' m β w:=by
 have h:=Wa (o:={ o with op := .mapUpdate t y i u }) (P:=P) (N:=N) rfl ht hd hy hi hu hS hF he;have e:execOp a.eval o=execOp a.eval { o with op := .mapUpdate t y i u }:=by simp [execOp,ho]
 rw [e]; exact h
end
/-! ### Keys of two numbers -/
theorem jaz {P:Program} {t:TypeId} (h:Program.isInt P t=true):(∃ k,P.underlying t=some (.int k))∧P.plainKey t=true:=by
 unfold Program.isInt at h;split at h
 ·rename_i k hk; exact ⟨⟨k,hk⟩,by simp [Program.plainKey,hk]⟩
 ·cases h
theorem Kz {P : Program} {kt : TypeId} (h : Program.pairKey P kt = true) : ∃ f g, P.underlying kt = some (.struct #[f, g]) ∧ P.stoodInHeld kt = false ∧ f.name ≠ "_" ∧ g.name ≠ "_" ∧ f.offset = 0 ∧ g.offset = 1 ∧ (∃ k, P.underlying f.type = some (.int k)) ∧ P.plainKey f.type = true ∧ (∃ k, P.underlying g.type = some (.int k)) ∧ P.plainKey g.type = true := by
 unfold Program.pairKey at h;split at h
 ·rename_i fs hfs;simp only [Bool.and_eq_true,Bool.not_eq_true'] at h;obtain ⟨h1,h2⟩:=h;split at h2
  ·rename_i f g hl;simp only [Bool.and_eq_true,bne_iff_ne,ne_eq,beq_iff_eq] at h2;obtain ⟨⟨⟨⟨⟨n1,n2⟩,o1⟩,o2⟩,t1⟩,t2⟩:=h2;obtain ⟨a1,a2⟩:=jaz t1;obtain ⟨b1,b2⟩:=jaz t2;have:fs = #[f,g]:=by rw [←Array.toArray_toList (xs:=fs),hl]
   subst this;exact ⟨f,g,hfs,h1,n1,n2,o1,o2,a1,a2,b1,b2⟩
  ·cases h2
 ·cases h
section
variable {P:Program} {w:World}
theorem jbK {kt:TypeId} (h:Program.pairKey P kt=true) (a b:Int) (e:Bool):(Instr.checkKey e 10000 kt (.agg #[.int .i64 a, .int .i64 b])).run P w = .ok () w:=by
 obtain ⟨f,g,hu,hs,n1,n2,o1,o2,⟨k1,u1⟩,p1,⟨k2,u2⟩,p2⟩:=Kz h;have q1:(part f.type #[.int .i64 a, .int .i64 b] f.offset).run P w = .ok (.int .i64 a) w:=run_part_plain w p1 (by rw [o1]; rfl);have q2:(part g.type #[.int .i64 a, .int .i64 b] g.offset).run P w = .ok (.int .i64 b) w:=run_part_plain w p2 (by rw [o2]; rfl);have c : ∀ (t:TypeId) (k:IntKind) (x:Int) n,P.underlying t=some (.int k)→(Instr.checkKey e (n+1) t (.int .i64 x)).run P w = .ok () w:=by
  intro t k x n hu;unfold Instr.checkKey;simp only [Sem.run_bind,run_underlying hu,Result.andThen]
  rfl
 have c1:=c f.type k1 a 9998 u1;have c2:=c g.type k2 b 9998 u2;rw [show (10000:Nat)=9999+1 from rfl,Instr.checkKey];simp only [Sem.run_bind,run_underlying hu,Result.andThen_ok];rw [←Array.forIn_toList];simp only [List.forIn_cons,List.forIn_nil,Sem.run_bind,n1,n2,ne_eq,not_false_eq_true,if_true,Result.andThen_ok,q1,q2,c1,c2,Sem.run_pure]
theorem equal_pair {kt:TypeId} (h:Program.pairKey P kt=true) (a b a' b':Int):(Op.equal kt (.agg #[.int .i64 a, .int .i64 b]) (.agg #[.int .i64 a', .int .i64 b'])).run P w = .ok (a==a'&&b==b') w:=by
 obtain ⟨f,g,hu,hs,n1,n2,o1,o2,⟨k1,u1⟩,p1,⟨k2,u2⟩,p2⟩:=Kz h;have q1 : ∀ a b,(part f.type #[.int .i64 a, .int .i64 b] f.offset).run P w = .ok (.int .i64 a) w:=fun a b=>run_part_plain w p1 (by rw [o1]; rfl)
 have q2 : ∀ a b,(part g.type #[.int .i64 a, .int .i64 b] g.offset).run P w = .ok (.int .i64 b) w:=fun a b=>run_part_plain w p2 (by rw [o2]; rfl)
 have c : ∀ (t:TypeId) (k:IntKind) (x y:Int) n,P.underlying t=some (.int k)→(Op.equalIn (n+1) t (.int .i64 x) (.int .i64 y)).run P w = .ok (x==y) w:=by
  intro t k x y n hu;unfold Op.equalIn;simp only [Sem.run_bind,run_underlying hu,Result.andThen];simp
 have c1:=fun x y=>c f.type k1 x y 9998 u1
 have c2:=fun x y=>c g.type k2 x y 9998 u2
 show (Op.equalIn (9999+1) kt _ _).run P w=_;unfold Op.equalIn;simp only [Sem.run_bind,run_underlying hu,Result.andThen_ok,run_program,hs];rw [←Array.forIn_toList]
 by_cases e1:a=a'<;>by_cases e2:b=b' <;>
 simp [List.forIn_cons,List.forIn_nil,Sem.run_bind,n1,n2,Result.andThen,q1,q2,c1,c2,Sem.run_pure,e1,e2]
theorem JC {kt:TypeId} (h:Program.pairKey P kt=true) (x:Value) (es:List MapEntry):(Instr.findKey kt x es).run P w=(Instr.findAsking kt x es).run P w:=by
 obtain ⟨f,g,hu,_⟩:=Kz h;exact run_findKey_eq w (by simp [hu]) x es
end
section
variable {P:Program} {N:Nat} {S:Store} {m:Imm} {β:Objs} {w:World} {σ:Fr} {a:Act}
theorem rep_pair {x y:Int} {v:Value} (h:RepI m (.agg [.int .i64 x, .int .i64 y]) v):v = .agg #[.int .i64 x, .int .i64 y]:=by
 cases h with
 | agg xs vs hl hr h1 =>
  match vs,hl with
  | [u,z],_ =>
   have h2:=hr 0 _ _ rfl rfl;have h3:=hr 1 _ _ rfl rfl
   cases h2; cases h3; rfl
theorem Rep.inv_pair {x y:Int} {v:Value} (h:Rep m β (.agg [.int .i64 x, .int .i64 y]) v):v = .agg #[.int .i64 x, .int .i64 y]:=by
 cases h with
 | imm h=>exact rep_pair h
 | agg xs vs hl hr h1 =>
  match vs,hl with
  | [u,z],_ =>
   have h2:=(hr 0 _ _ rfl rfl).inv_int;have h3:=(hr 1 _ _ rfl rfl).inv_int;subst h2; subst h3; rfl
theorem Yz {kt:TypeId} (hp:Program.pairKey P kt=true) {n q:Int} : ∀ (cells:List V) (es:List MapEntry) (i:Nat) (r:Option (Nat × V)),cells.length=es.length →
  (∀ (i:Nat) (x:V) (e:MapEntry),cells[i]? = some x→es[i]? = some e→EntryRep m β x e)→zA (.agg [.int .i64 n, .int .i64 q]) cells i=some r →
  (r=none∧(Instr.findAsking kt (.agg #[.int .i64 n, .int .i64 q]) es i).run P w = .ok none w) ∨
   ∃ j x e,r=some (i+j,x)∧es[j]? = some e∧e.key = .agg #[.int .i64 n, .int .i64 q]∧Rep m β x e.val∧(Instr.findAsking kt (.agg #[.int .i64 n, .int .i64 q]) es i).run P w = .ok (some (i+j,e.val)) w
 | [],es,i,r,hl,hr,h=>by
  cases es with
  | nil=>simp only [zA,Option.some.injEq] at h; exact .inl ⟨h.symm,by simp [Instr.findAsking]⟩
  | cons _ _=>simp at hl
 | c::cells,es,i,r,hl,hr,h=>by
  cases es with
  | nil=>simp at hl
  | cons e es =>
   obtain ⟨k,v,rfl,hk,hv⟩:=hr 0 c e rfl rfl;have ih:=Yz hp (n:=n) (q:=q) cells es (i+1) r (by simpa using hl) (fun i x e h1 h2=>hr (i+1) x e (by simpa using h1) (by simpa using h2));simp only [zA] at h
   cases hks:zK (.agg [.int .i64 n, .int .i64 q]) k with
   | none=>rw [hks] at h; cases h
   | some bb =>
    rw [hks] at h;unfold zK at hks;split at hks
    ·rename V.agg _=V.int _ _=>e1
     cases e1
    ·rename_i a1 b1 a2 b2 e1
     cases e1
     have ek:=rep_pair hk;have heq:=equal_pair (w:=w) hp n q a2 b2;simp only [Option.some.injEq] at hks;rw [hks] at heq
     cases bb with
     | true =>
      simp only [Option.some.injEq] at h;simp only [Bool.and_eq_true,beq_iff_eq] at hks;obtain ⟨rfl,rfl⟩:=hks;exact .inr ⟨0,v,e,by rw [←h]; rfl,rfl,ek,hv,by simp [Instr.findAsking,ek,heq]⟩
     | false =>
      simp only at h;rcases ih h with ⟨h1,h2⟩ | ⟨j,x,e',h1,h2,h3,h4,h5⟩
      ·exact .inl ⟨h1,by simp [Instr.findAsking,ek,heq,h2]⟩
      ·exact .inr ⟨j+1,x,e',by rw [h1]; simp; omega,by simpa using h2,h3,h4,by simp [Instr.findAsking,ek,heq,h5]; omega⟩
    ·cases hks
theorem does_lookup2 {o:Oper} {t kt e:TypeId} {z:V} {ok:Bool} {y i:Operand} {yz iz:Arg} {x:V} (ho:o.op = .lookup t y i ok) (ht:P.underlying t=some (.map kt e)) {g:Bool} (hpk:g=Ky (P:=P) (kt:=kt) 0)
  (hz:Program.zero1 P e=some z) (hy:jt y=some yz) (hi:jt i=some iz) (hS:Holds S m β w) (hF:FrameRep N m β σ a) (he:Jv g z ok S (ev σ yz) (ev σ iz)=some x) :
  Does P ((execOp a.eval o).run P w) x S m β w:=by
 have hry:=jR hF hy;have hri:=jR hF hi;generalize ev σ yz=p at he hry;generalize ev σ iz=q at he hri;unfold Jv at he;split at he
 ·rename_i ob n1 n2;split at he
  case isFalse=>cases he
  rename_i hg;have hd:Program.pairKey P kt=true:=by rw [←jby, ←hpk]; exact hg
  have ei:=hri.inv_pair
  cases hc:S.get ob with
  | none=>simp [hc] at he
  | some c =>
   simp only [hc] at he;obtain ⟨b,hob,ey⟩:=hry.inv_map (hS.alive hc);have hl:=hS.live ob c hc;rw [hob] at hl;obtain ⟨es,clock,h1,h2,h3⟩:=hl;obtain ⟨zv,hzr,hzv⟩:=jbg (P:=P) (m:=m) (w:=w) hz;have hg:=MapKept.run_getObj_map (P:=P) h1;have hck:=jbK (w:=w) hd n1 n2 es.isEmpty
   cases hlk:zA (.agg [.int .i64 n1, .int .i64 n2]) c.2 0 with
   | none=>simp [hlk] at he
   | some r =>
    have hf:=Yz (w:=w) hd c.2 es.toList 0 r (by simpa using h2) (fun i x e q1 q2=>h3 i x e q1 (by simpa using q2)) hlk;rw [hlk] at he;rcases hf with ⟨rfl,hfn⟩ | ⟨j,v,e',rfl,g1,g2,g3,hfn⟩
    ·have hfk:=(JC (w:=w) hd _ _).trans hfn;simp only [Option.some.injEq] at he;subst he
     cases ok with
     | false=>exact Does.same (v:=zv) hS (by simp [execOp,ho,ey,ei,Instr.lookup,run_underlying ht,Result.andThen,hg,hck,hfk,hzr]) (.imm hzv)
     | true =>
      refine Does.same (v := .tuple #[zv, .bool false]) hS (by simp [execOp,ho,ey,ei,Instr.lookup,run_underlying ht,Result.andThen,hg,hck,hfk,hzr]) ?_;exact Rep.tuple [z, .bool false] [zv, .bool false] rfl fun i x v h1 h2=>by
       match i,h1,h2 with
       | 0,h1,h2=>cases h1; cases h2; exact .imm hzv
       | 1,h1,h2=>cases h1; cases h2; exact .imm (.bool _)
    ·have hfk:=(JC (w:=w) hd _ _).trans hfn;simp only [Option.some.injEq] at he;subst he
     cases ok with
     | false=>exact Does.same (v:=e'.val) hS (by simp [execOp,ho,ey,ei,Instr.lookup,run_underlying ht,Result.andThen,hg,hck,hfk]) g3
     | true =>
      refine Does.same (v := .tuple #[e'.val, .bool true]) hS (by simp [execOp,ho,ey,ei,Instr.lookup,run_underlying ht,Result.andThen,hg,hck,hfk]) ?_;exact Rep.tuple [v, .bool true] [e'.val, .bool true] rfl fun i x v h1 h2=>by
       match i,h1,h2 with
       | 0,h1,h2=>cases h1; cases h2; exact g3
       | 1,h1,h2=>cases h1; cases h2; exact .imm (.bool _)
 ·cases he
theorem repI_pair (m:Imm) (n1 n2:Int):RepI m (.agg [.int .i64 n1, .int .i64 n2]) (.agg #[.int .i64 n1, .int .i64 n2]) :=
 .agg [.int .i64 n1, .int .i64 n2] [.int .i64 n1, .int .i64 n2] rfl (fun i x v h1 h2=>by
  match i,h1,h2 with
  | 0,h1,h2=>cases h1; cases h2; exact .int _ _
  | 1,h1,h2=>cases h1; cases h2; exact .int _ _) (by intro v hv; simp at hv; rcases hv with rfl | rfl<;>rfl)
theorem KD {o:Oper} {t kt e:TypeId} {y i u:Operand} {yz iz uz:Arg} {S':Store} (ho:o.op = .mapUpdate t y i u) (ht:P.underlying t=some (.map kt e)) {g:Bool} (hpk:g=Ky (P:=P) (kt:=kt) 0)
  (hy:jt y=some yz) (hi:jt i=some iz) (hu:jt u=some uz) (hS:Holds S m β w) (hF:FrameRep N m β σ a) (he:zY g S (ev σ yz) (ev σ iz) (ev σ uz)=some S') :
  Does P ((execOp a.eval o).run P w) (.tuple []) S' m β w:=by
 have hry:=jR hF hy;have hri:=jR hF hi;have hru:=jR hF hu;generalize ev σ yz=p at he hry;generalize ev σ iz=q at he hri;generalize ev σ uz=v at he hru;unfold zY at he;split at he
 ·rename_i ob n1 n2;split at he
  case isFalse=>cases he
  rename_i hg;have hd:Program.pairKey P kt=true:=by rw [←jby, ←hpk]; exact hg
  have ei:=hri.inv_pair
  cases hc:S.get ob with
  | none=>simp [hc] at he
  | some c =>
   simp only [hc] at he;obtain ⟨b,hob,ey⟩:=hry.inv_map (hS.alive hc);have hl:=hS.live ob c hc;rw [hob] at hl;obtain ⟨es,clock,h1,h2,h3⟩:=hl;have hg:=MapKept.run_getObj_map (P:=P) h1;have hck:=jbK (w:=w) hd n1 n2 false;have hent : ∀ x,x=a.eval u→EntryRep m β (.tuple [.agg [.int .i64 n1, .int .i64 n2],v]) { key := .agg #[.int .i64 n1, .int .i64 n2],val:=x,born:=clock }:=fun x hx=>⟨_,_,rfl,repI_pair _ _ _,by rw [hx]; exact hru⟩
   cases hlk:zA (.agg [.int .i64 n1, .int .i64 n2]) c.2 0 with
   | none=>simp [hlk] at he
   | some r =>
    have hf:=Yz (w:=w) hd c.2 es.toList 0 r (by simpa using h2) (fun i x e q1 q2=>h3 i x e q1 (by simpa using q2)) hlk;rw [hlk] at he;rcases hf with ⟨rfl,hfn⟩ | ⟨j,v',e',rfl,g1,g2,g3,hfn⟩
    ·have hfk:=(JC (w:=w) hd _ _).trans hfn;simp only [Option.some.injEq] at he;subst he;obtain ⟨k1,k2⟩:=hS.setMap hc hob h1 (es.push { key := .agg #[.int .i64 n1, .int .i64 n2],val:=a.eval u,born:=clock }) (clock+1) (c.2++[.tuple [.agg [.int .i64 n1, .int .i64 n2],v]]) (by simp [h2]) (fun i x e q1 q2=>by
      by_cases hie:i<c.2.length
      ·rw [List.getElem?_append_left hie] at q1;rw [Array.getElem?_push,if_neg (by omega)] at q2;exact h3 i x e q1 q2
      ·rw [List.getElem?_append_right (by omega)] at q1;have hi0:i-c.2.length=0:=by
        rcases Nat.eq_zero_or_pos (i-c.2.length) with h | h
        ·exact h
        ·rw [List.getElem?_eq_none (by simp; omega)] at q1; cases q1
       rw [hi0] at q1
       cases q1
       rw [Array.getElem?_push,if_pos (by omega)] at q2
       cases q2
       exact hent _ rfl)
     refine ⟨undef,_,m,β, .inr ⟨?_,rfl⟩,zJ m β,k1,k2⟩;simp [execOp,ho,ey,ei,Instr.mapUpdate,run_underlying ht,Result.andThen,hg,hck,hfk,MapKept.run_setObj_map _ h1]
    ·have hfk:=(JC (w:=w) hd _ _).trans hfn;simp only [Option.some.injEq] at he;subst he;simp only [Nat.zero_add] at hfk;have g1':es[j]? = some e':=by simpa using g1
     obtain ⟨k1,k2⟩:=hS.setMap hc hob h1 (es.modify j fun e=>{ e with key := .agg #[.int .i64 n1, .int .i64 n2],val:=a.eval u }) clock (c.2.set (0+j) (.tuple [.agg [.int .i64 n1, .int .i64 n2],v])) (by simp [h2]) (fun i x e q1 q2=>by
      rw [Nat.zero_add] at q1
      by_cases hij:j=i
      ·subst hij;have hjl:j<c.2.length:=by rw [h2]; exact (Array.getElem?_eq_some_iff.1 g1').1
       rw [List.getElem?_set_self hjl] at q1
       cases q1
       rw [Array.getElem?_modify,if_pos rfl,g1'] at q2
       cases q2
       exact ⟨_,_,rfl,repI_pair _ _ _,hru⟩
      ·rw [List.getElem?_set_ne hij] at q1;rw [Array.getElem?_modify,if_neg hij] at q2;exact h3 i x e q1 q2)
     refine ⟨undef,_,m,β, .inr ⟨?_,rfl⟩,zJ m β,k1,k2⟩;simp [execOp,ho,ey,ei,Instr.mapUpdate,run_underlying ht,Result.andThen,hg,hck,hfk,g1',g2,Instr.keyThatStays,Instr.sameBits,MapKept.run_setObj_map _ h1]
 ·cases he
theorem does_insert2 {o:Oper} {t kt e:TypeId} {y i u:Operand} {yz iz uz:Arg} {S':Store} (ho:o.op = .insert t y i u) (ht:P.underlying t=some (.map kt e)) {g:Bool} (hpk:g=Ky (P:=P) (kt:=kt) 0)
  (hy:jt y=some yz) (hi:jt i=some iz) (hu:jt u=some uz) (hS:Holds S m β w) (hF:FrameRep N m β σ a) (he:zY g S (ev σ yz) (ev σ iz) (ev σ uz)=some S') :
  Does P ((execOp a.eval o).run P w) (.tuple []) S' m β w:=by
 have h:=KD (o:={ o with op := .mapUpdate t y i u }) (P:=P) (N:=N) rfl ht hpk hy hi hu hS hF he;have e:execOp a.eval o=execOp a.eval { o with op := .mapUpdate t y i u }:=by simp [execOp,ho]
 rw [e]; exact h
theorem does_clear {o:Oper} {t e:TypeId} {i:TypeInfo} {zs:List V} {y:Operand} {yz:Arg} {S':Store} (ho:o.op = .call { callee := .builtin .clear,args := #[y],argTypes := #[t] })
  (hs:Program.slc P t=some (e,i)) (hz:Program.zeroV P e=some zs) (hy:jt y=some yz) (hS:Holds S m β w) (hF:FrameRep N m β σ a)
  (he:Yy i.size zs S (ev σ yz)=some S'):Does P ((execOp a.eval o).run P w) (.tuple []) S' m β w:=by
 obtain ⟨hut,hi⟩:=JT hs;obtain ⟨i',z,hi',hz',hzs,hzl,hzr⟩:=Jo (m:=m) hz;rw [hi] at hi'; cases hi';have hry:=jR hF hy;generalize ev σ yz=p at he hry;have hzv:(zeroValue e).run P w = .ok z w:=by simp [zeroValue,typeInfo,hi,hz']
 have zero : ∀ ad dc,a.eval y = .slice ad 0 dc→Does P ((execOp a.eval o).run P w) (.tuple []) S m β w:=by
  intro ad dc h1;refine Does.same (v := .tuple #[]) hS ?_ (.tuple [] [] rfl (by simp))
  cases ad<;>simp [execOp,ho,resolve,invoke,builtin,Builtin.clear_,h1,run_underlying hut,Result.andThen]
 cases p with
 | nils =>
  simp only [Yy] at he
  cases he
  obtain ⟨ad,e1⟩:=hry.inv_nils;exact zero ad 0 e1
 | slice o' off len =>
  simp only [Yy] at he
  cases hc:S.get o' with
  | none=>simp [hc] at he
  | some c =>
   simp only [hc] at he;split at he
   ·rename_i hle
    cases he
    obtain ⟨ad,cap,e1,hlc,hcm,hcase⟩:=hry.inv_slice (hS.alive hc);have triv:len=0→Does P ((execOp a.eval o).run P w) (.tuple []) (S.upd o' (c.1,qr c.2 off (rep0 zs len))) m β w:=by
     intro h0;subst h0;have e3:S.upd o' (c.1,qr c.2 off (rep0 zs 0))=S:=by
      have e4:rep0 zs 0=[]:=List.eq_nil_of_length_eq_zero (by rw [zB,Nat.zero_mul]);refine Store.ext' (funext fun o2 => ?_) rfl;simp only [Store.upd,qr,e4,List.append_nil,List.length_nil,Nat.add_zero,List.take_append_drop];split
      ·rename_i e4; subst e4; rw [hc]
      ·rfl
     rw [e3];exact zero ad cap e1
    rcases hcase with ⟨hv,h1,h2⟩ | ⟨b,base,s,n,hob,hcase⟩
    ·exact triv h1
    ·rcases hcase with hcap | ⟨had,hroom⟩
     ·exact triv (by omega)
     ·subst had
      by_cases hl0:len=0
      ·exact triv hl0
      have hzlen:(Builtin.zeroCells z.cells len).toList.length=len*i.size:=by rw [Array.length_toList,size_zeroCells,hzs]
      have hrl:(rep0 zs len).length=len*i.size:=by rw [zB,hzl]
      have hpt : ∀ (q:Nat) (x:V) (v:Value),(rep0 zs len)[q]? = some x→(Builtin.zeroCells z.cells len).toList[q]? = some v→RepI m x v∧v.oneCell'=true:=by
       intro q x v hx hv;have hq:q<len*i.size:=by rw [←hrl]; exact (List.getElem?_eq_some_iff.1 hx).1
       have h0:0<zs.length:=by
        rcases Nat.eq_zero_or_pos zs.length with h | h
        ·rw [hzl] at h; rw [h,Nat.mul_zero] at hq; omega
        ·exact h
       rw [jci _ _ h0,if_pos (by rw [hzl]; exact hq)] at hx;obtain ⟨u,hu,hr',ho',_⟩:=hzr _ x hx;rw [hzl, ←hzs] at hu;have hv2:v=u:=by
        simp only [Builtin.zeroCells,Array.getElem?_toList,Array.getElem?_map,hzs] at hv;rw [Array.getElem?_range,if_pos hq] at hv;simp only [Option.map_some,Option.some.injEq] at hv;rw [←hv, ←hzs,Array.getElem!_eq_getD,Array.getD_eq_getD_getElem?,hu]; rfl
       subst hv2;exact ⟨hr',ho'⟩
      obtain ⟨w',g1,g2,g3⟩:=hS.store (P:=P) hc hob off (rep0 zs len) (Builtin.zeroCells z.cells len).toList ⟨by rw [hzlen,hrl],fun q x v hx hv => .imm (hpt q x v hx hv).1⟩ (fun v hv=>by
       obtain ⟨q,hq,e⟩:=List.getElem_of_mem hv;have hq2:q<(rep0 zs len).length:=by rw [hrl, ←hzlen]; exact hq
       exact (hpt q _ v (List.getElem?_eq_getElem hq2) (by rw [List.getElem?_eq_getElem hq,e])).2) (by rw [hrl]; omega)
      refine ⟨.tuple #[],w',m,β, .inl ?_, .tuple [] [] rfl (by simp),g2,g3⟩;have hg1:=g1
      cases len with
      | zero=>exact absurd rfl hl0
      | succ len =>
       simp [execOp,ho,resolve,invoke,builtin,Builtin.clear_,e1,run_underlying hut,Result.andThen,hzv,g1]
   ·cases he
 | _=>simp [Yy] at he
end
end Go.Vw
/-
 All operations but calls: over values without addresses they do what the model's do.
-/
namespace Go.Vw
open Go.RowKit
section
variable {P:Program} {N:Nat} {S:Store} {m:Imm} {β:Objs} {w:World} {σ:Fr} {a:Act}
theorem does_len {o:Oper} {t e:TypeId} {y:Operand} {z:Arg} {x:V} (ho:o.op = .call { callee := .builtin .len,args := #[y],argTypes := #[t] })
  (hu:P.underlying t=some (.slice e)) (hz:jt y=some z) (hS:Holds S m β w) (hF:FrameRep N m β σ a) (he:KT S (ev σ z)=some x):Does P ((execOp a.eval o).run P w) x S m β w:=by
 have hr:=jR hF hz;generalize ev σ z=p at he hr;have run : ∀ ad (len cap:Nat),a.eval y = .slice ad len cap→(execOp a.eval o).run P w = .ok (.value (.int .i64 len)) w:=by
  intro ad len cap h1;simp [execOp,ho,resolve,invoke,builtin,h1,Builtin.len_,run_underlying hu,goInt]
 cases p with
 | list xs =>
  simp only [KT] at he
  cases he
  cases hv:a.eval y with
  | slice ad len cap =>
   have hl:=hr.inv_list;rw [hv] at hl;have:len=xs.length:=by cases hl<;>rfl
   subst this;exact Does.same hS (run ad _ cap hv) (.imm (.int _ _))
  | _=>have hl:=hr.inv_list; rw [hv] at hl; cases hl
 | slice o' off len =>
  simp only [KT] at he;split at he
  ·rename_i hs
   cases he
   obtain ⟨c,hc⟩:=Option.isSome_iff_exists.1 hs;obtain ⟨ad,cap,e,_⟩:=hr.inv_slice (hS.alive hc);exact Does.same hS (run ad len cap e) (.imm (.int _ _))
  ·cases he
 | nils =>
  simp only [KT] at he
  cases he
  obtain ⟨ad,e⟩:=hr.inv_nils;exact Does.same hS (run ad 0 0 e) (.imm (.int _ _))
 | _=>simp [KT] at he
def COp.simple:COp→Bool
 | .call _ _ | .callv _ _=>false
 | _=>true
theorem op_sound {o:Oper} {co:COp} (hc:WY P o=some co) {x:V} {S':Store} (he:jn (ev σ) S co=some (x,S')) (hS:Holds S m β w) (hF:FrameRep N m β σ a):Does P ((execOp a.eval o).run P w) x S' m β w:=by
 unfold WY at hc;split at hc
 ·-- move
  rename_i y ho;obtain ⟨z,hz,rfl⟩:=Option.map_eq_some_iff.1 hc;simp only [jn] at he; cases he;exact Does.same hS (by simp [execOp,ho]) (jR hF hz)
 ·-- assign
  rename_i y ho;obtain ⟨z,hz,rfl⟩:=Option.map_eq_some_iff.1 hc;simp only [jn] at he; cases he;exact Does.same hS (by simp [execOp,ho]) (jR hF hz)
 ·-- pick
  rename_i c y u ho;split at hc
  ·rename_i cz yz uz h1 h2 h3
   cases hc
   simp only [jn] at he;split at he
   ·rename_i t ht
    cases he
    have hr:=jR hF h1;rw [ht] at hr;have e:=hr.inv_bool
    cases t
    ·exact Does.same hS (v:=a.eval u) (by simp [execOp,ho,e,asBool]) (by simpa using jR hF h3)
    ·exact Does.same hS (v:=a.eval y) (by simp [execOp,ho,e,asBool]) (by simpa using jR hF h2)
   ·cases he
  ·cases hc
 ·-- alloc
  rename_i t ho;split at hc
  ·rename_i d z h1 h2
   cases hc
   simp only [jn] at he; cases he;exact does_alloc ho h2 hS
  ·cases hc
 ·-- box
  rename_i t y ho;obtain ⟨z,hz,rfl⟩:=Option.map_eq_some_iff.1 hc;simp only [jn] at he;split at he
  ·rename_i h1; cases he; exact does_box ho hz h1 hS hF
  ·cases he
 ·-- build
  rename_i t parts ho;split at hc
  ·rename_i fs z h1 h2;obtain ⟨ps,hps,rfl⟩:=Option.map_eq_some_iff.1 hc;simp only [jn,Option.map_eq_some_iff] at he;obtain ⟨cs,hcs,he⟩:=he
   cases he
   exact does_build ho h1 h2 hps hS hF hcs
  ·cases hc
 ·-- buildSlice
  rename_i t len parts ho;split at hc
  ·rename_i e i h1;split at hc
   ·rename_i z h2;split at hc
    ·rename_i h3;obtain ⟨ps,hps,rfl⟩:=Option.map_eq_some_iff.1 hc;simp only [jn,Option.map_eq_some_iff] at he;obtain ⟨cs,hcs,he⟩:=he
     cases he
     exact jaM ho h1 h2 h3 hps hS hF hcs
    ·cases hc
   ·cases hc
  ·cases hc
 ·-- load
  rename_i t y ho;split at hc
  ·rename_i sz z h1 h2
   cases hc
   simp only [jn,Option.map_eq_some_iff] at he;obtain ⟨v,hv,he⟩:=he
   cases he
   exact does_load ho h1 h2 hS hF hv
  ·cases hc
 ·-- store
  rename_i t p v ho;split at hc
  ·rename_i sz pz vz h1 h2 h3
   cases hc
   simp only [jn,Option.map_eq_some_iff] at he;obtain ⟨S1,hS1,he⟩:=he
   cases he
   exact does_store ho h1 h2 h3 hS hF hS1
  ·cases hc
 ·-- nilCheck
  rename_i y ho;obtain ⟨z,hz,rfl⟩:=Option.map_eq_some_iff.1 hc;have hr:=jR hF hz;simp only [jn] at he;split at he
  ·rename_i o' p hp;split at he
   ·rename_i hs
    cases he
    rw [hp] at hr;obtain ⟨c,hc'⟩:=Option.isSome_iff_exists.1 hs;obtain ⟨b,base,s,n,hob,e⟩:=hr.inv_ptr (hS.alive hc');rw [e] at hr;exact Does.same hS (by simp [execOp,ho,e]) hr
   ·cases he
  ·rename_i y' hp
   cases he
   rw [hp] at hr;obtain ⟨u,b,off,arr,T,fz,e,_⟩:=hr.inv_ref;rw [e] at hr;exact Does.same hS (by simp [execOp,ho,e]) hr
  ·cases he
 ·-- binOp
  rename_i op t y u t' ho;split at hc
  ·rename_i yz uz h1 h2;split at hc
   ·rename_i ht
    cases hc
    simp only [jn,Option.map_eq_some_iff] at he;obtain ⟨v,hv,he⟩:=he
    cases he
    exact does_beq (neg:=false) ho rfl ht h1 h2 hS hF hv
   ·rename_i ht
    cases hc
    simp only [jn,Option.map_eq_some_iff] at he;obtain ⟨v,hv,he⟩:=he
    cases he
    exact does_beq (neg:=true) ho rfl ht h1 h2 hS hF hv
   ·cases hc
    simp only [jn,Option.map_eq_some_iff] at he;obtain ⟨v,hv,he⟩:=he
    cases he
    exact does_bin ho h1 h2 hS hF hv
  ·cases hc
 ·-- unOp
  rename_i op t y ho;obtain ⟨z,hz,rfl⟩:=Option.map_eq_some_iff.1 hc;simp only [jn,Option.map_eq_some_iff] at he;obtain ⟨v,hv,he⟩:=he
  cases he
  have hr:=jR hF hz;generalize ev σ z=p at hv hr;unfold opUn at hv;split at hv
  ·cases hv; exact Does.same hS (by simp [execOp,ho,hr.inv_bool,Op.unary]) (.imm (.bool _))
  ·cases hv; exact Does.same hS (by simp [execOp,ho,hr.inv_int,Op.unary,Op.intArith]) (.imm (.int _ _))
  ·cases hv
 ·-- convert
  rename_i s d y ho;split at hc
  ·rename_i ds k h1 h2;obtain ⟨z,hz,rfl⟩:=Option.map_eq_some_iff.1 hc;have hr:=jR hF hz;simp only [jn] at he;split at he
   ·rename_i k' n hn
    cases he
    rw [hn] at hr;exact Does.same hS (v := .int k (k.wrap n)) (by simp [execOp,ho,hr.inv_int,convert,run_underlying h1,run_underlying h2,Conv.intToInt]) (.imm (.int _ _))
   ·cases he
  ·cases hc
 ·-- makeFunc
  rename_i fn first caps ho
  split at hc
  ·rename_i f hfi;obtain ⟨zs,hz,rfl⟩:=Option.map_eq_some_iff.1 hc;have hfi':first = #[]:=by cases first; simp at hfi; rw [hfi]
   subst hfi';simp only [jn] at he; cases he;have hr:=evs_rep hF hz;refine Does.same hS (v := .func (.func f) #[] (caps.toList.map a.eval).toArray) ?_ (.func f _ _ hr.1 hr.2);have hcaps:caps.map a.eval=(caps.toList.map a.eval).toArray:=by simp [←Array.toList_map]
   simp [execOp,ho,Instr.makeFunc,hcaps]
  ·cases hc
 ·-- makeSlice
  rename_i t l c ho;split at hc
  ·rename_i e i lz cz h1 h2 h3;split at hc
   ·rename_i z h4
    cases hc
    simp only [jn] at he;exact does_make ho h1 h4 h2 h3 hS hF he
   ·cases hc
  ·cases hc
 ·-- slice
  rename_i t y lo hi mx ho;split at hc
  ·rename_i e i yz loz hiz mxz h1 h2 h3 h4 h5
   cases hc
   simp only [jn,Option.map_eq_some_iff] at he;obtain ⟨v,hv,he⟩:=he
   cases he
   exact does_slice ho h1 h2 h3 h4 h5 hS hF hv
  ·cases hc
 ·-- fieldAddr
  rename_i t y f ho;split at hc
  ·rename_i off sz z h1 h2
   cases hc
   simp only [jn,Option.map_eq_some_iff] at he;obtain ⟨v,hv,he⟩:=he
   cases he
   exact jbe ho h1 h2 hS hF hv
  ·cases hc
 ·-- field
  rename_i t y f ho;split at hc
  ·rename_i off sz z h1 h2
   cases hc
   simp only [jn,Option.map_eq_some_iff] at he;obtain ⟨v,hv,he⟩:=he
   cases he
   exact does_field ho h1 h2 hS hF hv
  ·cases hc
 ·-- indexAddr
  rename_i t y i ho;split at hc
  ·rename_i e j yz iz h1 h2 h3
   cases hc
   simp only [jn,Option.map_eq_some_iff] at he;obtain ⟨v,hv,he⟩:=he
   cases he
   exact does_index ho h1 h2 h3 hS hF hv
  ·cases hc
 ·-- extract
  rename_i y i ho;obtain ⟨z,hz,rfl⟩:=Option.map_eq_some_iff.1 hc;have hr:=jR hF hz;simp only [jn] at he;split at he
  ·rename_i xs hxs;rw [hxs] at hr;obtain ⟨v,hv,he⟩:=Option.map_eq_some_iff.1 he
   cases he
   obtain ⟨vs,e,hl,hrr⟩:=hr.inv_tuple;have hlt:i<vs.length:=by rw [←hl]; exact (List.getElem?_eq_some_iff.1 hv).1
   refine Does.same hS (v:=vs[i]) ?_ (hrr i x vs[i] hv (List.getElem?_eq_getElem hlt));simp [execOp,ho,e,Instr.extract,hlt]
  ·cases he
 ·-- calls
  rename_i c ho;obtain ⟨callee,args,argTypes⟩:=c;have arr1 : ∀ {α:Type} {xs:Array α} {l:List α},xs.toList=l→xs=l.toArray:=fun h=>by rw [←h]
  unfold Kc at hc;split at hc
  ·-- len
   rename_i y t h1 h2 h3;simp only at h1 h2 h3;subst h1;rw [arr1 h2,arr1 h3] at ho;split at hc
   ·rename_i e hu;obtain ⟨z,hz,rfl⟩:=Option.map_eq_some_iff.1 hc;simp only [jn,Option.map_eq_some_iff] at he;obtain ⟨v,hv,he⟩:=he
    cases he
    exact does_len ho hu hz hS hF hv
   ·rename_i hu;obtain ⟨z,hz,rfl⟩:=Option.map_eq_some_iff.1 hc;have hr:=jR hF hz;simp only [jn] at he;split at he
    ·rename_i s hs
     cases he
     rw [hs] at hr;refine Does.same hS (v := .int .i64 s.size) ?_ (.imm (.int _ _));simp [execOp,ho,resolve,invoke,builtin,hr.inv_str,Builtin.len_,run_underlying hu,goInt]
    ·cases he
   ·cases hc
  ·-- append
   rename_i y u t t' h1 h2 h3;simp only at h1 h2 h3;subst h1;rw [arr1 h2,arr1 h3] at ho;split at hc
   ·rename_i htt;subst htt;split at hc
    ·rename_i e i yz uz k1 k2 k3;split at hc
     ·rename_i z k4;split at hc
      ·rename_i k5
       cases hc
       simp only [jn] at he;exact does_append ho k1 k4 k5 k2 k3 hS hF he
      ·cases hc
     ·cases hc
    ·cases hc
   ·cases hc
  ·-- copy
   rename_i y u t t' h1 h2 h3;simp only at h1 h2 h3;subst h1;rw [arr1 h2,arr1 h3] at ho;split at hc
   ·rename_i htt;subst htt;split at hc
    ·rename_i e i yz uz k1 k2 k3
     cases hc
     simp only [jn] at he;exact does_copy ho k1 k2 k3 hS hF he
    ·cases hc
   ·cases hc
  ·-- clear
   rename_i y t h1 h2 h3;simp only at h1 h2 h3;subst h1;rw [arr1 h2,arr1 h3] at ho;split at hc
   ·rename_i e i yz k1 k2;split at hc
    ·rename_i z k4
     cases hc
     simp only [jn] at he;obtain ⟨v,hv,h⟩:=Option.map_eq_some_iff.1 he
     cases h
     exact does_clear ho k1 k4 k2 hS hF hv
    ·cases hc
   ·cases hc
  ·-- call
   split at hc
   ·split at hc
    ·cases hc
    ·obtain ⟨zs,hz,rfl⟩:=Option.map_eq_some_iff.1 hc;simp [jn] at he
   ·cases hc
  ·split at hc
   ·cases hc; simp [jn] at he
   ·cases hc
  ·cases hc
 ·-- makeMap
  rename_i ty ho
  cases hc
  simp only [jn] at he; cases he;exact does_makeMap ho hS
 ·-- lookup
  rename_i ty y i ok ho;split at hc
  ·rename_i kt e yz iz ht hy hi;split at hc
   ·rename_i d z hd hz
    cases hc
    simp only [jn] at he;obtain ⟨v,hv,h⟩:=Option.map_eq_some_iff.1 he
    cases h
    exact does_lookup ho ht hd hz hy hi hS hF hv
   ·rename_i z hz _
    cases hc
    simp only [jn] at he;obtain ⟨v,hv,h⟩:=Option.map_eq_some_iff.1 he
    cases h
    exact does_lookup2 ho ht rfl hz hy hi hS hF hv
   ·cases hc
  ·cases hc
 ·-- mapUpdate
  rename_i ty y i u ho;split at hc
  ·rename_i kt e yz iz uz ht hy hi hu;split at hc
   ·rename_i d hd
    cases hc
    simp only [jn] at he;obtain ⟨v,hv,h⟩:=Option.map_eq_some_iff.1 he
    cases h
    exact Wa ho ht hd hy hi hu hS hF hv
   ·cases hc
    simp only [jn] at he;obtain ⟨v,hv,h⟩:=Option.map_eq_some_iff.1 he
    cases h
    exact KD ho ht rfl hy hi hu hS hF hv
  ·cases hc
 ·-- insert
  rename_i ty y i u ho;split at hc
  ·rename_i kt e yz iz uz ht hy hi hu;split at hc
   ·rename_i d hd
    cases hc
    simp only [jn] at he;obtain ⟨v,hv,h⟩:=Option.map_eq_some_iff.1 he
    cases h
    exact does_insert ho ht hd hy hi hu hS hF hv
   ·cases hc
    simp only [jn] at he;obtain ⟨v,hv,h⟩:=Option.map_eq_some_iff.1 he
    cases h
    exact does_insert2 ho ht rfl hy hi hu hS hF hv
  ·cases hc
 ·cases hc
end
end Go.Vw
