import Derived.Test.YtenhhokhkkfgbaaGreatC2
/- Part of the proof. -/
set_option linter.unusedVariables false
set_option linter.unusedSimpArgs false
/-
 Each operation over values without addresses is the model's: copy, slices, make, variables, and all together.
-/
namespace Go.Vw
open Go.RowKit
section
variable {P:Program} {N:Nat} {S:Store} {m:Imm} {β:Objs} {w:World} {σ:Fr} {a:Act}
theorem RepL.take {xs:List V} {vs:List Value} (h:RepL m β xs vs) (n:Nat):RepL m β (xs.take n) (vs.take n):=by
 refine ⟨by simp [h.1],fun i x v hx hv => ?_⟩;rw [List.getElem?_take] at hx hv;split at hx
 ·rename_i hi; rw [if_pos hi] at hv; exact h.2 i x v hx hv
 ·cases hx
theorem does_copy {o:Oper} {t e:TypeId} {i:TypeInfo} {y u:Operand} {yz uz:Arg} {x:V} {S':Store} (ho:o.op = .call { callee := .builtin .copy,args := #[y,u],argTypes := #[t,t] })
  (hs:Program.slc P t=some (e,i)) (hy:jr y=some yz) (hu:jr u=some uz) (hS:Holds S m β w) (hF:FrameRep N m β σ a)
  (he:jat i.size S (ev σ yz) (ev σ uz)=some (x,S')):Does P ((execOp a.eval o).run P w) x S' m β w:=by
 obtain ⟨hut,hi⟩:=Jr hs;have hry:=jA hF hy;have hru:=jA hF hu;generalize ev σ yz=p at he hry;generalize ev σ uz=q at he hru;simp only [jat] at he
 cases hq:jO i.size S q with
 | none=>simp [hq] at he
 | some nk =>
  obtain ⟨new,k⟩:=nk;simp only [hq] at he;obtain ⟨ad2,c2,e2,hk2,hcm2,vs,hvl,hvr,hvo,hvc⟩:=jcf hS hru hq;have hf : ∀ n,n<=k->(Builtin.firstCells i.size n (.slice ad2 k c2)).run P w = .ok (vs.take (n*i.size)).toArray w:=fun n hn=>zA rfl hn hvl hvc
  have run : ∀ ad (dl dc:Nat) w',a.eval y = .slice ad dl dc->(∀ a',ad=some a'->(storeCells a' (vs.take (Nat.min k dl*i.size)) 0).run P w = .ok () w')->(ad=none->w'=w) ->
    (execOp a.eval o).run P w = .ok (.value (.int .i64 (min k dl:Nat))) w':=by
   intro ad dl dc w' h1 h2 h3;have hf':=hf (Nat.min k dl) (Nat.min_le_left _ _)
   cases ad with
   | none=>rw [h3 rfl]; simp [execOp,ho,resolve,invoke,builtin,Builtin.copy_,h1,e2,run_underlying hut,Builtin.lenOf,sizeOf,typeInfo,hi,hf',goInt]
   | some a'=>simp [execOp,ho,resolve,invoke,builtin,Builtin.copy_,h1,e2,run_underlying hut,Builtin.lenOf,sizeOf,typeInfo,hi,hf',goInt,h2 a' rfl]
  have zero : ∀ ad dc,a.eval y = .slice ad 0 dc->Does P ((execOp a.eval o).run P w) (.int .i64 (min k 0:Nat)) S m β w:=by
   intro ad dc h1;exact Does.same hS (run ad 0 dc w h1 (fun a' _=>by simp [storeCells]) (fun _=>rfl)) (.imm (.int _ _))
  cases p with
  | nils =>
   simp only at he
   cases he
   obtain ⟨ad,e1⟩:=hry.inv_nils;have:=zero ad 0 e1;simpa using this
  | slice o' off len =>
   simp only at he
   cases hc:S.get o' with
   | none=>simp [hc] at he
   | some c =>
    simp only [hc] at he;split at he
    ·rename_i hle
     cases he
     obtain ⟨ad,cap,e1,hlc,hcm,hcase⟩:=hry.inv_slice (hS.alive hc);have triv:len=0->Does P ((execOp a.eval o).run P w) (.int .i64 (min k len:Nat)) (S.upd o' (c.1,jS c.2 off (new.take (min k len*i.size)))) m β w:=by
      intro h0;subst h0;have e3:S.upd o' (c.1,jS c.2 off (new.take (min k 0*i.size)))=S:=by
       refine Store.ext' (funext fun o2 => ?_) rfl;simp only [Store.upd,jS,Nat.min_zero,Nat.zero_mul,List.take_zero,List.append_nil,aM,Nat.add_zero,List.take_append_drop];split
       ·rename_i e4; subst e4; rw [hc]
       ·rfl
      rw [e3];exact zero ad cap e1
     rcases hcase with ⟨hv,h1,h2⟩ | ⟨b,base,s,n,hob,hcase⟩
     ·exact triv h1
     ·rcases hcase with hcap | ⟨had,hroom⟩
      ·exact triv (by omega)
      ·subst had;have hmin:min k len*i.size<=len*i.size:=Nat.mul_le_mul_right _ (Nat.min_le_right _ _);have hmin2:min k len*i.size<=k*i.size:=Nat.mul_le_mul_right _ (Nat.min_le_left _ _);have hnl:new.length=k*i.size:=by rw [hvr.1,hvl]
       obtain ⟨w',g1,g2,g3⟩:=hS.store (P:=P) hc hob off (new.take (min k len*i.size)) (vs.take (min k len*i.size)) (hvr.take _) (fun v hv=>hvo v (List.mem_of_mem_take hv)) (by simp; omega);exact ⟨_,w',m,β, .inl (run _ len cap w' e1 (fun a' ha'=>by cases ha'; exact g1) (fun h=>by cases h)), .imm (.int _ _),g2,g3⟩
    ·cases he
  | _=>simp at he
theorem jaW {d:Nat} {x:Option V} {v:Option Value} {n:Nat} (hx:qF d x=some n) (h:(x=none/\v=none) \/ ∃ y u,x=some y/\v=some u/\Rep m β y u) :
  (v=none/\n=d) \/ ∃ k i,v=some (.int k i)/\0<=i/\i.toNat=n:=by
 rcases h with ⟨rfl,rfl⟩ | ⟨y,u,rfl,rfl,hr⟩
 ·simp only [qF] at hx; cases hx; exact .inl ⟨rfl,rfl⟩
 ·cases y with
  | int k i =>
   simp only [qF] at hx;split at hx
   ·rename_i h0
    cases hx
    rw [hr.inv_int];exact .inr ⟨k,i,rfl,h0,rfl⟩
   ·cases hx
  | _=>simp [qF] at hx
theorem jbw {isS:Bool} {len cap l h q:Nat} {lo hi mx:Option Value} (hl:(lo=none/\l=0) \/ ∃ k i,lo=some (.int k i)/\0<=i/\i.toNat=l) (hh:(hi=none/\h=len) \/ ∃ k i,hi=some (.int k i)/\0<=i/\i.toNat=h)
  (hm:(mx=none/\q=cap) \/ ∃ k i,mx=some (.int k i)/\0<=i/\i.toNat=q) (h1:l<=h) (h2:h<=q) (h3:q<=cap) (h4:mx.isSome=true->hi.isSome=true) :
  (Instr.sliceBounds isS len cap lo hi mx).run P w = .ok (l,h,q) w:=by
 have b : ∀ (k:IntKind) (i:Int) (y:Nat) (code:BoundsCode),0<=i->i.toNat<=y->(Instr.sliceBound (.int k i) y code).run P w = .ok i.toNat w:=fun k i y code e1 e2=>run_sliceBound w k i y code e1 (by omega)
 rcases hl with ⟨rfl,rfl⟩ | ⟨k1,i1,rfl,e1,rfl⟩<;>rcases hh with ⟨rfl,rfl⟩ | ⟨k2,i2,rfl,e2,rfl⟩<;>rcases hm with ⟨rfl,rfl⟩ | ⟨k3,i3,rfl,e3,rfl⟩ <;>
  first
  | (simp at h4; done)
  | simp [Instr.sliceBounds, *]
theorem opt_rep (hF:FrameRep N m β σ a) {x:Option Operand} {y:Option Arg} (h:x.mapM jr=some y):(y.map (ev σ)=none/\x.map a.eval=none) \/ ∃ z u,y.map (ev σ)=some z/\x.map a.eval=some u/\Rep m β z u:=by
 cases x with
 | none=>simp at h; subst h; exact .inl ⟨rfl,rfl⟩
 | some x =>
  simp at h;obtain ⟨z,hz,rfl⟩:=h;exact .inr ⟨_,_,rfl,rfl,jA hF hz⟩
theorem opt_some {x:Option V} {v:Option Value} (h:(x=none/\v=none) \/ ∃ z u,x=some z/\v=some u/\Rep m β z u):x.isSome=v.isSome:=by
 rcases h with ⟨rfl,rfl⟩ | ⟨z,u,rfl,rfl,_⟩<;>rfl
theorem does_slice {o:Oper} {t e:TypeId} {i:TypeInfo} {y:Operand} {lo hi mx:Option Operand} {yz:Arg} {loz hiz mxz:Option Arg} {x:V} (ho:o.op = .slice t y lo hi mx)
  (hs:Program.slc P t=some (e,i)) (hy:jr y=some yz) (hlo:lo.mapM jr=some loz) (hhi:hi.mapM jr=some hiz) (hmx:mx.mapM jr=some mxz) (hS:Holds S m β w) (hF:FrameRep N m β σ a)
  (he:qp i.size S (ev σ yz) (loz.map (ev σ)) (hiz.map (ev σ)) (mxz.map (ev σ))=some x):Does P ((execOp a.eval o).run P w) x S m β w:=by
 obtain ⟨hut,hi'⟩:=Jr hs;have hry:=jA hF hy;have r1:=opt_rep hF hlo;have r2:=opt_rep hF hhi;have r3:=opt_rep hF hmx;have s2:=opt_some r2;have s3:=opt_some r3;generalize ev σ yz=p at he hry;generalize loz.map (ev σ)=lv at he r1;generalize hiz.map (ev σ)=hv at he r2 s2;generalize mxz.map (ev σ)=mv at he r3 s3;generalize hlo':lo.map a.eval=lo' at r1;generalize hhi':hi.map a.eval=hi'' at r2 s2;generalize hmx':mx.map a.eval=mx' at r3 s3;have run : ∀ ad (len cap l h q:Nat),a.eval y = .slice ad len cap->(Instr.sliceBounds true len cap lo' hi'' mx').run P w = .ok (l,h,q) w ->
   (execOp a.eval o).run P w = .ok (.value (.slice (if q=l then ad else ad.map (·.add (l*i.size))) (h-l) (q-l))) w:=by
  intro ad len cap l h q h1 h2;simp [execOp,ho,hlo',hhi',hmx',h1,Instr.sliceAt,Instr.slice,run_underlying hut,h2,sizeOf,typeInfo,hi']
 -- the bounds, with the capacity that is there
 have bounds : ∀ (len cap l h q:Nat),len<=cap->qF 0 lv=some l->qF len hv=some h->qF len mv=some q->l<=h->h<=q->q<=len->(mv.isSome=true->hv.isSome=true) ->
   ∃ q',q<=q'/\q'<=cap/\(mv.isSome=true->q'=q)/\(Instr.sliceBounds true len cap lo' hi'' mx').run P w = .ok (l,h,q') w:=by
  intro len cap l h q hlc e1 e2 e3 h1 h2 h3 h4;have b1:=jaW e1 r1;have b2:=jaW e2 r2;have b3:=jaW e3 r3;rw [s2,s3] at h4;rcases b3 with ⟨b31,b32⟩ | b3
  ·exact ⟨cap,by omega,bf _,(fun hm=>by rw [s3,b31] at hm; cases hm),jbw b1 b2 (.inl ⟨b31,rfl⟩) h1 (by omega) (bf _) h4⟩
  ·exact ⟨q,bf _,by omega,fun _=>rfl,jbw b1 b2 (.inr b3) h1 h2 (by omega) h4⟩
 cases p with
 | list xs =>
  simp only [qp] at he;split at he
  ·rename_i l h q e1 e2 e3;split at he
   ·rename_i hc;obtain ⟨c1,c2,c3,c4,c5⟩:=hc
    cases hq:a.eval y with
    | slice ad len cap =>
     have hl:=hry.inv_list;rw [hq] at hl;have hlen:len=xs.length/\xs.length<=cap/\cap<=maxLen:=by
      cases hl with
      | list0 _ _ hc=>exact ⟨rfl,Nat.zero_le _,hc⟩
      | list _ _ _ _ _ _ _ _ _ _ _ hc hcm=>exact ⟨rfl,hc,hcm⟩
     obtain ⟨hlen,hle,hcm⟩:=hlen;subst hlen;obtain ⟨q',f1,f2,f3,f4⟩:=bounds xs.length cap l h q hle e1 e2 e3 c1 c2 c3 c4;have hr:=run ad xs.length cap l h q' hq f4;split at he
     ·rename_i h0
      cases he
      have:=f3 h0.2;have hq0:q'=0:=by omega
      subst hq0;have hl0:l=0:=by omega
      subst hl0;have hh0:h=0:=by omega
      subst hh0;exact Does.same hS hr (.imm (.nils _))
     ·cases he
      refine Does.same hS hr ?_;have hlen2:((xs.take h).drop l).length=h-l:=by simp; omega
      by_cases hemp:h-l=0
      ·have e0:(xs.take h).drop l=[]:=aO (by omega);rw [e0,hemp];exact .imm (.list0 _ _ (by omega))
      ·cases hl with
       | list0=>simp at c3 c2 c1 hemp; omega
       | list _ vs b off _ s' arr T fz hm hl' hc' hcm' hs' hr' hcells =>
        have hpos:0<xs.length:=by omega
        have hv0:0<vs.length:=by omega
        have hss:l*s'=l*i.size:=by
         rcases c5 with c5 | c5
         ·rw [c5,Nat.zero_mul,Nat.zero_mul]
         ·have hall : ∀ x∈xs,x.ncells=i.size:=by simpa using c5
          have h1:=hr' 0 xs[0] vs[0] (ac hpos) (ac hv0);rw [<-hs' vs[0] (ah hv0),h1.cells_size,hall _ (ah hpos)]
        have hvlen:((vs.take h).drop l).length=h-l:=by simp; omega
        have hq'l:q'≠l:=by omega
        rw [if_neg hq'l];simp only [bl,Jv, <-hss];have:=RepI.list (m:=m) ((xs.take h).drop l) ((vs.take h).drop l) b (off+l*s') (q'-l) s' arr T fz hm (by omega) (by omega) (by omega)
         (fun v hv=>hs' v (List.mem_of_mem_take (List.mem_of_mem_drop hv)))
         (fun j x v hx hv=>by
          rw [List.getElem?_drop,List.getElem?_take] at hx hv;split at hx
          ·rename_i hj; rw [if_pos hj] at hv; exact hr' _ x v hx hv
          ·cases hx)
         (fun j v jj c hv hc=>by
          rw [List.getElem?_drop,List.getElem?_take] at hv;split at hv
          ·have:=hcells _ v jj c hv hc;rw [Nat.add_mul] at this;rw [<-this]
           congr 1; omega
          ·cases hv)
        rw [hlen2] at this;exact .imm this
    | _=>have hl:=hry.inv_list; rw [hq] at hl; cases hl
   ·cases he
  ·cases he
 | slice o' off len =>
  simp only [qp] at he;split at he
  ·rename_i l h q e1 e2 e3;split at he
   ·rename_i hc;obtain ⟨c0,c1,c2,c3,c4⟩:=hc
    cases he
    obtain ⟨c,hc,hcs⟩:=av.1 c0;obtain ⟨ad,cap,ev',hlc,hcm,hcase⟩:=hry.inv_slice (hS.alive hc);obtain ⟨q',f1,f2,f3,f4⟩:=bounds len cap l h q hlc e1 e2 e3 c1 c2 c3 c4;have hr:=run ad len cap l h q' ev' f4;refine Does.same hS hr ?_;rcases hcase with ⟨hv',h1,h2⟩ | ⟨b,base,s,n,hob,hcase⟩
    ·subst h1; subst h2;have hq0:q'=0:=by omega
     subst hq0;have hl0:l=0:=by omega
     subst hl0;have hh0:h=0:=by omega
     subst hh0;exact .sliceVoid _ _ _ hv'
    ·obtain ⟨hs',_⟩:=hS.cells_at hc hob;have hss:s=i.size:=by rw [<-hs',hcs]
     subst hss
     by_cases hql:q'=l
     ·rw [if_pos hql];exact .slice o' _ (h-l) b base i.size n (q'-l) ad hob (by omega) (by omega) (.inl (by omega))
     ·rw [if_neg hql];rcases hcase with hcap | ⟨had,hroom⟩
      ·omega
      ·subst had;simp only [bl,Jv];have e5:l*i.size+(q'-l)*i.size=q'*i.size:=by rw [<-Nat.add_mul]; congr 1; omega
       have e6:q'*i.size<=cap*i.size:=Nat.mul_le_mul_right _ f2;have:=Rep.slice (m:=m) (β:=β) o' (off+l*i.size) (h-l) b base i.size n (q'-l) (some ⟨b,base+(off+l*i.size),none⟩) hob (by omega) (by omega) (.inr ⟨rfl,by omega⟩)
       rwa [<-Nat.add_assoc] at this
   ·cases he
  ·cases he
 | nils =>
  simp only [qp] at he;split at he
  ·rename_i e1 e2 e3;split at he
   ·rename_i c4
    cases he
    obtain ⟨ad,ev'⟩:=hry.inv_nils;obtain ⟨q',f1,f2,f3,f4⟩:=bounds 0 0 0 0 0 (bf _) e1 e2 e3 (bf _) (bf _) (bf _) c4;have hq0:q'=0:=by omega
    subst hq0;exact Does.same hS (run ad 0 0 0 0 0 ev' f4) (.imm (.nils _))
   ·cases he
  ·cases he
 | _=>simp [qp] at he
end
end Go.Vw
/-
 Each operation over values without addresses is the model's: make, variables, literals, arithmetic.
-/
namespace Go.Vw
open Go.RowKit
section
variable {P:Program} {N:Nat} {S:Store} {m:Imm} {β:Objs} {w:World} {σ:Fr} {a:Act}
theorem Zy (z:List V) (n:Nat) (hz:0<z.length) (q:Nat):(rep0 z n)[q]? = if q<n*z.length then z[q % z.length]? else none:=by
 have gen : ∀ (z:List V),0<z.length->((List.replicate n z).flatten)[q]? = if q<n*z.length then z[q % z.length]? else none:=by
  intro z hz;have h:=Jo (fun _:Unit=>z) z.length hz (List.replicate n ()) (fun _ _=>rfl) q;have e:(List.replicate n ()).flatMap (fun _=>z)=(List.replicate n z).flatten:=by
   rw [List.flatMap_def,List.map_replicate]
  rw [e] at h;rw [h,List.getElem?_replicate]
  by_cases hq:q / z.length<n
  ·rw [if_pos hq,if_pos ((Nat.div_lt_iff_lt_mul hz).1 hq)]; rfl
  ·rw [if_neg hq,if_neg (fun h=>hq ((Nat.div_lt_iff_lt_mul hz).2 h))]; rfl
 match z,hz with
 | [x],_ =>
  simp only [rep0,List.getElem?_replicate,List.length_singleton,Nat.mul_one,Nat.mod_one]
  rfl
 | x::y::zs,_=>exact gen (x::y::zs) (by simp)
theorem za (z:List V) (n:Nat):(rep0 z n).length=n*z.length:=by
 match z with
 | []=>simp [rep0]
 | [x]=>simp [rep0]
 | x::y::zs=>simp [rep0]
theorem does_make {o:Oper} {t e:TypeId} {i:TypeInfo} {zs:List V} {l c:Operand} {lz cz:Arg} {x:V} {S':Store} (ho:o.op = .makeSlice t l c) (hs:Program.slc P t=some (e,i)) (hz:Program.zeroV P e=some zs)
  (hl:jr l=some lz) (hc:jr c=some cz) (hS:Holds S m β w) (hF:FrameRep N m β σ a) (he:WL i.size i.bytes zs S (ev σ lz) (ev σ cz)=some (x,S')):Does P ((execOp a.eval o).run P w) x S' m β w:=by
 obtain ⟨hut,hi⟩:=Jr hs;obtain ⟨i',z,hi',hz',hzs,hzl,hzr⟩:=zK (m:=m) hz;rw [hi] at hi'; cases hi';have r1:=jA hF hl;have r2:=jA hF hc;generalize ev σ lz=p at he r1;generalize ev σ cz=q at he r2
 cases p with
 | int k1 ln =>
  cases q with
  | int k2 cn =>
   cases k1<;>cases k2<;>simp only [WL] at he<;>try (cases he)
   split at he
   ·rename_i hcond;obtain ⟨c1,c2,c3,c4⟩:=hcond
    cases he
    have e1:=r1.inv_int;have e2:=r2.inv_int;have hr:=run_make (P:=P) w t e i z hut hi hz' .i64 .i64 ln cn c1 c2 (by rw [Int.mul_comm]; omega) (by omega);have hsz:=size_madeCells z.cells (cn.toNat*i.size);have hcell : ∀ q,q<cn.toNat*i.size->(madeCells z.cells (cn.toNat*i.size))[q]? = some (z.cells[q % z.cells.size]!):=by
     intro q hq;simp [madeCells,hq]
    obtain ⟨β',g1,g2,g3⟩:=KX (S':=S) (w0:=w) hS (fun _ _=>rfl) rfl (s:=i.size) (new:=rep0 zs cn.toNat) (T:=e) (madeCells z.cells (cn.toNat*i.size)) ln.toNat cn.toNat
     (by rw [za,hsz,hzl]; exact bf _) (by omega) (by unfold maxLen; omega) (by rw [hsz]; exact bf _) (fun q x hx=>by
      by_cases h0:0<zs.length
      ·rw [Zy _ _ h0] at hx;split at hx
       ·rename_i hq;rw [hzl] at hq;rw [hcell q hq];obtain ⟨u,hu,hr',ho',_⟩:=hzr _ x hx;rw [hzl, <-hzs] at hu;refine ⟨u, ?_, .imm hr',ho'⟩;rw [Array.getElem!_eq_getD,a6,hu]; rfl
       ·cases hx
      ·have e0:(rep0 zs cn.toNat)=[]:=aO (by have h9:zs.length=0:=(by omega); rw [za,h9,Nat.mul_zero]);rw [e0] at hx; cases hx)
    exact ⟨_,_,m,β', .inl (by simp [execOp,ho,e1,e2,hr]),g1,g2,g3⟩
   ·cases he
  | _=>cases k1<;>simp [WL] at he
 | _=>simp [WL] at he
theorem does_var {r:Result Next} {T:TypeId} {arr:Array Value} {cells:List V} (s:Nat) (hr:r = .ok (.value (.pointer (some ⟨w.heap.size,0,none⟩))) (w.alloc (.cells arr T))) (hS:Holds S m β w) (hle:cells.length<=arr.size)
  (hc : ∀ (i:Nat) x,cells[i]? = some x -> ∃ v,arr[i]? = some v/\Rep m β x v/\v.oneCell'=true):Does P r (.ptr S.nx 0) (S.add (s,cells)) m β w:=by
 obtain ⟨h1,h2,h3⟩:=hS.alloc arr T s cells hle hc;refine ⟨_,_,m,_, .inl hr, ?_,h1,h2⟩;exact Rep.ptr (m:=m) S.nx 0 w.heap.size 0 s arr.size h3
theorem does_alloc {o:Oper} {t:TypeId} {zs:List V} (ho:o.op = .alloc t) (hz:Program.zeroV P t=some zs) (hS:Holds S m β w):Does P ((execOp a.eval o).run P w) (.ptr S.nx 0) (S.add (zs.length,zs)) m β w:=by
 obtain ⟨i,z,hi,hz',hzs,hzl,hzr⟩:=zK (m:=m) hz;refine does_var zs.length (T:=t) (arr:=z.cells) ?_ hS (by rw [hzl,hzs]; exact bf _) fun j x hx => ?_
 ·simp [execOp,ho,Instr.alloc,zeroValue,typeInfo,hi,hz',newVar,newRow]
 ·obtain ⟨u,h1,h2,h3,_⟩:=hzr j x hx;exact ⟨u,h1, .imm h2,h3⟩
theorem does_box {o:Oper} {t:TypeId} {y:Operand} {yz:Arg} (ho:o.op = .box t y) (hy:jr y=some yz) (h1:(ev σ yz).cells.all V.one=true) (hS:Holds S m β w) (hF:FrameRep N m β σ a) :
  Does P ((execOp a.eval o).run P w) (.ptr S.nx 0) (S.add ((ev σ yz).ncells,(ev σ yz).cells)) m β w:=by
 obtain ⟨hl,hc⟩:=(jA hF hy).cellwise h1;refine does_var _ (T:=t) (arr:=(a.eval y).cells) ?_ hS (by omega) hc;simp [execOp,ho,Instr.box,newVar,newRow]
theorem jbp (cs:Array Value) (off:Nat) : ∀ (l:List Value) (k:Nat) (acc:Array Value),off+k+l.length<=acc.size ->
  ((l.zipIdx k).foldl (fun cs (p:Value × Nat)=>cs.setIfInBounds (off+p.2) p.1) acc).toList=acc.toList.take (off+k)++l++acc.toList.drop (off+k+l.length)
 | [],k,acc,h=>by simp
 | v::r,k,acc,h=>by
  simp only [List.zipIdx_cons,List.foldl_cons];rw [jbp cs off r (k+1) _ (by simp at h ⊢; omega)];have:=list_seg_step acc.toList (off+k) v r (by simp at h ⊢; omega);simpa [Nat.add_assoc] using this
theorem jaN (place:Nat->Option (Nat × Nat)) (cnv:Nat × Operand->Option (Nat × Nat × Arg)) (hcnv : ∀ p f,cnv p=some f->place p.1=some (f.1,f.2.1)/\jr p.2=some f.2.2) (hF:FrameRep N m β σ a) :
  ∀ (parts:List (Nat × Operand)) (fs:List (Nat × Nat × Arg)) (cells:List V) (vs:Array Value) (out:List V),parts.mapM cnv=some fs->RepL m β cells vs.toList->(∀ v∈vs.toList,v.oneCell'=true)->qj (ev σ) cells fs=some out ->
   ∃ us:Array Value,Instr.fill place vs (parts.map fun p=>(p.1,a.eval p.2))=some us/\RepL m β out us.toList/\(∀ v∈us.toList,v.oneCell'=true)/\out.length=cells.length
 | [],fs,cells,vs,out,hp,hr,h1,ho=>by
  simp at hp; subst hp;simp only [qj] at ho; cases ho;exact ⟨vs,rfl,hr,h1,rfl⟩
 | p::rest,fs,cells,vs,out,hp,hr,h1,ho=>by
  simp only [List.mapM_cons,Option.bind_eq_bind,aN] at hp;obtain ⟨f,hf,fs',hfs',hp⟩:=hp;simp at hp; subst hp;obtain ⟨off,sz,x⟩:=f;obtain ⟨hpl,harg⟩:=hcnv p _ hf;simp only at hpl harg;simp only [qj] at ho;split at ho
  ·rename_i hc;obtain ⟨c1,c2,c3⟩:=hc;have hrx:=jA hF harg;obtain ⟨hl,hcw⟩:=hrx.cellwise c3;have hxl:(ev σ x).cells.length=sz:=by rw [<-c1]; cases ev σ x<;>rfl
   have hvl:(a.eval p.2).cells.size=sz:=by omega
   have hcl:cells.length=vs.size:=by simpa using hr.1
   have hset:=jbp vs off (a.eval p.2).cells.toList 0 vs (by simp; omega);generalize hvs':((a.eval p.2).cells.toList.zipIdx 0).foldl (fun cs (p:Value × Nat)=>cs.setIfInBounds (off+p.2) p.1) vs=vs' at hset;have hlx:off+(ev σ x).cells.length<=cells.length:=by omega
   have hrs:RepL m β (jS cells off (ev σ x).cells) vs'.toList:=by
    rw [hset];refine ⟨by rw [JT _ _ _ hlx]; simp; omega,fun i y v hy hv => ?_⟩;rw [Yn _ _ _ hlx] at hy;simp only [Nat.add_zero] at hv;rw [JS _ _ _ (by simp; omega)] at hv;have e1:(a.eval p.2).cells.toList.length=(ev σ x).cells.length:=by simp; omega
    rw [e1] at hv;split at hy
    ·rename_i hi; rw [if_pos hi] at hv; exact hr.2 i y v hy hv
    ·rename_i hi;rw [if_neg hi] at hv;split at hy
     ·rename_i hi2;rw [if_pos hi2] at hv;obtain ⟨u,hu1,hu2,_⟩:=hcw _ y hy;rw [<-Array.getElem?_toList] at hu1;rw [hu1] at hv; cases hv;exact hu2
     ·rename_i hi2; rw [if_neg hi2] at hv; exact hr.2 i y v hy hv
   have h1s : ∀ v∈vs'.toList,v.oneCell'=true:=by
    intro v hv;rw [hset] at hv;rcases aG.1 hv with hv | hv
    ·rcases aG.1 hv with hv | hv
     ·exact h1 v (List.mem_of_mem_take hv)
     ·obtain ⟨j,hj,rfl⟩:=a9 hv;have hj':j<(ev σ x).cells.length:=by simp at hj; omega
      obtain ⟨u,hu1,_,hu3⟩:=hcw j _ (ac hj');rw [<-Array.getElem?_toList,ac hj] at hu1
      cases hu1; exact hu3
    ·exact h1 v (List.mem_of_mem_drop hv)
   obtain ⟨us,g1,g2,g3,g4⟩:=jaN place cnv hcnv hF rest fs' _ vs' out hfs' hrs h1s ho;refine ⟨us, ?_,g2,g3,by rw [g4,JT _ _ _ hlx]⟩;simp only [List.map_cons,Instr.fill,hpl];rw [if_neg (by simp [hvl]; omega)];rw [<-g1]
   congr 1
   rw [<-hvs', <-Array.foldl_toList];simp [Array.toList_zipIdx]
  ·cases ho
end
end Go.Vw
/-
 Each operation over values without addresses is the model's: all of them.
-/
namespace Go.Vw
open Go.RowKit
section
variable {P:Program} {N:Nat} {S:Store} {m:Imm} {β:Objs} {w:World} {σ:Fr} {a:Act}
theorem flds_spec {t:TypeId} {fs:List (Nat × Nat)} (h:Program.flds P t=some fs) : ∃ fds,P.underlying t=some (.struct fds) /\
  (fds.mapM fun f=>do pure (f.offset, <-sizeOf f.type):Sem (Array (Nat × Nat))).run P w = .ok fs.toArray w:=by
 unfold Program.flds at h;split at h
 ·rename_i fds hu;refine ⟨fds,hu, ?_⟩;rw [Array.mapM_eq_mapM_toList];have gstep : ∀ (f:Field) j,P.info? f.type=some j->(do pure (f.offset, <-sizeOf f.type):Sem (Nat × Nat)).run P w = .ok (f.offset,j.size) w:=by
   intro f j hj; simp [sizeOf,typeInfo,hj]
  have gen : ∀ (l:List Field) (r:List (Nat × Nat)),(l.mapM fun f=>match P.info? f.type with | some j=>some (f.offset,j.size) | none=>none)=some r ->
    (l.mapM fun f=>do pure (f.offset, <-sizeOf f.type):Sem (List (Nat × Nat))).run P w = .ok r w:=by
   intro l
   induction l with
   | nil=>intro r h; simp at h; subst h; rfl
   | cons f l ih =>
    intro r h;simp only [List.mapM_cons,Option.bind_eq_bind,aN] at h;obtain ⟨b,hb,r',hr',h⟩:=h;simp at h; subst h;split at hb
    ·rename_i j hj
     cases hb
     rw [List.mapM_cons,Sem.run_bind,gstep f j hj,Result.andThen_ok,Sem.run_bind,ih r' hr']
     rfl
    ·cases hb
  rw [Sem.run_map,gen fds.toList fs h]
  rfl
 ·cases h
theorem zero_list {t:TypeId} {zs:List V} (hz:Program.zeroV P t=some zs) : ∃ z,(zeroValue t).run P w = .ok z w/\RepL m β zs z.cells.toList/\(∀ v∈z.cells.toList,v.oneCell'=true)/\zs.length=z.cells.size:=by
 obtain ⟨i,z,hi,hz',hzs,hzl,hzr⟩:=zK (m:=m) hz;refine ⟨z,by simp [zeroValue,typeInfo,hi,hz'],⟨by simp; omega,fun j x v hx hv => ?_⟩,fun v hv => ?_,by omega⟩
 ·obtain ⟨u,h1,h2,_⟩:=hzr j x hx;rw [<-Array.getElem?_toList,hv] at h1
  cases h1; exact .imm h2
 ·obtain ⟨j,hj,rfl⟩:=a9 hv;have hj':j<zs.length:=by simp at hj; omega
  obtain ⟨u,h1,_,h3,_⟩:=hzr j _ (ac hj');rw [<-Array.getElem?_toList,ac hj] at h1
  cases h1; exact h3
theorem does_build {o:Oper} {t:TypeId} {parts:Array (Nat × Operand)} {fs:List (Nat × Nat)} {zs:List V} {ps:List (Nat × Nat × Arg)} {cs:List V} (ho:o.op = .build t parts) (hf:Program.flds P t=some fs) (hz:Program.zeroV P t=some zs)
  (hp:(parts.toList.mapM fun (p:Nat × Operand)=>match fs[p.1]?,jr p.2 with | some f,some x=>some ((f.1,f.2,x):Nat × Nat × Arg) | _,_=>none)=some ps) (hS:Holds S m β w) (hF:FrameRep N m β σ a)
  (he:qj (ev σ) zs ps=some cs):Does P ((execOp a.eval o).run P w) (.agg cs) S m β w:=by
 obtain ⟨fds,hu,hpl⟩:=flds_spec (w:=w) hf;obtain ⟨z,hz1,hz2,hz3,hz4⟩:=zero_list (w:=w) (m:=m) (β:=β) hz;obtain ⟨us,g1,g2,g3,_⟩:=jaN (fs.toArray[·]?) _ (fun p f hpf=>by
  split at hpf
  ·rename_i f' x' h1 h2; cases hpf; exact ⟨by simpa using h1,h2⟩
  ·cases hpf) hF parts.toList ps zs z.cells cs hp hz2 hz3 he
 refine Does.same hS (v := .agg us) ?_ ?_
 ·have e:(parts.map fun (x:Nat × Operand)=>(x.1,a.eval x.2)).toList=parts.toList.map fun p=>(p.1,a.eval p.2):=by simp
  simp only [execOp,ho,Instr.build,Sem.run_bind,hz1,run_underlying hu,Result.andThen_ok,hpl,e,g1,Sem.run_pure]
 ·have:=Rep.agg (m:=m) (β:=β) cs us.toList g2.1 g2.2 g3;simpa using this
theorem jaQ {o:Oper} {t e:TypeId} {i:TypeInfo} {len:Nat} {parts:Array (Nat × Operand)} {zs:List V} {ps:List (Nat × Nat × Arg)} {cs:List V} (ho:o.op = .buildSlice t len parts) (hs:Program.slc P t=some (e,i)) (hz:Program.zeroV P e=some zs)
  (hle:len*i.size<=65536/\0<i.size)
  (hp:(parts.toList.mapM fun (p:Nat × Operand)=>match jr p.2 with | some x=>some ((p.1*i.size,i.size,x):Nat × Nat × Arg) | none=>none)=some ps) (hS:Holds S m β w) (hF:FrameRep N m β σ a)
  (he:qj (ev σ) (rep0 zs len) ps=some cs):Does P ((execOp a.eval o).run P w) (.slice S.nx 0 len) (S.add (i.size,cs)) m β w:=by
 obtain ⟨hut,hi⟩:=Jr hs;obtain ⟨z,hz1,hz2,hz3,hz4⟩:=zero_list (w:=w) (m:=m) (β:=β) hz;obtain ⟨i',z',hi',hz',hzs',hzl,hzr⟩:=zK (m:=m) hz;rw [hi] at hi'; cases hi';have hz'':z'=z:=by
  have:(zeroValue e).run P w = .ok z' w:=by simp [zeroValue,typeInfo,hi,hz']
  rw [this] at hz1; cases hz1; rfl
 subst hz'';have hcell : ∀ q,q<len*i.size->(madeCells z'.cells (len*i.size))[q]? = some (z'.cells[q % z'.cells.size]!):=by
  intro q hq;simp [madeCells,hq]
 have hsz:=size_madeCells z'.cells (len*i.size);have h0:0<zs.length:=by omega
 have hrl:RepL m β (rep0 zs len) (madeCells z'.cells (len*i.size)).toList:=by
  refine ⟨by rw [za,hzl]; simp [hsz],fun q x v hx hv => ?_⟩;rw [Zy _ _ h0,hzl] at hx;split at hx
  ·rename_i hq;rw [Array.getElem?_toList,hcell q hq] at hv
   cases hv
   obtain ⟨u,hu,hr',_⟩:=hzr _ x hx;rw [<-hzs'] at hu;rw [Array.getElem!_eq_getD,a6,hu];exact .imm hr'
  ·cases hx
 have hone : ∀ v∈(madeCells z'.cells (len*i.size)).toList,v.oneCell'=true:=by
  intro v hv;obtain ⟨q,hq,rfl⟩:=a9 hv;have hq':q<len*i.size:=by simpa [hsz] using hq
  have h1:=hcell q hq';rw [<-Array.getElem?_toList,ac hq] at h1;have hlt:q % i.size<zs.length:=by rw [hzl]; exact Nat.mod_lt _ hle.2
  obtain ⟨u,hu,_,h3,_⟩:=hzr _ _ (ac hlt);rw [Option.some.inj h1,Array.getElem!_eq_getD,a6,hzs',hu];exact h3
 obtain ⟨us,g1,g2,g3,g4⟩:=jaN (fun j=>some (j*i.size,i.size)) _ (fun p f hpf=>by
  split at hpf
  ·rename_i x' h2; cases hpf; exact ⟨rfl,h2⟩
  ·cases hpf) hF parts.toList ps (rep0 zs len) (madeCells z'.cells (len*i.size)) cs hp hrl hone he
 have hul:us.size=len*i.size:=by
  have:=g2.1; rw [g4,za,hzl] at this; simpa using this.symm
 obtain ⟨β',k1,k2,k3⟩:=KX (S':=S) (w0:=w) hS (fun _ _=>rfl) rfl (s:=i.size) (new:=cs) (T:=e) us len len (by rw [g4,za,hzl,hul]; exact bf _) (bf _)
  (by have:len*1<=len*i.size:=Nat.mul_le_mul_left _ hle.2; unfold maxLen; omega) (by rw [hul]; exact bf _) (fun j x hx=>by
   have hj:j<us.toList.length:=by rw [<-g2.1]; exact (ae.1 hx).1
   exact ⟨us.toList[j],by rw [<-Array.getElem?_toList]; exact ac hj,g2.2 j x _ hx (ac hj),g3 _ (ah hj)⟩)
 refine ⟨_,_,m,β', .inl ?_,k1,k2,k3⟩;have hlim : ¬ (2^24<len*i.size):=by omega
 by_cases hn:len*i.size=0
 ·have hmc:madeCells z'.cells 0 = #[]:=by simp [madeCells]
  have hr0 : ∀ f:Nat->Value,(Array.range 0).map f = #[]:=fun f=>by simp
  rw [hn,hmc] at g1;simp [execOp,ho,Instr.buildSlice,run_underlying hut,sizeOf,typeInfo,hi,hn,hr0,g1,newRow]
 ·simp only [madeCells] at g1;simp [execOp,ho,Instr.buildSlice,run_underlying hut,sizeOf,typeInfo,hi,hlim,hn,hz1,g1,newRow]
theorem does_bin {o:Oper} {op:BinOp} {t t':TypeId} {y u:Operand} {yz uz:Arg} {x:V} (ho:o.op = .binOp op t y u t') (hy:jr y=some yz) (hu:jr u=some uz) (hS:Holds S m β w) (hF:FrameRep N m β σ a)
  (he:jbh op (ev σ yz) (ev σ uz)=some x):Does P ((execOp a.eval o).run P w) x S m β w:=by
 have r1:=jA hF hy;have r2:=jA hF hu;generalize ev σ yz=p at he r1;generalize ev σ uz=q at he r2;have run : ∀ (k1 k2:IntKind) (x1 x2:Int) (v:Value),a.eval y = .int k1 x1->a.eval u = .int k2 x2->(binOp op t (.int k1 x1) (.int k2 x2)).run P w = .ok v w->(execOp a.eval o).run P w = .ok (.value v) w:=by
  intro k1 k2 x1 x2 v h1 h2 h3;have hg:(eqGuard op t y u (.int k1 x1) (.int k2 x2)).run P w = .ok () w:=by
   unfold eqGuard
   cases op<;>rfl
  simp [execOp,ho,h1,h2,hg,h3]
 cases p with
 | int k1 x1 =>
  cases q with
  | int k2 x2 =>
   have e1:=r1.inv_int;have e2:=r2.inv_int
   cases op<;>simp only [jbh] at he<;>first | (cases he; done) | (split at he<;>first | (cases he; done) | skip)
   all_goals
    rename_i hc
    first
    | (subst hc; cases he; refine Does.same hS (run _ _ _ _ _ e1 e2 ?_) (.imm (by first | exact .int _ _ | exact .bool _)); simp [binOp,Op.intArith,Op.intCmp,Op.intBits]; done)
    | (obtain ⟨hc,hc2⟩:=hc; subst hc; cases he; refine Does.same hS (run _ _ _ _ _ e1 e2 ?_) (.imm (by first | exact .int _ _ | exact .bool _)); simp [binOp,Op.intDiv,hc2]; done)
    | (cases he; refine Does.same hS (run _ _ _ _ _ e1 e2 ?_) (.imm (by first | exact .int _ _ | exact .bool _)); simp [binOp,Op.shift,Int.not_lt.2 hc]; done)
  | _=>cases op<;>simp [jbh] at he
 | _=>cases op<;>simp [jbh] at he
theorem does_beq {o:Oper} {op:BinOp} {neg:Bool} {t t':TypeId} {y u:Operand} {yz uz:Arg} {x:V} (ho:o.op = .binOp op t y u t') (hop:op=if neg then .neq else .eql) (ht:P.underlying t=some .bool) (hy:jr y=some yz) (hu:jr u=some uz) (hS:Holds S m β w) (hF:FrameRep N m β σ a)
  (he:opBeq neg (ev σ yz) (ev σ uz)=some x):Does P ((execOp a.eval o).run P w) x S m β w:=by
 have r1:=jA hF hy;have r2:=jA hF hu;generalize ev σ yz=p at he r1;generalize ev σ uz=q at he r2
 cases p with
 | bool b1 =>
  cases q with
  | bool b2 =>
   have e1:=r1.inv_bool;have e2:=r2.inv_bool;have hg:(eqGuard op t y u (.bool b1) (.bool b2)).run P w = .ok () w:=by
    unfold eqGuard
    cases op<;>rfl
   have heq:(Op.equal t (.bool b1) (.bool b2)).run P w = .ok (b1==b2) w:=by
    have hd:Op.maxDepth=9999+1:=rfl;unfold Op.equal;rw [hd];unfold Op.equalIn;simp [run_underlying ht]
   cases he
   cases neg with
   | false =>
    simp only [aF,if_false] at hop ⊢;subst hop;refine Does.same hS (v := .bool (b1==b2)) ?_ (.imm (.bool _));simp [execOp,ho,e1,e2,hg,binOp,heq]
   | true =>
    simp only [if_true] at hop ⊢;subst hop;refine Does.same hS (v := .bool (b1 != b2)) ?_ (.imm (.bool _));simp [execOp,ho,e1,e2,hg,binOp,heq,bne]
  | _=>simp [opBeq] at he
 | _=>simp [opBeq] at he
theorem does_seq {o:Oper} {op:BinOp} {neg:Bool} {t t':TypeId} {y u:Operand} {yz uz:Arg} {x:V} (ho:o.op = .binOp op t y u t') (hop:op=if neg then .neq else .eql) (ht:P.underlying t=some .string) (hy:jr y=some yz) (hu:jr u=some uz) (hS:Holds S m β w) (hF:FrameRep N m β σ a)
  (he:opSeq neg (ev σ yz) (ev σ uz)=some x):Does P ((execOp a.eval o).run P w) x S m β w:=by
 have r1:=jA hF hy;have r2:=jA hF hu;generalize ev σ yz=p at he r1;generalize ev σ uz=q at he r2
 cases p with
 | str b1 =>
  cases q with
  | str b2 =>
   have e1:=r1.inv_str;have e2:=r2.inv_str;have hg:(eqGuard op t y u (.string b1) (.string b2)).run P w = .ok () w:=by
    unfold eqGuard
    cases op<;>rfl
   cases he
   cases neg with
   | false =>
    simp only [aF,if_false] at hop ⊢;subst hop;refine Does.same hS (v := .bool (b1.toList==b2.toList)) ?_ (.imm (.bool _));simp [execOp,ho,e1,e2,hg,binOp,Op.stringOp]
   | true =>
    simp only [if_true] at hop ⊢;subst hop;refine Does.same hS (v := .bool !(b1.toList==b2.toList)) ?_ (.imm (.bool _));simp [execOp,ho,e1,e2,hg,binOp,Op.stringOp]
  | _=>simp [opSeq] at he
 | _=>simp [opSeq] at he
end
end Go.Vw
