import Derived.Test.YtenhhokhkkfgbaaGreatC28
/- Part of the proof. -/
set_option linter.unusedVariables false
set_option linter.unusedSimpArgs false
set_option maxRecDepth 10000
set_option maxHeartbeats 2000000
namespace Go.Vw
open Go.Proofs Go.RowKit
attribute [-simp] List.map_set
def zE:Store:=⟨fun _=>none,0⟩
theorem zE_ok (S:Store):zE.Sub S/\zE.Shp S:=⟨fun o c h=>(by cases h),fun o c h=>(by cases h)⟩
theorem vcallv_t {P:Program} {σ:Fr} {Z:ZZ} {K:Fr->Store->Prop} {d:Option Nat} {g:FuncId} {caps:List V} {fz:Arg} {args:List Arg} {xs:List V} {r:List CO} {X:V} {S S':Store} (hf:ev σ fz = .func g caps) (hc:jH P g=true) (ha:args.map (ev σ)++caps=xs) (h:VCalls P g xs S fun r T=>r=X/\T=S') (hw:wrcL Z.es d=true) (ht:trnL Z.es d=true) (hz:Z.ok S') (H:jz P (some Z) r K (σ.put d X) S'):jz P (some Z) (⟨d,none, .callv fz args⟩::r) K σ S:=by
 rw [Zt,hf]; simp only [jbu]; rw [ha];refine ⟨hc, ?_⟩;show zy P (some Z) d g xs S _;simp only [zy];rw [if_pos hw];exact ⟨X,S', .inl ht,h,hz,H⟩
theorem Mark_v (t:List (List Int)) (N pn pm pa on:Nat) (ht:t.length=N) (hN:N<2^62) (hr : ∀ l∈t,l.length<2^62) (hi : ∀ l∈t, ∀ u∈l,Ss.InR N u) :
  ∀ (n:Nat) (need:List Bool) (l:List Int) (S:Store),Ss.off need<n->need.length=N->l.length<2^62->(∀ v∈l,Ss.InR N v)->S.get pn=some (1,[.slice on 0 N])->S.get on=some (1,need.map V.bool)->S.get pa=some (1,[vl (vl vint) t])->S.get pm=some (1,[.func 68 [.ptr pn 0, .ptr pm 0, .ptr pa 0]])->on≠pn->on≠pa->on≠pm ->
   bU 68 [vl vint l, .ptr pn 0, .ptr pm 0, .ptr pa 0] S fun v T=>v = .tuple []/\T=S.upd on (1,(Ss.dfs t n need l).map V.bool):=by
 intro n
 induction n with
 | zero=>intro need l S h; omega
 | succ n ih =>
 intro need l S hoff hnl hll hlr gn go ga gm d1 d2 d3;refine QB (c:=jc Tryz.f68) Tryz.func68 Tryz.ntmps68 fun hwf=>?_
 have ln:=jl hwf gn;have lo:=jl hwf go;have la:=jl hwf ga;have lm:=jl hwf gm
 refine bw ?_
 refine QT ?_;refine jd [1,2,3,7,8,9] rfl (fun c σ S' => ∃ (k:Nat) (nd:List Bool),k<=l.length/\c=l.length-k/\nd.length=N/\Ss.off nd<n+1/\Ss.dfs t (n+1) nd (l.drop k)=Ss.dfs t (n+1) need l/\σ=[(1, .ptr pn 0),(2, .ptr pm 0),(3, .ptr pa 0),(7,vl vint l),(8,vnat l.length),(9,vnat k)]/\S'=St S [(on,some (1,nd.map V.bool))] []) l.length ?_ ?_
 ·refine ⟨0,need,by omega,rfl,hnl,hoff,rfl,by simp [Fr.only], ?_⟩;exact (jdc hwf [(on,some (1,need.map V.bool))] (fun p hp=>by simp only [aW] at hp; subst hp; exact go)).symm▸jM hwf
 ·rintro c σ T ⟨k,nd,hk,rfl,hndl,hndo,hd,rfl,rfl⟩
  by_cases hkt:k<l.length
  ·have hw:=jg hkt (by omega);have hst:=am hkt;rw [hst,Ss.dfs] at hd;obtain ⟨v0,v1⟩:=hlr l[k] (ah hkt);obtain ⟨m,hlk⟩ : ∃ m:Nat,l[k]=(m:Int):=⟨l[k].toNat,by omega⟩
   rw [hlk] at hd v0 v1;have hm:m<N:=by omega
   have bn:=fun u l => @jh S u l pn ln
   have bo:=fun u l => @jh S u l on lo
   have ba:=fun u l => @jh S u l pa la
   have bm:=fun u l => @jh S u l pm lm
   have hno:pn≠on:=Ne.symm d1;have hna:pa≠on:=Ne.symm d2;have hnm:pm≠on:=Ne.symm d3;have hmo:m<nd.length:=by omega
   have hmt:m<t.length:=by omega
   have hon:Ss.on nd (m:Int)=nd[m]:=by rw [Ss.on,ag,Int.toNat_natCast,ac hmo]; rfl
   have htd:t.getD ((m:Int)).toNat []=t[m]:=by rw [ag,Int.toNat_natCast,ac hmt]; rfl
   rw [hon,htd,Int.toNat_natCast] at hd;have hup : ∀ x c,(St S [(on,x)] []).upd on c=St S [(on,some c)] []:=fun x c=>by rw [jP lo]; simp [uSet]
   cases hb:nd[m] with
   | true =>
    rw [hb] at hd;simp only [if_true] at hd
    repeat first|refine QG ?_|refine QY ?_ (r:=by conv=>lhs;simp[QV,hkt,hlk,bn,bo,gn,go,hno,hmo,hb,hndl,hm,hw])
    show js _ _ _ _ _ _ _;exact again ⟨ao hkt (aY k),k+1,nd,hkt,rfl,hndl,hndo,hd,by simp [Fr.only,Fr.look],rfl⟩
   | false =>
    rw [hb] at hd;simp only [aF,if_false] at hd;have hof:=Ss.off_set (a:=nd) (i:=m) (by rw [ac hmo,hb]);have cih:=fun S'=>ih (nd.set m true) t[m] S' (by omega) (by rw [List.length_set]; exact hndl) (hr _ (ah hmt)) (fun v hv=>hi _ (ah hmt) v hv)
    have hmk:=Ss.dfs_marks (asks:=t) (N:=N) (fun l hl u hu=>by obtain ⟨h1,h2⟩:=hi l hl u hu; omega) n (nd.set m true) t[m] (by rw [List.length_set]; exact hndl) (fun u hu=>by obtain ⟨h1,h2⟩:=hi _ (ah hmt) u hu; omega) (by omega);have hof2:=Ss.off_le (a:=nd.set m true) (b:=Ss.dfs t n (nd.set m true) t[m]) hmk.len.symm hmk.mono;generalize hD:Ss.dfs t n (nd.set m true) t[m]=D at *
    repeat first|refine QG ?_|refine QY ?_ (r:=by conv=>lhs;simp[QV,hkt,hlk,bn,bo,gn,go,hno,hmo,hb,hndl,hm,hw,hup])
    refine QT ?_;refine QJ (zE) (zE) [21,22,24,25,20026] ?_ (hz:=zE_ok _) (r:=by conv=>lhs; simp [QV,bn,ba,bm,gn,ga,gm,hno,hna,hnm,hlk,hmt]);have hcall:=cih (St S [(on,some (1,(nd.set m true).map V.bool))] []) ((bn _ _).trans (by simp only [uGet,if_neg hno]; exact gn)) ((bo _ _).trans (by simp [uGet])) ((ba _ _).trans (by simp only [uGet,if_neg hna]; exact ga)) ((bm _ _).trans (by simp only [uGet,if_neg hnm]; exact gm)) d1 d2 d3;rw [hup] at hcall;refine vcallv_t (by rfl) (by rfl) (by rfl) hcall (by rfl) (by rfl) (zE_ok _) ?_;refine QW ?_
    refine bx hw ?_
    show js _ _ _ _ _ _ _;exact again ⟨ao hkt (aY k),k+1,D,hkt,rfl,by rw [hmk.len,List.length_set]; exact hndl,by omega,hd,by simp [Fr.only,Fr.look],rfl⟩
  ·have hke:k=l.length:=by omega
   subst hke;rw [List.drop_length,Ss.dfs] at hd;subst hd
   refine bx hkt ?_
   refine Jp (X := .tuple []) (S':=S.upd on (1,(Ss.dfs t (n+1) need l).map V.bool)) hwf (by simp) rfl ?_ ?_ ⟨rfl,rfl⟩
   ·simp [JX,jaJ]
   ·simp only [gcU,gcE,bl,renL_bool];exact KF hwf lo
end Go.Vw
namespace Go.Vw
open Go.Proofs Go.RowKit
/-! A table of lists, each one's own. -/
abbrev rowD:List Ty:=[.s [.c]]
theorem row_row {T:Store} {l:List Int} {r:List V} {ii:List Nat} (h:OwL T rowD r (vl vint l).cells ii) : ∃ o,r=[.slice o 0 l.length]/\ii=[o]/\T.get o=some (1,l.map vint):=by
 rw [KV] at h;generalize hA:vl vint l=A at h
 cases h with
 | @s _ _ _ _ ca ys i j op ho hs d h=>cases h with
  | nil =>
   have e1:ys=l.map vint:=by
    have:V.list (l.map vint)=V.list ys:=hA;exact (V.list.inj this).symm
   subst e1;have c1:=Jg (n:=(l.map vint).length*1) (by rw [<-jbC]; exact d);rw [zb,qn] at c1;refine ⟨op,by simp, ?_, ?_⟩
   ·rw [c1.2]; rfl
   ·rw [ho,c1.1]; rfl
theorem row_mk {T:Store} {l:List Int} {o:Nat} (h:T.get o=some (1,l.map vint)):OwL T rowD [.slice o 0 l.length] (vl vint l).cells [o]:=by
 rw [KV];exact OwL.slice (enc:=vint) (fun _=>rfl) (fun _=>rfl) l (by rw [qn]; exact h) .nil
def Tab (T:Store) (N oa:Nat) (t:List (List Int)):Prop := ∃ (rs:List (List V)) (ids:List Nat),T.get oa=some (1,rs.flatten)/\Rows T rowD (vl vint) t rs ids/\ids.Nodup /\ ∀ o∈ids,N<=o
theorem Tab.mono {T T':Store} {N oa:Nat} {t:List (List Int)} (h:Tab T N oa t) (h0:T'.get oa=T.get oa) (h1 : ∀ o,N<=o->(T.get o).isSome=true->T'.get o=T.get o):Tab T' N oa t:=by
 obtain ⟨rs,ids,g,hr,hn,hi⟩:=h;exact ⟨rs,ids,h0.trans g,hr.mono fun o ho=>h1 o (hi o ho) (hr.owl.alive o ho),hn,hi⟩
theorem rows1_flat {T:Store} {t:List (List Int)} {rs:List (List V)} {ids:List Nat} (h:Rows T rowD (vl vint) t rs ids):rs.flatten.length=t.length:=by
 have h1:=h.len;rw [zq (m:=1) fun r hr=>h1.2 r hr,h1.1]; omega
theorem Tab.at {T:Store} {N oa:Nat} {t:List (List Int)} (h:Tab T N oa t) {v:Nat} (hv:v<t.length) : ∃ (cells:List V) (o:Nat),T.get oa=some (1,cells)/\cells.length=t.length/\cells[v]? = some (.slice o 0 t[v].length)/\T.get o=some (1,t[v].map vint)/\N<=o /\
  ∀ (T':Store) (o':Nat) (l':List Int),N<=o'->(T.get o'=none\/o'=o)->(∀ x,N<=x->x≠o->(T.get x).isSome=true->T'.get x=T.get x)->T'.get o'=some (1,l'.map vint)->T'.get oa=some (1,cells.set v (.slice o' 0 l'.length))->Tab T' N oa (t.set v l'):=by
 obtain ⟨rs,ids,g,hr,hn,hi⟩:=h;obtain ⟨r1,r,r2,i1,ii,i2,rfl,hl,rfl,hrow,hput⟩:=hr.at (ac hv);obtain ⟨o,rfl,rfl,ho⟩:=row_row hrow;have hlen:=hr.len;have h1 : ∀ s∈r1,s.length=1:=fun s hs=>hlen.2 s (by simp [hs])
 have hg:=JY (m:=1) (r1:=r1) (r:=[.slice o 0 t[v].length]) (r2:=r2) (q:=0) (w := .slice o 0 t[v].length) h1 hl rfl;have alive:=hr.owl.alive;refine ⟨_,o,g,rows1_flat hr,by simpa using hg,ho,hi o (by simp),fun T' o' l' hN ho' hk hg' hga => ?_⟩;have hs:=ZH (m:=1) (r1:=r1) (r:=[.slice o 0 t[v].length]) (r2:=r2) (q:=0) (w := .slice o' 0 l'.length) h1 hl (by simp);simp only [Nat.mul_one,Nat.add_zero,au] at hs;rw [hs] at hga;have hno : ∀ x∈i1++i2,x≠o:=by
  rintro x hx rfl;have hc:=List.nodup_iff_count.1 hn x;have hc1:1<=(i1++i2).count x:=List.count_pos_iff.2 hx;simp only [List.count_append,List.count_cons,beq_self_eq_true,if_true,List.count_nil] at hc hc1;omega
 refine ⟨_,i1++([o']++i2),hga,hput T' [.slice o' 0 l'.length] l' [o'] (fun x hx => ?_) (row_mk hg'), ?_,fun x hx => ?_⟩
 ·have hxm:x∈i1++([o]++i2):=by
   rcases aG.1 hx with h | h<;>simp [h]
  exact hk x (hi x hxm) (hno x hx) (alive x hxm)
 ·rcases ho' with ho' | rfl
  ·have hnm : ∀ x∈i1++i2,x≠o':=by
    rintro x hx rfl;have:=alive x (by rcases aG.1 hx with h | h<;>simp [h]);rw [ho'] at this; cases this
   refine List.nodup_iff_count.2 fun x => ?_
   have hc:=List.nodup_iff_count.1 hn x;simp only [List.count_append,List.count_cons,List.count_nil] at hc ⊢
   by_cases e:o'=x
   ·have hz:(i1++i2).count x=0:=List.count_eq_zero.2 fun hm=>hnm x hm e.symm
    simp only [List.count_append] at hz;have:(if (o'==x)=true then 1 else 0)<=1:=by split<;>omega
    omega
   ·have:(o'==x)=false:=by simpa using e
    rw [this];have h0:(if (o==x)=true then 1 else 0)≥0:=Nat.zero_le _;simp only [aF,if_false];omega
  ·exact hn
 ·simp only [aG,aW] at hx;rcases hx with h | h | h
  ·exact hi x (by simp [h])
  ·omega
  ·exact hi x (by simp [h])
theorem Tab.freeze {T:Store} {N oa:Nat} {t:List (List Int)} (h:Tab T N oa t) (hN:oa<N) : ∃ ids:List Nat,Ghost (.slice oa 0 t.length) T (vl (vl vint) t) (T.dels (oa::ids)) /\ ∀ o∈ids,N<=o:=by
 obtain ⟨rs,ids,g,hr,hn,hi⟩:=h;refine ⟨ids, ?_,hi⟩;have hw:=hr.owl;have hs:=OwL.s (S:=T) (o:=oa) (tys:=rowD) (cells:=rs.flatten) (ys:=t.map (vl vint)) (i:=ids) (j:=[]) (by simpa using g) (fun y hy=>by
  obtain ⟨l,_,rfl⟩:=bk.1 hy;exact ⟨by rw [KV]; rfl,rfl⟩) (by rw [aI,zb]; exact hw) .nil
 rw [aI] at hs;have hd:(oa::ids).Nodup:=List.nodup_cons.2 ⟨fun hm=>by have:=hi _ hm; omega,hn⟩;have:=hs.freeze (by simpa using hd) T fun _ _=>rfl
 simp only [List.append_nil] at this;intro m β w v hS hrep;obtain ⟨m',β',h1,h2,h3⟩:=this m β w [v] hS ((RepL.nil m β).cons hrep);exact ⟨m',β',h1,h2,h3.2 0 _ v rfl rfl⟩
theorem tab_void {Nf b:Nat} {σ:Fr} {T:Store} {oa n:Nat} (hw:T.Wf) (g:T.get oa=some (1,List.replicate n V.nils)) : ∃ T':Store,Reach Nf b σ T σ T'/\Tab T' T.nx oa (List.replicate n [])/\T.nx<=T'.nx /\ ∀ o,o<T.nx->o≠oa->T'.get o=T.get o:=by
 have ho:=jl hw g
 suffices ∀ i,i<=n->Reach Nf b σ T σ (St T [(oa,some (1,(List.range i).map (fun j=>V.slice (T.nx+j) 0 0)++List.replicate (n-i) V.nils))] (List.replicate i (some (1,[])))) by
  refine ⟨_,this n (bf _),⟨(List.range n).map fun j=>[V.slice (T.nx+j) 0 0],(List.range n).map fun j=>T.nx+j, ?_, ?_, ?_, ?_⟩,by rw [jL,lid]; omega,fun o h1 h2 => ?_⟩
  ·rw [jh ho];simp only [uGet,if_true,Nat.sub_self,List.replicate_zero,List.append_nil,ay,Prod.mk.injEq,true_and];rw [<-List.flatMap_def]
   induction List.range n with
   | nil=>rfl
   | cons a l ih=>simp [ih]
  ·have key : ∀ l:List Nat,(∀ j∈l,j<n)->Rows (St T [(oa,some (1,(List.range n).map (fun j=>V.slice (T.nx+j) 0 0)++List.replicate (n-n) V.nils))] (List.replicate n (some (1,[])))) rowD (vl vint) (List.replicate l.length []) (l.map fun j=>[V.slice (T.nx+j) 0 0]) (l.map fun j=>T.nx+j):=by
    intro l
    induction l with
    | nil=>exact fun _ => .nil
    | cons j l ih =>
     intro hl;refine Rows.cons (ii:=[T.nx+j]) (row_mk (l:=[]) ?_) (ih fun k hk=>hl k (by simp [hk]));have:T.nx+j=lid T.nx j:=rfl;rw [this,jv,List.getElem?_replicate,if_pos (hl j (by simp))]; rfl
   have:=key (List.range n) fun j hj=>List.mem_range.1 hj
   rwa [List.length_range] at this
  ·exact List.pairwise_map.2 ((List.nodup_range (n:=n)).imp fun h=>by omega)
  ·intro o ho;obtain ⟨j,_,rfl⟩:=bk.1 ho;omega
  ·rw [jh h1]; simp [uGet,h2]
 intro i
 induction i with
 | zero =>
  intro _;have:St T [(oa,some (1,(List.range 0).map (fun j=>V.slice (T.nx+j) 0 0)++List.replicate (n-0) V.nils))] (List.replicate 0 (some (1,[])))=T:=by
   refine jdc hw _ fun p hp => ?_
   simp only [aW] at hp;subst hp;simpa using g
  rw [this];exact Reach.refl _ _
 | succ i ih =>
  intro hi;refine (ih (by omega)).trans ?_;have hg:=Ghost.nils (St T [(oa,some (1,(List.range i).map (fun j=>V.slice (T.nx+j) 0 0)++List.replicate (n-i) V.nils))] (List.replicate i (some (1,[])))) 1;rw [Zk,jL,List.length_replicate] at hg;have hix:((List.range i).map (fun j=>V.slice (T.nx+j) 0 0)++List.replicate (n-i) V.nils)[i]? = some .nils:=by
   rw [bi (by simp),aI,List.length_range,Nat.sub_self,List.getElem?_replicate,if_pos (by omega)]
  have:=Reach.cell (N:=Nf) (b0:=b) (σ:=σ) (o:=oa) (i:=i) (s:=1) hg rfl (by rw [jh ho]; simp [uGet]) hix (by rw [jh ho]; simp [uGet]);have e:((St T [(oa,some (1,(List.range i).map (fun j=>V.slice (T.nx+j) 0 0)++List.replicate (n-i) V.nils))] (List.replicate i (some (1,[]))++[some (1,[])])).upd oa (1,((List.range i).map (fun j=>V.slice (T.nx+j) 0 0)++List.replicate (n-i) V.nils).set i (.slice (lid T.nx i) 0 0))) =
    St T [(oa,some (1,(List.range (i+1)).map (fun j=>V.slice (T.nx+j) 0 0)++List.replicate (n-(i+1)) V.nils))] (List.replicate (i+1) (some (1,[]))):=by
   rw [jP ho, <-List.replicate_succ'];simp only [uSet,if_true];rw [List.set_append_right _ _ (by simp),aI,List.length_range,Nat.sub_self,show n-i=(n-(i+1))+1 by omega,List.replicate_succ,au,List.range_succ,List.map_append,List.append_assoc]
   rfl
  rw [e] at this;exact this
end Go.Vw
