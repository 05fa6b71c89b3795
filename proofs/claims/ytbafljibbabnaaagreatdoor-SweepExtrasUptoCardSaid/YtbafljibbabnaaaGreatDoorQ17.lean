/- Texts of ours, joined: SzP, SzT. -/
import Derived.Test.YtbafljibbabnaaaGreatDoorQ16
namespace Go.Proofs.YtbafljibbabnaaaGreatDoor
open Go.ChangeShapes Go.WideShapes Go.ChangeAt Go.RowKit
set_option linter.unusedVariables false
set_option maxRecDepth 100000
set_option maxHeartbeats 32000000
theorem satN_addl (a b:Nat):satN (satN a+b)=satN (a+b):=by unfold satN capN;omega
theorem satN_addl2 (a b c:Nat):satN (satN a+b+c)=satN (a+b+c):=by unfold satN capN;omega
theorem satN_addr (a b:Nat):satN (a+satN b)=satN (a+b):=by unfold satN capN;omega
def atK (rs:List (Nat × Nat × List UInt8)):Nat→Nat
 |0=>0
 |k+1=>match rs[k]? with
  |some r=>r.2.1
  |none=>atK rs k
def ownK (look:List UInt8→Option (Nat × Nat × Nat))(r:Nat × Nat × List UInt8):Nat:=match look r.2.2 with
 |some _=>0
 |none=>if 0<knownOf ⟨r.2.2.toArray⟩ then 1 else r.2.1 - r.1
def litK (look:List UInt8→Option (Nat × Nat × Nat))(rs:List (Nat × Nat × List UInt8)):Nat→Nat
 |0=>0
 |k+1=>match rs[k]? with
  |some r=>litK look rs k+(r.1 - atK rs k)+ownK look r
  |none=>litK look rs k
def valK (look:List UInt8→Option (Nat × Nat × Nat))(r:Nat × Nat × List UInt8):Nat × Nat × Nat:=match look r.2.2 with
 |some z=>(z.1,z.2.1,z.2.2+1)
 |none=>(0,0,0)
def sumK (look:List UInt8→Option (Nat × Nat × Nat))(rs:List (Nat × Nat × List UInt8)):Nat→Nat × Nat × Nat
 |0=>(0,0,0)
 |k+1=>match rs[k]? with
  |some r=>((sumK look rs k).1+(valK look r).1,(sumK look rs k).2.1+(valK look r).2.1,max (sumK look rs k).2.2 (valK look r).2.2)
  |none=>sumK look rs k
def sizeT (look:List UInt8→Option (Nat × Nat × Nat))(s:List UInt8):Nat × Nat × Nat :=
 (satN (s.length+(sumK look (rfsA s 0) (rfsA s 0).length).1),
   satN (litK look (rfsA s 0) (rfsA s 0).length+(s.length - atK (rfsA s 0) (rfsA s 0).length)+(sumK look (rfsA s 0) (rfsA s 0).length).2.1),
   (sumK look (rfsA s 0) (rfsA s 0).length).2.2)
theorem atK_succ {rs:List (Nat × Nat × List UInt8)}{k:Nat}{r:Nat × Nat × List UInt8}(h:rs[k]? =some r):atK rs (k+1)=r.2.1:=by rw[atK,h]
theorem litK_succ {look:List UInt8→Option (Nat × Nat × Nat)}{rs:List (Nat × Nat × List UInt8)}{k:Nat}{r:Nat × Nat × List UInt8}(h:rs[k]? =some r):litK look rs (k+1)=litK look rs k+(r.1 - atK rs k)+ownK look r:=by rw[litK,h]
theorem sumK_succ {look:List UInt8→Option (Nat × Nat × Nat)}{rs:List (Nat × Nat × List UInt8)}{k:Nat}{r:Nat × Nat × List UInt8}(h:rs[k]? =some r):sumK look rs (k+1)=((sumK look rs k).1+(valK look r).1,(sumK look rs k).2.1+(valK look r).2.1,max (sumK look rs k).2.2 (valK look r).2.2):=by rw[sumK,h]
theorem rfsA_from (s:List UInt8): ∀ (m p:Nat),s.length - p≤m→p≤s.length→ ∀ (k:Nat) (r:Nat × Nat × List UInt8),(rfsA s p)[k]? =some r→p≤r.1∧r.1<r.2.1∧r.2.1≤s.length∧(0<k→atK (rfsA s p) k≤r.1):=by
 intro m
 induction m with
 |zero =>
  intro p hm hp k r hr
  rw[rfsA_end s p (by omega)]at hr
  simp at hr
 |succ m ih =>
  intro p hm hp k r hr
  by_cases hk:p<s.length
  · by_cases h0:(refOut 38 s p).2.2=0
    · have hn:=refOut_nx s p h0
      rw[rfsA_ref s p h0]at hr ⊢
      cases k with
      |zero =>
       simp only[List.getElem?_cons_zero,Option.some.injEq]at hr
       subst hr
       exact⟨Nat.le_refl _,hn.1,hn.2.1,fun h=>absurd h (by omega)⟩
      |succ k =>
       rw[List.getElem?_cons_succ]at hr
       obtain⟨h1,h2,h3,h4⟩:=ih _ (by omega) hn.2.1 k r hr
       refine⟨by omega,h2,h3,fun _=> ?_⟩
       have hlt:=(List.getElem?_eq_some_iff.1 hr).1
       cases k with
       |zero=>rw [atK];exact h1
       |succ k =>
        have h5:=h4 (by omega)
        rw[atK]at h5 ⊢
        rw[List.getElem?_cons_succ]
        have h6: ∃ x,(rfsA s (refOut 38 s p).2.1)[k]? =some x:=⟨_,List.getElem?_eq_getElem (by omega)⟩
        obtain⟨x,hx⟩:=h6
        rw[hx]at h5 ⊢
        exact h5
    · rw[rfsA_no s p hk h0]at hr ⊢
      obtain⟨h1,h2,h3,h4⟩:=ih _ (by omega) (by omega) k r hr
      exact⟨by omega,h2,h3,h4⟩
  · rw[rfsA_end s p (by omega)]at hr
    simp at hr
theorem rfs_ord {s:List UInt8}{k:Nat}{r:Nat × Nat × List UInt8}(h:(rfsA s 0)[k]? =some r):atK (rfsA s 0) k≤r.1∧r.1<r.2.1∧r.2.1≤s.length:=by
 obtain⟨_,h2,h3,h4⟩:=rfsA_from s s.length 0 (by omega) (Nat.zero_le _) k r h
 refine⟨?_,h2,h3⟩
 cases k with
 |zero=>rw [atK];exact Nat.zero_le _
 |succ k=>exact h4 (by omega)
theorem atK_le (s:List UInt8)(k:Nat)(hk:k≤(rfsA s 0).length):atK (rfsA s 0) k≤s.length:=by
 cases k with
 |zero=>rw [atK];exact Nat.zero_le _
 |succ k =>
  have hx:=List.getElem?_eq_getElem (l:=rfsA s 0) (i:=k) (by omega)
  rw[atK_succ hx]
  exact(rfs_ord hx).2.2
def prgK (look:List UInt8→Option (Nat × Nat × Nat))(rs:List (Nat × Nat × List UInt8))(k:Nat):Nat × Nat × Nat :=
 (satN (atK rs k+(sumK look rs k).1),satN (litK look rs k+(sumK look rs k).2.1),(sumK look rs k).2.2)
def sumZ (x y:Nat × Nat × Nat):Nat × Nat × Nat:=(satN (x.1+y.1),satN (x.2.1+y.2.1),max x.2.2 y.2.2)
def refV (look:List UInt8→Option (Nat × Nat × Nat))(r:Nat × Nat × List UInt8):Nat × Nat × Nat:=match look r.2.2 with
 |some z=>(satN (r.2.1 - r.1+z.1),z.2.1,z.2.2+1)
 |none=>if 0<knownOf ⟨r.2.2.toArray⟩ then (r.2.1 - r.1,1,0) else (r.2.1 - r.1,r.2.1 - r.1,0)
theorem prg_step {look:List UInt8→Option (Nat × Nat × Nat)}{s:List UInt8}{k:Nat}{r:Nat × Nat × List UInt8}(h:(rfsA s 0)[k]? =some r):sumZ (sumZ (prgK look (rfsA s 0) k) (r.1 - atK (rfsA s 0) k,r.1 - atK (rfsA s 0) k,0)) (refV look r)=prgK look (rfsA s 0) (k+1):=by
 obtain⟨h1,h2,h3⟩:=rfs_ord h
 unfold prgK
 rw[atK_succ h,litK_succ h,sumK_succ h]
 generalize sumK look (rfsA s 0) k=S at *
 generalize litK look (rfsA s 0) k=L at *
 generalize atK (rfsA s 0) k=A at *
 unfold sumZ refV ownK valK
 cases look r.2.2 with
 |some z =>
  simp only[Prod.mk.injEq]
  refine⟨?_,?_,by omega⟩
  · rw[satN_addl,satN_addl2,satN_addr];congr 1;omega
  · rw[satN_addl,satN_addl2];congr 1;omega
 |none =>
  by_cases hk:0<knownOf ⟨r.2.2.toArray⟩
  · simp only[hk,if_true,Prod.mk.injEq]
    refine⟨?_,?_,by omega⟩
    · rw[satN_addl,satN_addl2];congr 1;omega
    · rw[satN_addl,satN_addl2];congr 1;omega
  · simp only[hk,if_false,Prod.mk.injEq]
    refine⟨?_,?_,by omega⟩
    · rw[satN_addl,satN_addl2];congr 1;omega
    · rw[satN_addl,satN_addl2];congr 1;omega
theorem prg_end (look:List UInt8→Option (Nat × Nat × Nat))(s:List UInt8):sumZ (prgK look (rfsA s 0) (rfsA s 0).length) (s.length - atK (rfsA s 0) (rfsA s 0).length,s.length - atK (rfsA s 0) (rfsA s 0).length,0)=sizeT look s:=by
 have h1:=atK_le s _ (Nat.le_refl _)
 unfold prgK sumZ sizeT
 simp only[Prod.mk.injEq]
 refine⟨?_,?_,by omega⟩
 · rw[satN_addl];congr 1;omega
 · rw[satN_addl];congr 1;omega
theorem prg_zero (look:List UInt8→Option (Nat × Nat × Nat))(rs:List (Nat × Nat × List UInt8)):prgK look rs 0=(0,0,0):=by simp[prgK,atK,litK,sumK,satN]
def docK (look:List UInt8→Option (Nat × Nat × Nat))(s:List UInt8)(k:Nat):Nat × Nat × Nat :=
 (satN (s.length+(sumK look (rfsA s 0) k).1),satN (sumK look (rfsA s 0) k).2.1,(sumK look (rfsA s 0) k).2.2)
def leftK (look:List UInt8→Option (Nat × Nat × Nat))(s:List UInt8)(k:Nat):Nat:=s.length - atK (rfsA s 0) k+litK look (rfsA s 0) k
theorem doc_some {look:List UInt8→Option (Nat × Nat × Nat)}{s:List UInt8}{k:Nat}{r:Nat × Nat × List UInt8}{z:Nat × Nat × Nat}(h:(rfsA s 0)[k]? =some r)(hl:look r.2.2=some z):docK look s (k+1)=(satN ((docK look s k).1+z.1),satN ((docK look s k).2.1+z.2.1),max (docK look s k).2.2 (z.2.2+1))∧leftK look s (k+1)+(r.2.1 - r.1)=leftK look s k:=by
 obtain⟨h1,h2,h3⟩:=rfs_ord h
 unfold docK leftK
 rw[atK_succ h,litK_succ h,sumK_succ h]
 unfold valK ownK
 rw[hl]
 simp only[satN_addl,Nat.add_assoc,true_and]
 omega
theorem doc_known {look:List UInt8→Option (Nat × Nat × Nat)}{s:List UInt8}{k:Nat}{r:Nat × Nat × List UInt8}(h:(rfsA s 0)[k]? =some r)(hl:look r.2.2=none)(hk:0<knownOf ⟨r.2.2.toArray⟩):docK look s (k+1)=docK look s k∧leftK look s (k+1)+(r.2.1 - r.1)=leftK look s k+1:=by
 obtain⟨h1,h2,h3⟩:=rfs_ord h
 unfold docK leftK
 rw[atK_succ h,litK_succ h,sumK_succ h]
 unfold valK ownK
 rw[hl]
 simp only[hk,if_true,Nat.add_zero,Nat.max_zero,true_and]
 omega
theorem doc_other {look:List UInt8→Option (Nat × Nat × Nat)}{s:List UInt8}{k:Nat}{r:Nat × Nat × List UInt8}(h:(rfsA s 0)[k]? =some r)(hl:look r.2.2=none)(hk: ¬ 0<knownOf ⟨r.2.2.toArray⟩):docK look s (k+1)=docK look s k∧leftK look s (k+1)=leftK look s k:=by
 obtain⟨h1,h2,h3⟩:=rfs_ord h
 unfold docK leftK
 rw[atK_succ h,litK_succ h,sumK_succ h]
 unfold valK ownK
 rw[hl]
 simp only[hk,if_false,Nat.add_zero,Nat.max_zero,true_and]
 omega
theorem doc_zero (look:List UInt8→Option (Nat × Nat × Nat))(s:List UInt8)(hs:s.length≤9223372036854775807):docK look s 0=(s.length,0,0)∧leftK look s 0=s.length:=by
 unfold docK leftK
 simp only[sumK,atK,litK,Nat.add_zero,Nat.sub_zero,satN_id hs]
 exact⟨by simp[satN],trivial⟩
theorem doc_end (look:List UInt8→Option (Nat × Nat × Nat))(s:List UInt8):((docK look s (rfsA s 0).length).1,satN ((docK look s (rfsA s 0).length).2.1+leftK look s (rfsA s 0).length),(docK look s (rfsA s 0).length).2.2)=sizeT look s:=by
 unfold docK leftK sizeT
 simp only[satN_addl,Prod.mk.injEq,true_and,and_true]
 congr 1
 omega
theorem sizeT_congr {f g:List UInt8→Option (Nat × Nat × Nat)}{s:List UInt8}(h: ∀ r∈rfsA s 0,f r.2.2=g r.2.2):sizeT f s=sizeT g s:=by
 have key: ∀ k,sumK f (rfsA s 0) k=sumK g (rfsA s 0) k∧litK f (rfsA s 0) k=litK g (rfsA s 0) k:=by
  intro k
  induction k with
  |zero=>exact⟨rfl,rfl⟩
  |succ k ih =>
   cases hx:(rfsA s 0)[k]? with
   |none =>
    simp only[sumK,litK,hx]
    exact ih
   |some r =>
    have hr:=h r (List.mem_of_getElem? hx)
    rw[sumK_succ hx,sumK_succ hx,litK_succ hx,litK_succ hx,ih.1,ih.2]
    unfold valK ownK
    rw[hr]
    exact⟨rfl,rfl⟩
 unfold sizeT
 rw[(key _).1,(key _).2]
theorem sizeT_le (look:List UInt8→Option (Nat × Nat × Nat))(s:List UInt8):(sizeT look s).1≤9223372036854775807∧(sizeT look s).2.1≤9223372036854775807:=⟨satN_le _,satN_le _⟩
theorem sizeT_deep {look:List UInt8→Option (Nat × Nat × Nat)}{s:List UInt8}{D:Nat}(h: ∀ nm z,look nm=some z→z.2.2≤D):(sizeT look s).2.2≤D+1:=by
 have key: ∀ k,(sumK look (rfsA s 0) k).2.2≤D+1:=by
  intro k
  induction k with
  |zero=>exact Nat.zero_le _
  |succ k ih =>
   cases hx:(rfsA s 0)[k]? with
   |none=>simp only[sumK,hx];exact ih
   |some r =>
    rw[sumK_succ hx]
    unfold valK
    cases hl:look r.2.2 with
    |none=>simp only;omega
    |some z=>have:=h _ _ hl;simp only;omega
 exact key _
def lookE (g:List EntT)(a:Nat→Nat × Nat × Nat)(nm:List UInt8):Option (Nat × Nat × Nat):=if nm∈g.map EntT.nm then some (a ((g.map EntT.nm).idxOf nm)) else none
def noEnt:EntT:=⟨[],[],false,[],[],[]⟩
def sizeF (g:List EntT)(a:Nat→Nat × Nat × Nat)(i:Nat):Nat × Nat × Nat:=sizeT (lookE g a) (g[i]?.getD noEnt).tx
def EdgeE (l:List EntT)(i j:Nat):Prop:= ∃ t,(graphE l)[i]? =some t∧j∈t
theorem edge_ref {l:List EntT}{i:Nat}{x:EntT}{r:Nat × Nat × List UInt8}(hx:(innerE l)[i]? =some x)(hr:r∈rfsA x.tx 0)(hn:r.2.2∈(innerE l).map EntT.nm):EdgeE l i (((innerE l).map EntT.nm).idxOf r.2.2):=by
 refine⟨toE ((innerE l).map EntT.nm) (eachL x.tx),by unfold graphE;rw[List.getElem?_map,hx];rfl,?_⟩
 unfold toE
 refine List.mem_filterMap.2 ⟨r.2.2,?_,by rw[if_pos hn]⟩
 unfold eachL onceL
 refine(mem_once (rnames x.tx) _).2 ?_
 unfold rnames
 exact List.mem_map.2 ⟨r,hr,rfl⟩
theorem sizeF_dep (l:List EntT)(a b:Nat→Nat × Nat × Nat)(i:Nat)(h: ∀ j,EdgeE l i j→a j=b j):sizeF (innerE l) a i=sizeF (innerE l) b i:=by
 unfold sizeF
 cases hx:(innerE l)[i]? with
 |none =>
  have h0:rfsA (Option.getD none noEnt).tx 0= []:=rfsA_end _ _ (by simp[noEnt])
  refine sizeT_congr fun r hr=> ?_
  rw[h0]at hr
  cases hr
 |some x =>
  refine sizeT_congr fun r hr=> ?_
  unfold lookE
  split
  · rename_i hn
    rw[h _ (edge_ref hx hr hn)]
  · rfl
theorem edge_rank {l:List EntT}(hnl: ¬ loopsE l)(i j:Nat)(h:EdgeE l i j):j<(innerE l).length∧rankW (graphE l) j<rankW (graphE l) i:=by
 obtain⟨t,ht,hj⟩:=h
 have hw:Way (graphE l) i j:=Way.one ht hj
 have hlt:j<(graphE l).length:=by
  unfold graphE at ht
  rw[List.getElem?_map]at ht
  cases hx:(innerE l)[i]? with
  |none=>rw [hx]at ht;cases ht
  |some x =>
   rw[hx]at ht
   simp only[Option.map_some,Option.some.injEq]at ht
   subst ht
   have:=toE_lt _ _ j hj
   rw[graphE_len]
   simpa using this
 refine⟨by rw[graphE_len]at hlt;exact hlt,?_⟩
 unfold rankW
 refine countP_lt' _ _ _ (fun m _ hm=> ?_) ⟨j,List.mem_range.2 hlt,by simpa using hw,?_⟩
 · simp only[decide_eq_true_eq]at hm ⊢
   exact hw.trans hm
 · simp only[decide_eq_false_iff_not]
   exact fun h=>hnl ⟨j,h⟩
theorem rank_le (l:List EntT)(i:Nat):rankW (graphE l) i≤(innerE l).length:=by
 unfold rankW
 refine Nat.le_trans List.countP_le_length ?_
 rw[List.length_range,graphE_len]
 exact Nat.le_refl _
def sizesE (l:List EntT):Nat→Nat × Nat × Nat:=stepsV (sizeF (innerE l)) (0,0,0) ((innerE l).length+1)
theorem sizes_fix {l:List EntT}(hnl: ¬ loopsE l)(i:Nat)(hi:i<(innerE l).length):sizesE l i=sizeF (innerE l) (sizesE l) i :=
 steps_still (E:=EdgeE l) (rk:=rankW (graphE l)) (n:=(innerE l).length) (fun a b i h=>sizeF_dep l a b i h) (fun i j _ h=>edge_rank hnl i j h) (0,0,0) _ i hi (by have:=rank_le l i;omega)
theorem sizes_rounds {l:List EntT}(hnl: ¬ loopsE l)(i:Nat)(hi:i<(innerE l).length):(roundsG (sizeF (innerE l)) (0,0,0) (innerE l).length ((innerE l).length+1)).getD i (0,0,0)=sizesE l i :=
 rounds_val (E:=EdgeE l) (rk:=rankW (graphE l)) (n:=(innerE l).length) (fun a b i h=>sizeF_dep l a b i h) (fun i j _ h=>edge_rank hnl i j h) (0,0,0) (fun i hi=>sizes_fix hnl i hi) _ i hi (by have:=rank_le l i;omega)
def lookP (l:List EntT)(done:List Nat)(nm:List UInt8):Option (Nat × Nat × Nat):=if nm∈(innerE l).map EntT.nm∧((innerE l).map EntT.nm).idxOf nm∈done then some (sizesE l (((innerE l).map EntT.nm).idxOf nm)) else none
theorem ord_size {l:List EntT}(hnl: ¬ loopsE l){told o:List Nat}(h:OInv (graphE l) told o){k i:Nat}(hk:o[k]? =some i){x:EntT}(hx:(innerE l)[i]? =some x):sizeT (lookP l (o.take k)) x.tx=sizesE l i:=by
 rw[sizes_fix hnl i (List.getElem?_eq_some_iff.1 hx).1]
 unfold sizeF
 rw[hx]
 refine sizeT_congr fun r hr=> ?_
 unfold lookP lookE
 by_cases hn:r.2.2∈(innerE l).map EntT.nm
 · obtain⟨t,ht,hj⟩:=edge_ref hx hr hn
   rw[if_pos ⟨hn,h.top k i hk t ht _ hj⟩,if_pos hn]
 · rw[if_neg hn,if_neg (fun h=>hn h.1)]
def extraF (look:List UInt8→Option (Nat × Nat × Nat))(acc:Nat × Nat × Nat)(nm:List UInt8):Nat × Nat × Nat:=match look nm with
 |some z=>(satN (acc.1+z.1),satN (acc.2.1+z.2.1),max acc.2.2 (z.2.2+1))
 |none=>acc
def extraL (look:List UInt8→Option (Nat × Nat × Nat))(ns:List (List UInt8)):Nat × Nat × Nat:=ns.foldl (extraF look) (0,0,0)
theorem extra_le (look:List UInt8→Option (Nat × Nat × Nat)): ∀ (ns:List (List UInt8)) (acc:Nat × Nat × Nat),acc.1≤9223372036854775807∧acc.2.1≤9223372036854775807→(ns.foldl (extraF look) acc).1≤9223372036854775807∧(ns.foldl (extraF look) acc).2.1≤9223372036854775807
 | [],acc,h=>h
 |n :: ns,acc,h=>by
  rw[List.foldl_cons]
  refine extra_le look ns _ ?_
  unfold extraF
  split
  · exact⟨satN_le _,satN_le _⟩
  · exact h
theorem extra_deep {look:List UInt8→Option (Nat × Nat × Nat)}{D:Nat}(hd: ∀ nm z,look nm=some z→z.2.2≤D): ∀ (ns:List (List UInt8)) (acc:Nat × Nat × Nat),acc.2.2≤D+1→(ns.foldl (extraF look) acc).2.2≤D+1
 | [],acc,h=>h
 |n :: ns,acc,h=>by
  rw[List.foldl_cons]
  refine extra_deep hd ns _ ?_
  unfold extraF
  split
  · rename_i z hz
    have:=hd _ _ hz
    simp only
    omega
  · exact h
theorem steps_deep (l:List EntT): ∀ k i,(stepsV (sizeF (innerE l)) (0,0,0) k i).2.2≤k:=by
 intro k
 induction k with
 |zero=>intro i;exact Nat.le_refl _
 |succ k ih =>
  intro i
  show(sizeF (innerE l) (stepsV (sizeF (innerE l)) (0,0,0) k) i).2.2≤k+1
  unfold sizeF
  refine sizeT_deep fun nm z hz=> ?_
  unfold lookE at hz
  split at hz
  · cases hz;exact ih _
  · cases hz
theorem sizes_bound {l:List EntT}(hnl: ¬ loopsE l)(i:Nat)(hi:i<(innerE l).length):(sizesE l i).1≤9223372036854775807∧(sizesE l i).2.1≤9223372036854775807∧(sizesE l i).2.2≤(innerE l).length+1:=by
 refine⟨?_,?_,steps_deep l _ i⟩
 · rw[sizes_fix hnl i hi];exact(sizeT_le _ _).1
 · rw[sizes_fix hnl i hi];exact(sizeT_le _ _).2
theorem rfTextZ_c (A:Option Addr)(n cap:Nat)(g:List EntT)(ZA:Option Addr)(zcap:Nat)(zs:List (Nat × Nat × Nat))(D0:Nat)(s:List UInt8)(w:World)(h:RRd cE 6 w w.heap.size A n cap g)(hz:RRd cZ 3 w w.heap.size ZA n zcap zs)(hm:n≤1000)(hzb: ∀ z∈zs,z.1≤9223372036854775807∧z.2.1≤9223372036854775807∧z.2.2≤D0)(hD:D0≤1000000)(hs:s.length≤20000) :
 Calls Tryz.prog 45 #[.slice A n cap,.slice ZA n zcap,.string ⟨s.toArray⟩] w fun e w'=>e= .returned (.agg #[.int .i64 ((sizeT (lookE g (fun j=>zs.getD j (0,0,0))) s).1:Nat),.int .i64 ((sizeT (lookE g (fun j=>zs.getD j (0,0,0))) s).2.1:Nat),.int .i64 ((sizeT (lookE g (fun j=>zs.getD j (0,0,0))) s).2.2:Nat)])∧Below w.heap.size w w':=by
 have HZB:=Hd hzb
 obtain⟨lk,hlk⟩: ∃ f,lookE g (fun j=>zs.getD j (0,0,0))=f:=⟨_,rfl⟩
 have HLK:=Hd hlk
 rw[hlk]
 clear hlk
 have HLG:Hid (g.length=n):=Hd h.len
 have HLZ:Hid (zs.length=n):=Hd hz.len
 have HP:Hid (∀ W,Below w.heap.size w W→RRd cE 6 W W.heap.size A n cap g∧RRd cZ 3 W W.heap.size ZA n zcap zs):=Hd fun W hb=>⟨(h.below hb).more hb.size,(hz.below hb).more hb.size⟩
 have ka:=(Below.refl w.heap.size w).alloc (Nat.le_refl _) (.cells #[.int .i64 0,.int .i64 0,.int .i64 0] 37)
 have hq0:=hp_new w (.cells #[.int .i64 0,.int .i64 0,.int .i64 0] 37)
 have CA:=Hd (rfAll_c s (w.alloc (.cells #[.int .i64 0,.int .i64 0,.int .i64 0] 37)) hs)
 have hsz:(⟨s.toArray⟩:ByteArray).size=s.length:=by simp[ByteArray.size]
 have KA:=Hd ka
 have HQ0:=Hd hq0
 have hql:=rfsA_len s s.length 0 (by omega)
 clear h hz hzb ka hq0
 go_enter Tryz.func45,Tryz.ntmps45
 go_wp2_with fail
 refine CA.out.mono ?_
 rintro e w1 ⟨OA,oc,rfl,ho,hb1⟩
 obtain⟨A1,c1,hv1,hr1⟩:=OwnC.rrd (c:=cRf) (k:=3) (fun _=>rfl) (by decide) ho
 cases hv1
 have KB:=Hd (KA.out.trans (hb1.mono KA.out.size))
 have HQ1:Hid (w1.heap[w.heap.size]? =some (.cells #[.int .i64 0,.int .i64 0,.int .i64 0] 37 (0,0))):=Hd ((hb1.block _ (by simp)).trans HQ0.out)
 have HRf:Hid (∀ W,Below w1.heap.size w1 W→RRd cRf 3 W W.heap.size OA (rfsA s 0).length oc (rfsA s 0)):=Hd fun W hb=>(hr1.below hb).more hb.size
 obtain⟨q,hq⟩: ∃ q,(rfsA s 0).length=q:=⟨_,rfl⟩
 have HQL:=Hd hq
 rw[hq]at HRf hql
 rw[hq]
 clear CA ho hb1 hr1 KA HQ0 hq
 have HC0:Hid (CJ 37 w1 (w1.alloc (.cells #[.int .i64 (s.length:Nat),.int .i64 0,.int .i64 0] 37)) #[.int .i64 ((s.length:Nat):Int),.int .i64 ((0:Nat):Int),.int .i64 ((0:Nat):Int)]):=Hd (CJ.start _ _ _)
 have HD0:Hid (((s.length:Nat):Int)=(leftK lk s 0:Nat)∧docK lk s 0=(s.length,0,0)):=Hd ⟨by rw[(doc_zero lk s (by omega)).2],(doc_zero lk s (by omega)).1⟩
 go_wp2_with fail
 go_loopg [8,10] (q) (fun gg nv iv wr=> ∃ (k:Nat) (N:Int) (cK L Dd:Nat),nv= .int .i64 N∧iv= .int .i64 (k:Int)∧k≤q∧Hid (gg+k=q)∧0≤N∧N≤20000+(k:Int)∧Hid (cK≤9223372036854775807∧L≤9223372036854775807∧Dd≤D0+1)∧Hid (N=(leftK lk s k:Nat)∧docK lk s k=(cK,L,Dd))∧Hid (CJ 37 w1 wr #[.int .i64 ((cK:Nat):Int),.int .i64 ((L:Nat):Int),.int .i64 ((Dd:Nat):Int)]))
 case atStart=>exact⟨0,_,s.length,0,0,rfl,rfl,Nat.zero_le _,Hd rfl,by omega,by omega,Hd ⟨by omega,Nat.zero_le _,Nat.zero_le _⟩,HD0,HC0⟩
 case round =>
  clear HC0 HD0
  obtain⟨k,N,cK,L,Dd,rfl,rfl,hk,hgk,hN1,hN2,HLD,HDK,HC⟩:=hrel
  have hk0:(0:Int)≤(k:Int):=by omega
  have hk9:(k:Int)≤20000:=by omega
  have hcK9:cK≤9223372036854775807:=HLD.out.1
  by_cases hkq:k<q
  · have hki:(k:Int)<(q:Int):=by omega
    obtain⟨rb,ro,r,rfl,hrb,hr,hrc⟩:=(HRf.out wr HC.out.1).cell hkq
    have HRR:=Hd hr
    obtain⟨f0,t0,nm⟩:=r
    have HFW:Hid (∀ W cs,CJ 37 w1 W cs→W.cell? ⟨rb,ro+k*3,none⟩=some (.int .i64 (f0:Nat))∧W.cell? ⟨rb,ro+k*3+1,none⟩=some (.int .i64 (t0:Nat))∧W.cell? ⟨rb,ro+k*3+2,none⟩=some (.string ⟨nm.toArray⟩)∧Below w.heap.size w W):=Hd fun W cs hW=>by
     obtain⟨rb',ro',r',eA,hrb',hr',hrc'⟩:=(HRf.out W hW.1).cell hkq
     cases eA
     rw[hr]at hr'
     cases hr'
     exact⟨by have:=hrc' 0 _ rfl;rwa [show ro+(k*3+0)=ro+k*3 by omega]at this,by have:=hrc' 1 _ rfl;rwa [show ro+(k*3+1)=ro+k*3+1 by omega]at this,by have:=hrc' 2 _ rfl;rwa [show ro+(k*3+2)=ro+k*3+2 by omega]at this,KB.out.trans (hW.1.mono KB.out.size)⟩
    have hft:f0≤t0∧t0≤s.length:=by
     obtain⟨k9,_,h2,h3,h4⟩:=rfsA_sub s s.length 0 (by omega) _ (List.mem_of_getElem? hr)
     have h5:=refOut_nx s k9 h4
     simp only[Prod.mk.injEq]at h3
     omega
    have hf9:(f0:Int)≤(t0:Int):=by omega
    have ht9:(t0:Int)≤20000:=by omega
    have hf0:(0:Int)≤(f0:Int):=by omega
    obtain⟨u0,u1,u2,hbw⟩:=HFW.out _ _ HC.out
    have FD:=Hd (rfFindE_c A n cap g nm wr (HP.out wr hbw).1 (by omega))
    clear hrb hr hrc hbw
    by_cases hmem:nm∈g.map EntT.nm
    · obtain⟨ix,hix⟩: ∃ i,(g.map EntT.nm).idxOf nm=i:=⟨_,rfl⟩
      have hfn:fndN (g.map EntT.nm) nm=(ix:Int):=by unfold fndN;rw[if_pos hmem,hix]
      have hixn:ix<n:=by rw[← HLG.out,← hix];have:=List.idxOf_lt_length_iff.2 hmem;simpa using this
      rw[hfn]at FD
      have hix0:(ix:Int)≥0:=by omega
      have hix1:(0:Int)≤(ix:Int):=by omega
      have hix2:(ix:Int)<(n:Int):=by omega
      obtain⟨zb,zo,z,hZA,hzb',hzi,hzc⟩:=(HP.out wr (HFW.out _ _ HC.out).2.2.2).2.cell hixn
      subst hZA
      obtain⟨z0,z1,z2⟩:=z
      have hzz:=HZB.out _ (List.mem_of_getElem? hzi)
      simp only at hzz
      have HZW:Hid (∀ W cs,CJ 37 w1 W cs→W.cell? ⟨zb,zo+ix*3,none⟩=some (.int .i64 (z0:Nat))∧W.cell? ⟨zb,zo+ix*3+1,none⟩=some (.int .i64 (z1:Nat))∧W.cell? ⟨zb,zo+ix*3+2,none⟩=some (.int .i64 (z2:Nat))):=Hd fun W cs hW=>by
       obtain⟨zb',zo',z',eA,hb',hr',hrc'⟩:=(HP.out W (HFW.out _ _ hW).2.2.2).2.cell hixn
       cases eA
       rw[hzi]at hr'
       cases hr'
       exact⟨by have:=hrc' 0 _ rfl;rwa [show zo+(ix*3+0)=zo+ix*3 by omega]at this,by have:=hrc' 1 _ rfl;rwa [show zo+(ix*3+1)=zo+ix*3+1 by omega]at this,by have:=hrc' 2 _ rfl;rwa [show zo+(ix*3+2)=zo+ix*3+2 by omega]at this⟩
      have hrz:lk nm=some (z0,z1,z2):=by
       rw[← HLK.out]
       unfold lookE
       rw[if_pos hmem,hix]
       show some (zs.getD ix (0,0,0))=some (z0,z1,z2)
       rw[List.getD_eq_getElem?_getD,hzi]
       rfl
      have HSN:Hid (N - ((t0:Int) - (f0:Int))=(leftK lk s (k+1):Nat)∧docK lk s (k+1)=(satN (cK+z0),satN (L+z1),max Dd (z2+1))):=Hd (by
       have h1:=doc_some HRR.out hrz
       rw[HDK.out.2]at h1
       refine⟨?_,h1.1⟩
       have h2:=h1.2
       have h3:=HDK.out.1
       simp only at h2
       omega)
      have hNN:0≤N - ((t0:Int) - (f0:Int)):=by have:=HSN.out.1;omega
      have HADD:=Hd fun(x y:Nat) hx hy W=>rAdd_c x y hx hy W
      have hL9:=HLD.out
      clear hmem hix hfn hrz hzi hzc hzb'
      go_wp2_with fail
      refine FD.out.mono ?_
      rintro e wq ⟨rfl,rfl⟩
      go_wp2_with fail
      go_quiet (fail)
      have HC1:Hid (CJ 37 w1 (wr.drewN nq) #[.int .i64 ((cK:Nat):Int),.int .i64 ((L:Nat):Int),.int .i64 ((Dd:Nat):Int)]):=Hd (HC.out.kept (below_drewN' (Below.refl _ _)))
      clear u0 u1 u2 HC FD
      generalize wr.drewN nq=W1 at *
      go_wp2_with fail
      have HC1d:=Hd HC1.out.drew
      have v0:=cell_of 0 HC1d.out.2
      have fr0:=free_of 0 HC1d.out.2
      obtain⟨zz0,zz1,zz2⟩:=HZW.out _ _ HC1d.out
      have AD:=Hd (HADD.out cK z0 hcK9 hzz.1 W1.drew)
      refine wp_region_still_tail 9 (by kernel_rfl) (by kernel_rfl) ?_
      simp only[List.take_succ_cons,List.take_zero,List.drop_succ_cons,List.drop_zero]
      repeat still_step
      still_call (AD.out.mono fun e w' ⟨he,hw⟩=>⟨he,hw.symm⟩)
      repeat still_step
      refine wpStill_nil ?_
      change wpList _ _ _ _ _ W1.drew
      have HC1e:=HC1d
      clear HC1d HC1 zz0 zz1 zz2 AD
      generalize W1.drew=W1d at *
      go_wp2_with fail
      have HC2:Hid (CJ 37 w1 (W1d.setCell ⟨w1.heap.size,0,none⟩ (.int .i64 ((satN (cK+z0):Nat):Int))) #[.int .i64 ((satN (cK+z0):Nat):Int),.int .i64 ((L:Nat):Int),.int .i64 ((Dd:Nat):Int)]):=Hd (HC1e.out.set 0 _)
      clear HC1e v0 fr0
      generalize W1d.setCell ⟨w1.heap.size,0,none⟩ (.int .i64 ((satN (cK+z0):Nat):Int))=W2 at *
      go_wp2_with fail
      have HC2d:=Hd HC2.out.drew
      have v0:=cell_of 1 HC2d.out.2
      have fr0:=free_of 1 HC2d.out.2
      obtain⟨zz0,zz1,zz2⟩:=HZW.out _ _ HC2d.out
      have AD:=Hd (HADD.out L z1 hL9.2.1 hzz.2.1 W2.drew)
      refine wp_region_still_tail 9 (by kernel_rfl) (by kernel_rfl) ?_
      simp only[List.take_succ_cons,List.take_zero,List.drop_succ_cons,List.drop_zero]
      repeat still_step
      still_call (AD.out.mono fun e w' ⟨he,hw⟩=>⟨he,hw.symm⟩)
      repeat still_step
      refine wpStill_nil ?_
      change wpList _ _ _ _ _ W2.drew
      have HC2e:=HC2d
      clear HC2d HC2 zz0 zz1 zz2 AD
      generalize W2.drew=W2d at *
      go_wp2_with fail
      have HC3:Hid (CJ 37 w1 (W2d.setCell ⟨w1.heap.size,1,none⟩ (.int .i64 ((satN (L+z1):Nat):Int))) #[.int .i64 ((satN (cK+z0):Nat):Int),.int .i64 ((satN (L+z1):Nat):Int),.int .i64 ((Dd:Nat):Int)]):=Hd (HC2e.out.set 1 _)
      clear HC2e v0 fr0
      generalize W2d.setCell ⟨w1.heap.size,1,none⟩ (.int .i64 ((satN (L+z1):Nat):Int))=W3 at *
      go_wp2_with fail
      have HC3d:=Hd HC3.out.drew
      have v0:=cell_of 2 HC3d.out.2
      have fr0:=free_of 2 HC3d.out.2
      obtain⟨zz0,zz1,zz2⟩:=HZW.out _ _ HC3d.out
      have hz29:(z2:Int)≤1000000:=by have:=hzz.2.2;omega
      have hmx:max (Dd:Int) ((z2:Int)+1)=((max Dd (z2+1):Nat):Int):=by omega
      refine wp_region_still_tail 10 (by kernel_rfl) (by kernel_rfl) ?_
      simp only[List.take_succ_cons,List.take_zero,List.drop_succ_cons,List.drop_zero]
      repeat still_step
      refine wpStill_nil ?_
      change wpList _ _ _ _ _ W3.drew
      have HC3e:=HC3d
      clear HC3d HC3 zz0 zz1 zz2
      generalize W3.drew=W3d at *
      go_wp2_with fail
      have HC4:Hid (CJ 37 w1 (W3d.setCell ⟨w1.heap.size,2,none⟩ (.int .i64 ((max Dd (z2+1):Nat):Int))) #[.int .i64 ((satN (cK+z0):Nat):Int),.int .i64 ((satN (L+z1):Nat):Int),.int .i64 ((max Dd (z2+1):Nat):Int)]):=Hd (HC3e.out.set 2 _)
      go_roundg (q - (k+1))
      case measure=>have:=hgk.out;omega
      case rel=>exact⟨k+1,N - ((t0:Int) - (f0:Int)),satN (cK+z0),satN (L+z1),max Dd (z2+1),rfl,by go_num,by omega,Hd (by have:=hgk.out;omega),hNN,by omega,Hd ⟨satN_le _,satN_le _,by have:=hL9.2.2;have:=hzz.2.2;omega⟩,HSN,HC4⟩
    · have hfn:fndN (g.map EntT.nm) nm= -1:=by unfold fndN;rw[if_neg hmem]
      have hrz:lk nm=none:=by rw[← HLK.out];unfold lookE;rw[if_neg hmem]
      have HSN1:Hid (0<knownOf ⟨nm.toArray⟩→N - ((t0:Int) - (f0:Int))+1=(leftK lk s (k+1):Nat)∧docK lk s (k+1)=(cK,L,Dd)):=Hd (fun h0=>by
       have h1:=doc_known HRR.out hrz h0
       rw[HDK.out.2]at h1
       refine⟨?_,h1.1⟩
       have h2:=h1.2
       have h3:=HDK.out.1
       simp only at h2
       omega)
      have HSN2:Hid (¬ 0<knownOf ⟨nm.toArray⟩→N=(leftK lk s (k+1):Nat)∧docK lk s (k+1)=(cK,L,Dd)):=Hd (fun h0=>by
       have h1:=doc_other HRR.out hrz h0
       rw[HDK.out.2]at h1
       exact⟨by rw[h1.2];exact HDK.out.1,h1.1⟩)
      rw[hfn]at FD
      have CK:=Hd fun W=>refKnown_c ⟨nm.toArray⟩ W
      have hk255:knownOf ⟨nm.toArray⟩≤255:=by unfold knownOf;(repeat' split) <;> omega
      generalize knownOf ⟨nm.toArray⟩=kn at *
      clear hmem hfn hrz
      by_cases hk0:0<kn
      · have hkp:(0:Int)<(kn:Int):=by omega
        have hk9:(kn:Int)≤255:=by omega
        go_wp2_with fail
        refine FD.out.mono ?_
        rintro e wq ⟨rfl,rfl⟩
        go_wp2_with fail
        refine(CK.out _).mono ?_
        rintro e wq ⟨rfl,rfl⟩
        go_wp2_with fail
        go_quiet (fail)
        have HC1:Hid (CJ 37 w1 (wr.drewN nq) #[.int .i64 ((cK:Nat):Int),.int .i64 ((L:Nat):Int),.int .i64 ((Dd:Nat):Int)]):=Hd (HC.out.kept (below_drewN' (Below.refl _ _)))
        have HSN:=Hd (HSN1.out hk0)
        have hNN:0≤N - ((t0:Int) - (f0:Int))+1:=by have:=HSN.out.1;omega
        clear u0 u1 u2 HC FD CK
        generalize wr.drewN nq=W1 at *
        go_wp2
        go_roundg (q - (k+1))
        case measure=>have:=hgk.out;omega
        case rel=>exact⟨k+1,N - ((t0:Int) - (f0:Int))+1,cK,L,Dd,by go_num,by go_num,by omega,Hd (by have:=hgk.out;omega),hNN,by omega,HLD,HSN,HC1⟩
      · have hkp: ¬ (0:Int)<(kn:Int):=by omega
        have HSN:=Hd (HSN2.out hk0)
        go_wp2_with fail
        refine FD.out.mono ?_
        rintro e wq ⟨rfl,rfl⟩
        go_wp2_with fail
        refine(CK.out _).mono ?_
        rintro e wq ⟨rfl,rfl⟩
        go_wp2
        go_roundg (q - (k+1))
        case measure=>have:=hgk.out;omega
        case rel=>exact⟨k+1,N,cK,L,Dd,rfl,by go_num,by omega,Hd (by have:=hgk.out;omega),hN1,by omega,HLD,HSN,HC⟩
  · have hki: ¬ (k:Int)<(q:Int):=by omega
    obtain rfl:k=q:=by omega
    obtain⟨N',rfl⟩: ∃ N':Nat,N=(N':Int):=⟨N.toNat,by omega⟩
    have HCT:Hid (sizeT lk s=(cK,satN (L+N'),Dd)):=Hd (by
      rw[← doc_end,HQL.out,HDK.out.2]
      have:=HDK.out.1
      rw[show leftK lk s k=N' by omega])
    have HAD:=Hd fun W=>rAdd_c L N' HLD.out.2.1 (by omega) W
    obtain⟨L',hL'⟩: ∃ L',satN (L+N')=L':=⟨_,rfl⟩
    rw[hL']at HAD HCT
    clear hL'
    have v0:=cell_of 1 HC.out.2
    have fr0:=free_of 1 HC.out.2
    have HQ2:Hid (∀ W cs,CJ 37 w1 W cs→W.heap[w.heap.size]? =some (.cells #[.int .i64 0,.int .i64 0,.int .i64 0] 37 (0,0))):=Hd fun W cs hW=>(hW.1.block _ (lt_of HQ1.out)).trans HQ1.out
    go_wp2_with fail
    refine(HAD.out _).mono ?_
    rintro e wq ⟨rfl,rfl⟩
    go_upto_region 16 with fail
    have HC2:Hid (CJ 37 w1 (wr.setCell ⟨w1.heap.size,1,none⟩ (.int .i64 ((L':Nat):Int))) #[.int .i64 ((cK:Nat):Int),.int .i64 ((L':Nat):Int),.int .i64 ((Dd:Nat):Int)]):=Hd (HC.out.set 1 _)
    clear v0 fr0 HC
    generalize wr.setCell ⟨w1.heap.size,1,none⟩ (.int .i64 ((L':Nat):Int))=W4 at *
    have jq:=HC2.out.2
    have hq2:=HQ2.out _ _ HC2.out
    have hi:(Tryz.prog.info? 37).map (·.size)=some 3:=by kernel_rfl
    obtain⟨d,hu⟩:=isStruct_of (P:=Tryz.prog) (t:=37) (by kernel_rfl)
    have HU:=Hd (And.intro hi hu)
    have HQ3:Hid ((W4.setRow w.heap.size #[.int .i64 ((cK:Nat):Int),.int .i64 ((L':Nat):Int),.int .i64 ((Dd:Nat):Int)]).heap[w.heap.size]? =some (.cells #[.int .i64 ((cK:Nat):Int),.int .i64 ((L':Nat):Int),.int .i64 ((Dd:Nat):Int)] 37 (0,0))):=Hd (setRow_heap _ _ _ _ _ _ hq2)
    have HBF:Hid (Below w.heap.size w (W4.setRow w.heap.size #[.int .i64 ((cK:Nat):Int),.int .i64 ((L':Nat):Int),.int .i64 ((Dd:Nat):Int)])):=Hd (by
      have hb9:Below w.heap.size w W4:=KB.out.trans (HC2.out.1.mono KB.out.size)
      refine⟨hb9.os,hb9.tape,hb9.output,?_,fun k hk=> ?_⟩
      · have:=hb9.size
        simpa [World.setRow] using this
      · rw[setRow_other _ _ _ _ (by omega)]
        exact hb9.block k hk)
    clear hi hu HC2 HQ2
    go_wp2_with (first|(refine wpList_load_row rfl _ _ rfl w1.heap.size rfl _ _ _ _ jq HU.out.2 rfl HU.out.1 ?_)|(refine wpList_store_row rfl _ _ _ rfl w.heap.size #[.int .i64 ((cK:Nat):Int),.int .i64 ((L':Nat):Int),.int .i64 ((Dd:Nat):Int)] rfl rfl _ _ hq2 (by kernel_rfl) rfl (by kernel_rfl) ?_))
    (try simp only[Exit.inBlock,Exit.then])
    exact bodyPost_ret (results_cell_row rfl _ _ w.heap.size _ _ _ _ rfl HQ3.out HU.out.2 rfl HU.out.1) rfl ⟨by rw[HCT.out],HBF.out⟩
end Go.Proofs.YtbafljibbabnaaaGreatDoor
