/- Texts of ours, joined: GrP, RfP, RowC, RfA. -/
import Derived.DeepKeys4
import Derived.MapViews
import Derived.Maps.Keyed
import Derived.Test.YtbafljibbabnaaaGreatDoorQ8
import Derived.Test.YtbafljibbabnaaaGreatDoorQ9
namespace Go.Proofs.YtbafljibbabnaaaGreatDoor
open Go.ChangeShapes Go.WideShapes Go.ChangeAt Go.RowKit
set_option linter.unusedVariables false
set_option maxRecDepth 100000
set_option maxHeartbeats 32000000
def wayN (g:List (List Nat)):Nat→Nat→Nat→Prop
 |0,i,j=> ∃ t,g[i]? =some t∧j∈t
 |n+1,i,j=> ∃ m,wayN g n i m∧ ∃ t,g[m]? =some t∧j∈t
def Way (g:List (List Nat))(i j:Nat):Prop:= ∃ n,wayN g n i j
theorem Way.one {g:List (List Nat)}{i j:Nat}{t:List Nat}(h:g[i]? =some t)(hj:j∈t):Way g i j:=⟨0,t,h,hj⟩
theorem Way.more {g:List (List Nat)}{i j k:Nat}{t:List Nat}(h:Way g i j)(ht:g[j]? =some t)(hk:k∈t):Way g i k:=by
 obtain⟨n,h⟩:=h
 exact⟨n+1,j,h,t,ht,hk⟩
theorem Way.closed {g:List (List Nat)}{i j:Nat}{S:Nat→Prop}(h:Way g i j)(h0: ∀ t,g[i]? =some t→ ∀ k∈t,S k)(h1: ∀ m t,S m→g[m]? =some t→ ∀ k∈t,S k):S j:=by
 obtain⟨n,h⟩:=h
 induction n generalizing j with
 |zero =>
  obtain⟨t,ht,hj⟩:=h
  exact h0 t ht j hj
 |succ n ih =>
  obtain⟨m,hm,t,ht,hj⟩:=h
  exact h1 m t (ih hm) ht j hj
theorem Way.lt {g:List (List Nat)}{i j:Nat}(h:Way g i j):i<g.length:=by
 by_cases hi:i<g.length
 · exact hi
 · have:=Way.closed (S:=fun _=>False) h (fun t ht=>by rw[List.getElem?_eq_none (by omega)]at ht;cases ht) (fun m t h=>h.elim)
   exact this.elim
def okG (g:List (List Nat)):Prop:= ∀ (i:Nat) (t:List Nat),g[i]? =some t→ ∀ j∈t,j<g.length
def edgeL (src i:Nat)(tq:List Bool)(j:Nat):List Bool:=if (decide (i=src) || tq.getD i false)=true then tq.set j true else tq
def rowsL (g:List (List Nat))(src:Nat)(tq:List Bool):Nat→List Bool
 |0=>tq
 |k+1=>(g.getD k []).foldl (edgeL src k) (rowsL g src tq k)
def roundsL (g:List (List Nat))(src:Nat)(tq:List Bool):Nat→List Bool
 |0=>tq
 |m+1=>rowsL g src (roundsL g src tq m) g.length
def leadsL (g:List (List Nat))(src:Nat):List Bool:=roundsL g src (List.replicate g.length false) (g.length+1)
theorem edgeL_len (src i:Nat)(tq:List Bool)(j:Nat):(edgeL src i tq j).length=tq.length:=by unfold edgeL;split <;> simp
theorem edges_len (src i:Nat)(t:List Nat): ∀ tq:List Bool,(t.foldl (edgeL src i) tq).length=tq.length:=by
 induction t with
 |nil=>intro tq;rfl
 |cons j t ih=>intro tq;rw[List.foldl_cons,ih,edgeL_len]
theorem rowsL_len (g:List (List Nat))(src:Nat)(tq:List Bool)(k:Nat):(rowsL g src tq k).length=tq.length:=by
 induction k with
 |zero=>rfl
 |succ k ih=>rw [rowsL,edges_len,ih]
theorem roundsL_len (g:List (List Nat))(src:Nat)(tq:List Bool)(m:Nat):(roundsL g src tq m).length=tq.length:=by
 induction m with
 |zero=>rfl
 |succ m ih=>rw [roundsL,rowsL_len,ih]
theorem leadsL_len (g:List (List Nat))(src:Nat):(leadsL g src).length=g.length:=by unfold leadsL;rw[roundsL_len];simp
def Sound (g:List (List Nat))(src:Nat)(tq:List Bool):Prop:= ∀ j,tq.getD j false=true→Way g src j
theorem edge_sound {g:List (List Nat)}{src i j:Nat}{t:List Nat}{tq:List Bool}(h:Sound g src tq)(ht:g[i]? =some t)(hj:j∈t):Sound g src (edgeL src i tq j):=by
 intro k hk
 unfold edgeL at hk
 split at hk
 · rename_i hc
   by_cases hkj:k=j
   · subst hkj
     rw[Bool.or_eq_true,decide_eq_true_eq]at hc
     rcases hc with rfl|hc
     · exact .one ht hj
     · exact(h i hc).more ht hj
   · rw[List.getD_eq_getElem?_getD,List.getElem?_set_ne (by omega),← List.getD_eq_getElem?_getD]at hk
     exact h k hk
 · exact h k hk
theorem edges_sound {g:List (List Nat)}{src i:Nat}{t:List Nat}(ht:g[i]? =some t): ∀ (u:List Nat) (tq:List Bool),(∀ j∈u,j∈t)→Sound g src tq→Sound g src (u.foldl (edgeL src i) tq):=by
 intro u
 induction u with
 |nil=>intro tq _ h;exact h
 |cons j u ih =>
  intro tq hu h
  rw[List.foldl_cons]
  exact ih _ (fun k hk=>hu k (List.mem_cons_of_mem _ hk)) (edge_sound h ht (hu j List.mem_cons_self))
theorem rows_sound {g:List (List Nat)}{src:Nat}{tq:List Bool}(h:Sound g src tq)(k:Nat)(hk:k≤g.length):Sound g src (rowsL g src tq k):=by
 induction k with
 |zero=>exact h
 |succ k ih =>
  have ht:g[k]? =some (g.getD k []):=by rw[List.getD_eq_getElem?_getD,List.getElem?_eq_getElem (by omega)];rfl
  exact edges_sound ht _ _ (fun j hj=>hj) (ih (by omega))
theorem rounds_sound {g:List (List Nat)}{src:Nat}{tq:List Bool}(h:Sound g src tq)(m:Nat):Sound g src (roundsL g src tq m):=by
 induction m with
 |zero=>exact h
 |succ m ih=>exact rows_sound ih _ (Nat.le_refl _)
theorem leads_sound (g:List (List Nat))(src j:Nat)(h:(leadsL g src).getD j false=true):Way g src j:=by
 refine rounds_sound (fun k hk=> ?_) _ j h
 rw[List.getD_eq_getElem?_getD,List.getElem?_replicate]at hk
 split at hk <;> simp at hk
def cntB (tq:List Bool):Nat:=tq.countP id
theorem cnt_set (tq:List Bool)(j:Nat):tq.set j true=tq∨cntB tq<cntB (tq.set j true):=by
 unfold cntB
 induction tq generalizing j with
 |nil=>left;rfl
 |cons b tq ih =>
  cases j with
  |zero =>
   cases b with
   |true=>left;rfl
   |false=>right;simp
  |succ j =>
   rcases ih j with h|h
   · left;simp[h]
   · right
     simp only[List.set_cons_succ,List.countP_cons]
     omega
theorem edge_dich (src i:Nat)(tq:List Bool)(j:Nat):edgeL src i tq j=tq∨cntB tq<cntB (edgeL src i tq j):=by
 unfold edgeL
 split
 · exact cnt_set tq j
 · exact .inl rfl
theorem fold_dich {α β:Type}(c:α→Nat)(f:α→β→α)(hf: ∀ a x,f a x=a∨c a<c (f a x)): ∀ (l:List β) (a:α),(l.foldl f a=a∧ ∀ x∈l,f a x=a)∨c a<c (l.foldl f a):=by
 intro l
 induction l with
 |nil=>intro a;exact .inl ⟨rfl,fun x hx=>by cases hx⟩
 |cons x l ih =>
  intro a
  rw[List.foldl_cons]
  rcases hf a x with h|h
  · rw[h]
    rcases ih a with ⟨h1,h2⟩|h1
    · exact .inl ⟨h1,fun y hy=>by rcases List.mem_cons.1 hy with rfl|hy;exact h;exact h2 y hy⟩
    · exact .inr h1
  · rcases ih (f a x)with ⟨h1,_⟩|h1
    · rw[h1];exact .inr h
    · exact .inr (by omega)
theorem rows_dich (g:List (List Nat))(src:Nat)(tq:List Bool)(k:Nat):(rowsL g src tq k=tq∧ ∀ i,i<k→ ∀ j∈g.getD i [],edgeL src i tq j=tq)∨cntB tq<cntB (rowsL g src tq k):=by
 induction k with
 |zero=>exact .inl ⟨rfl,fun i hi=>by omega⟩
 |succ k ih =>
  rw[rowsL]
  rcases ih with ⟨h1,h2⟩|h1
  · rw[h1]
    rcases fold_dich cntB (edgeL src k) (edge_dich src k) (g.getD k []) tq with ⟨h3,h4⟩|h3
    · refine .inl ⟨h3,fun i hi=> ?_⟩
      by_cases hik:i=k
      · subst hik;exact h4
      · exact h2 i (by omega)
    · exact .inr h3
  · rcases fold_dich cntB (edgeL src k) (edge_dich src k) (g.getD k []) (rowsL g src tq k)with ⟨h3,_⟩|h3
    · rw[h3];exact .inr h1
    · exact .inr (by omega)
theorem rounds_dich (g:List (List Nat))(src:Nat)(tq:List Bool)(m:Nat):(∃ k,k<m∧rowsL g src (roundsL g src tq k) g.length=roundsL g src tq k)∨m≤cntB (roundsL g src tq m):=by
 induction m with
 |zero=>exact .inr (Nat.zero_le _)
 |succ m ih =>
  rcases ih with ⟨k,hk,h⟩|h
  · exact .inl ⟨k,by omega,h⟩
  · rcases rows_dich g src (roundsL g src tq m) g.length with ⟨h1,_⟩|h1
    · exact .inl ⟨m,by omega,h1⟩
    · right;rw[roundsL];omega
theorem rounds_stay (g:List (List Nat))(src:Nat)(tq:List Bool)(k:Nat)(h:rowsL g src (roundsL g src tq k) g.length=roundsL g src tq k)(m:Nat):roundsL g src tq (k+m)=roundsL g src tq k:=by
 induction m with
 |zero=>rfl
 |succ m ih=>rw [show k+(m+1)=(k+m)+1 by omega,roundsL,ih,h]
theorem leads_fix (g:List (List Nat))(src:Nat):rowsL g src (leadsL g src) g.length=leadsL g src:=by
 unfold leadsL
 rcases rounds_dich g src (List.replicate g.length false) (g.length+1)with ⟨k,hk,h⟩|h
 · have h2:=rounds_stay g src _ k h (g.length+1 - k)
   rw[show k+(g.length+1 - k)=g.length+1 by omega]at h2
   rw[h2,h]
 · exfalso
   have h2:cntB (roundsL g src (List.replicate g.length false) (g.length+1))≤(roundsL g src (List.replicate g.length false) (g.length+1)).length:=List.countP_le_length
   rw[roundsL_len]at h2
   simp at h2
   omega
theorem leads_closed {g:List (List Nat)}(hg:okG g)(src i:Nat)(t:List Nat)(ht:g[i]? =some t)(hi:i=src∨(leadsL g src).getD i false=true)(j:Nat)(hj:j∈t):(leadsL g src).getD j false=true:=by
 have hlt:i<g.length:=(List.getElem?_eq_some_iff.1 ht).1
 have htD:g.getD i []=t:=by rw[List.getD_eq_getElem?_getD,ht];rfl
 rcases rows_dich g src (leadsL g src) g.length with ⟨_,h2⟩|h2
 · have h3:=h2 i hlt j (by rw[htD];exact hj)
   unfold edgeL at h3
   rw[if_pos (by rw[Bool.or_eq_true,decide_eq_true_eq];exact hi)]at h3
   have hjl:j<(leadsL g src).length:=by rw[leadsL_len];exact hg i t ht j hj
   rw[← h3,List.getD_eq_getElem?_getD,List.getElem?_set_self hjl]
   rfl
 · rw[leads_fix]at h2
   omega
theorem leads_iff {g:List (List Nat)}(hg:okG g)(src j:Nat):(leadsL g src).getD j false=true ↔ Way g src j :=
 ⟨leads_sound g src j,fun h=>h.closed (S:=fun j=>(leadsL g src).getD j false=true) (fun t ht k hk=>leads_closed hg src src t ht (.inl rfl) k hk) (fun m t hm ht k hk=>leads_closed hg src m t ht (.inr hm) k hk)⟩
structure RInv (g:List (List Nat)) (src:Nat) (seen wait:List Nat):Prop where
 len:seen.length=g.length
 a: ∀ j,(0<seen.getD j 0∨j∈wait)→Way g src j
 b: ∀ t,g[src]? =some t→ ∀ j∈t,0<seen.getD j 0∨j∈wait
 c: ∀ i t,0<seen.getD i 0→g[i]? =some t→ ∀ j∈t,0<seen.getD j 0∨j∈wait
theorem RInv.begin (g:List (List Nat))(src:Nat)(t:List Nat)(ht:g[src]? =some t):RInv g src (List.replicate g.length 0) t:=by
 have hz: ∀ j,(List.replicate g.length 0).getD j 0=0:=fun j=>by rw[List.getD_eq_getElem?_getD,List.getElem?_replicate];split <;> rfl
 refine⟨by simp,fun j hj=> ?_,fun u hu j hj=> ?_,fun i u hi=> ?_⟩
 · rw[hz]at hj
   rcases hj with hj|hj
   · omega
   · exact .one ht hj
 · rw[ht]at hu
   cases hu
   exact .inr hj
 · rw[hz]at hi
   omega
theorem getD_set (l:List Nat)(i v j:Nat)(hi:i<l.length):(l.set i v).getD j 0=if j=i then v else l.getD j 0:=by
 rw[List.getD_eq_getElem?_getD]
 split
 · rename_i h
   subst h
   rw[List.getElem?_set_self hi]
   rfl
 · rename_i h
   rw[List.getElem?_set_ne (by omega),← List.getD_eq_getElem?_getD]
theorem RInv.next {g:List (List Nat)}{src i:Nat}{seen ws:List Nat}{t:List Nat}(hg:okG g)(h:RInv g src seen (ws++ [i]))(ht:g[i]? =some t) :
 RInv g src (seen.set i (seen.getD i 0+1)) (if seen.getD i 0=0 then ws++t else ws):=by
 have hi:i<seen.length:=by rw[h.len];exact(List.getElem?_eq_some_iff.1 ht).1
 have hw:Way g src i:=h.a i (.inr (by simp))
 have hold: ∀ j,(0<seen.getD j 0∨j∈ws++ [i])→0<(seen.set i (seen.getD i 0+1)).getD j 0∨j∈(if seen.getD i 0=0 then ws++t else ws):=by
  intro j hj
  rw[getD_set _ _ _ _ hi]
  by_cases hji:j=i
  · left;rw[if_pos hji];omega
  · rw[if_neg hji]
    rcases hj with hj|hj
    · exact .inl hj
    · right
      have:j∈ws:=by simpa [hji] using hj
      split
      · exact List.mem_append_left _ this
      · exact this
 refine⟨by rw[List.length_set];exact h.len,fun j hj=> ?_,fun u hu j hj=>hold j (h.b u hu j hj),fun k u hk hu j hj=> ?_⟩
 · rcases hj with hj|hj
   · rw[getD_set _ _ _ _ hi]at hj
     by_cases hji:j=i
     · rw[hji];exact hw
     · rw[if_neg hji]at hj
       exact h.a j (.inl hj)
   · split at hj
     · rcases List.mem_append.1 hj with hj|hj
       · exact h.a j (.inr (List.mem_append_left _ hj))
       · exact hw.more ht hj
     · exact h.a j (.inr (List.mem_append_left _ hj))
 · rw[getD_set _ _ _ _ hi]at hk
   by_cases hki:k=i
   · subst hki
     rw[ht]at hu
     cases hu
     by_cases h0:seen.getD k 0=0
     · right
       rw[if_pos h0]
       exact List.mem_append_right _ hj
     · exact hold j (h.c k t (by omega) ht j hj)
   · rw[if_neg hki]at hk
     exact hold j (h.c k u hk hu j hj)
theorem RInv.done {g:List (List Nat)}{src:Nat}{seen:List Nat}(h:RInv g src seen [])(j:Nat):0<seen.getD j 0 ↔ Way g src j :=
 ⟨fun hj=>h.a j (.inl hj),fun hw=>hw.closed (S:=fun j=>0<seen.getD j 0)
   (fun t ht k hk=>by rcases h.b t ht k hk with h|h;exact h;cases h)
   (fun m t hm ht k hk=>by rcases h.c m t hm ht k hk with h|h;exact h;cases h)⟩
structure OInv (g:List (List Nat)) (told l:List Nat):Prop where
 len:told.length=g.length
 cnt:told.countP (fun n=>n != 0)=l.length
 t: ∀ i,told.getD i 0≠0 ↔ i∈l
 top: ∀ (k i:Nat),l[k]? =some i→ ∀ t,g[i]? =some t→ ∀ j∈t,j∈l.take k
theorem countP_zero (n:Nat):(List.replicate n 0).countP (fun n=>n != 0)=0:=by
 induction n with
 |zero=>rfl
 |succ n ih=>simp [List.replicate_succ,ih]
theorem OInv.begin (g:List (List Nat)):OInv g (List.replicate g.length 0) []:=by
 refine⟨by simp,countP_zero _,fun i=> ?_,fun k i h=>by simp at h⟩
 rw[List.getD_eq_getElem?_getD,List.getElem?_replicate]
 split <;> simp
theorem countP_set: ∀ (l:List Nat) (i:Nat),i<l.length→l.getD i 0=0→(l.set i 1).countP (fun n=>n != 0)=l.countP (fun n=>n != 0)+1:=by
 intro l
 induction l with
 |nil=>intro i h;simp at h
 |cons n l ih =>
  intro i hi h0
  cases i with
  |zero=>simp at h0;subst h0;simp
  |succ i =>
   simp only[List.getD_cons_succ]at h0
   simp only[List.length_cons]at hi
   have:=ih i (by omega) h0
   simp only[List.set_cons_succ,List.countP_cons,this]
   omega
theorem OInv.next {g:List (List Nat)}{told l:List Nat}{i:Nat}{t:List Nat}(h:OInv g told l)(ht:g[i]? =some t)(h0:told.getD i 0=0)(hf: ∀ j∈t,told.getD j 0≠0):OInv g (told.set i 1) (l++ [i]):=by
 have hi:i<told.length:=by rw[h.len];exact(List.getElem?_eq_some_iff.1 ht).1
 refine⟨by rw[List.length_set];exact h.len,by rw[countP_set _ _ hi h0,h.cnt];simp,fun j=> ?_,fun k j hk u hu m hm=> ?_⟩
 · rw[getD_set _ _ _ _ hi]
   by_cases hji:j=i
   · rw[if_pos hji];simp[hji]
   · rw[if_neg hji,h.t j];simp[hji]
 · by_cases hkl:k<l.length
   · rw[List.getElem?_append_left hkl]at hk
     rw[List.take_append_of_le_length (by omega)]
     exact h.top k j hk u hu m hm
   · have hk2:k=l.length:=by
      have:=(List.getElem?_eq_some_iff.1 hk).1
      simp at this
      omega
     subst hk2
     rw[List.getElem?_append_right (Nat.le_refl _)]at hk
     simp at hk
     subst hk
     rw[ht]at hu
     cases hu
     rw[List.take_append_of_le_length (Nat.le_refl _),List.take_length]
     exact(h.t m).1 (hf m hm)
theorem OInv.no {g:List (List Nat)}{told l:List Nat}(h:OInv g told l): ∀ (k i:Nat),l[k]? =some i→ ¬ Way g i i:=by
 intro k
 induction k using Nat.strongRecOn with
 |ind k ih =>
  intro i hk hw
  have hm:i∈l.take k:=hw.closed (S:=fun j=>j∈l.take k) (fun t ht j hj=>h.top k i hk t ht j hj) (fun m t hm ht j hj=>by
   obtain⟨k',hk'⟩:=List.mem_iff_getElem?.1 hm
   have hlt:k'<k:=by
    have:=(List.getElem?_eq_some_iff.1 hk').1
    simp at this
    omega
   rw[List.getElem?_take_of_lt hlt]at hk'
   have:=h.top k' m hk' t ht j hj
   exact(List.take_subset_take_left l (by omega)) this)
  obtain⟨k',hk'⟩:=List.mem_iff_getElem?.1 hm
  have hlt:k'<k:=by
   have:=(List.getElem?_eq_some_iff.1 hk').1
   simp at this
   omega
  rw[List.getElem?_take_of_lt hlt]at hk'
  exact ih k' hlt i hk' hw
theorem OInv.done {g:List (List Nat)}{told l:List Nat}(h:OInv g told l)(hl:l.length=g.length)(i:Nat): ¬ Way g i i:=by
 intro hw
 have hi:=hw.lt
 have hc:=h.cnt
 rw[hl,← h.len,List.countP_eq_length]at hc
 have h2:told.getD i 0≠0:=by
  have hit:i<told.length:=by rw[h.len];exact hi
  have:=hc told[i] (List.getElem_mem hit)
  rw[List.getD_eq_getElem?_getD,List.getElem?_eq_getElem hit]
  simpa using this
 obtain⟨k,hk⟩:=List.mem_iff_getElem?.1 ((h.t i).1 h2)
 exact h.no k i hk hw
theorem refOut_nx (l:List UInt8)(k:Nat)(h:(refOut 38 l k).2.2=0):k<(refOut 38 l k).2.1∧(refOut 38 l k).2.1≤l.length∧l[k]? =some 38:=by
 refine⟨(refOut_next 38 l k h).1,(refOut_next 38 l k h).2,?_⟩
 unfold refOut at h
 cases hc:l[k]? with
 |none=>rw [hc]at h;simp at h
 |some c =>
  rw[hc]at h
  by_cases e:c=38
  · rw[e]
  · simp[e]at h
def rfsF (l:List UInt8):Nat→Nat→List (Nat × Nat × List UInt8)
 |0,_=> []
 |f+1,k=>if l.length≤k then [] else if (refOut 38 l k).2.2=0 then (k,(refOut 38 l k).2.1,(refOut 38 l k).1) :: rfsF l f (refOut 38 l k).2.1 else rfsF l f (k+1)
theorem rfsF_fuel (l:List UInt8): ∀ (f f' k:Nat),l.length<k+f→l.length<k+f'→rfsF l f k=rfsF l f' k:=by
 intro f
 induction f with
 |zero=>intro f' k h h';cases f' <;> simp[rfsF];omega
 |succ f ih =>
  intro f' k h h'
  cases f' with
  |zero=>simp [rfsF];omega
  |succ f' =>
   unfold rfsF
   split
   · rfl
   · rename_i hk
     split
     · rename_i h0
       have:=(refOut_nx l k h0).1
       rw[ih f' _ (by omega) (by omega)]
     · exact ih f' _ (by omega) (by omega)
def rfsA (l:List UInt8)(k:Nat):List (Nat × Nat × List UInt8):=rfsF l (l.length+1 - k) k
theorem rfsA_end (l:List UInt8)(k:Nat)(h:l.length≤k):rfsA l k= []:=by
 unfold rfsA
 cases l.length+1 - k with
 |zero=>rfl
 |succ f=>unfold rfsF;rw[if_pos h]
theorem rfsA_ref (l:List UInt8)(k:Nat)(h0:(refOut 38 l k).2.2=0):rfsA l k=(k,(refOut 38 l k).2.1,(refOut 38 l k).1) :: rfsA l (refOut 38 l k).2.1:=by
 have hn:=refOut_nx l k h0
 have hk:=(List.getElem?_eq_some_iff.1 hn.2.2).1
 unfold rfsA
 rw[show l.length+1 - k=(l.length - k)+1 by omega,rfsF,if_neg (by omega),if_pos h0,rfsF_fuel l _ (l.length+1 - (refOut 38 l k).2.1) _ (by omega) (by omega)]
theorem rfsA_no (l:List UInt8)(k:Nat)(hk:k<l.length)(h0:(refOut 38 l k).2.2≠0):rfsA l k=rfsA l (k+1):=by
 unfold rfsA
 rw[show l.length+1 - k=(l.length - k)+1 by omega,rfsF,if_neg (by omega),if_neg h0,rfsF_fuel l _ (l.length+1 - (k+1)) _ (by omega) (by omega)]
theorem rfsA_skip (l:List UInt8)(k m:Nat)(h: ∀ i,k≤i→i<k+m→l[i]? ≠some 38)(hm:k+m≤l.length):rfsA l k=rfsA l (k+m):=by
 induction m with
 |zero=>rfl
 |succ m ih =>
  rw[ih (fun i h1 h2=>h i h1 (by omega)) (by omega),rfsA_no l (k+m) (by omega)]
  · rfl
  · intro e
    exact h (k+m) (by omega) (by omega) (refOut_nx l (k+m) e).2.2
theorem rfsA_none (l:List UInt8)(k:Nat)(h: ∀ i,k≤i→l[i]? ≠some 38):rfsA l k= []:=by
 by_cases hk:l.length≤k
 · exact rfsA_end l k hk
 · rw[rfsA_skip l k (l.length - k) (fun i h1 _=>h i h1) (by omega),rfsA_end l _ (by omega)]
theorem rfsA_len (l:List UInt8): ∀ (m k:Nat),l.length - k≤m→(rfsA l k).length≤l.length - k:=by
 intro m
 induction m with
 |zero=>intro k h;rw[rfsA_end l k (by omega)];simp
 |succ m ih =>
  intro k h
  by_cases hk:k<l.length
  · by_cases h0:(refOut 38 l k).2.2=0
    · rw[rfsA_ref l k h0]
      have hn:=refOut_nx l k h0
      have:=ih (refOut 38 l k).2.1 (by omega)
      simp only[List.length_cons]
      omega
    · rw[rfsA_no l k hk h0]
      have:=ih (k+1) (by omega)
      omega
  · rw[rfsA_end l k (by omega)];simp
def onceF (a:List (List UInt8))(x:List UInt8):List (List UInt8):=if x∈a then a else a++ [x]
def onceL (l:List (List UInt8)):List (List UInt8):=l.foldl onceF []
theorem once_le (l:List (List UInt8)): ∀ a:List (List UInt8),(l.foldl onceF a).length≤a.length+l.length:=by
 induction l with
 |nil=>intro a;simp
 |cons x l ih =>
  intro a
  rw[List.foldl_cons]
  have:=ih (onceF a x)
  have h2:(onceF a x).length≤a.length+1:=by unfold onceF;split <;> simp
  simp only[List.length_cons]
  omega
def rnames (l:List UInt8):List (List UInt8):=(rfsA l 0).map (fun r=>r.2.2)
def eachL (l:List UInt8):List (List UInt8):=onceL (rnames l)
theorem eachL_len (l:List UInt8):(eachL l).length≤l.length:=by
 have h1:=once_le (rnames l) []
 have h2:=rfsA_len l l.length 0 (by omega)
 unfold eachL onceL
 unfold rnames at h1 ⊢
 simp only[List.length_nil,List.length_map]at h1
 omega
structure EntT where
 nm:List UInt8
 tx:List UInt8
 out:Bool
 pub:List UInt8
 sys:List UInt8
 nt:List UInt8
def innerF (a:List EntT)(x:EntT):List EntT:=if x.out=true∨x.nm∈a.map EntT.nm then a else a++ [x]
def innerE (l:List EntT):List EntT:=l.foldl innerF []
def toE (names:List (List UInt8))(ws:List (List UInt8)):List Nat:=ws.filterMap (fun s=>if s∈names then some (names.idxOf s) else none)
def graphE (l:List EntT):List (List Nat):=(innerE l).map (fun x=>toE ((innerE l).map EntT.nm) (eachL x.tx))
theorem toE_lt (names ws:List (List UInt8)): ∀ j∈toE names ws,j<names.length:=by
 intro j hj
 unfold toE at hj
 obtain⟨s,_,hs⟩:=List.mem_filterMap.1 hj
 split at hs
 · rename_i h
   cases hs
   exact List.idxOf_lt_length_iff.2 h
 · cases hs
theorem toE_len (names ws:List (List UInt8)):(toE names ws).length≤ws.length:=List.length_filterMap_le _ _
theorem graphE_len (l:List EntT):(graphE l).length=(innerE l).length:=by simp[graphE]
theorem graphE_ok (l:List EntT):okG (graphE l):=by
 intro i t ht j hj
 rw[graphE_len]
 unfold graphE at ht
 rw[List.getElem?_map]at ht
 cases hx:(innerE l)[i]? with
 |none=>rw [hx]at ht;cases ht
 |some x =>
  rw[hx]at ht
  cases ht
  have:=toE_lt _ _ j hj
  simpa using this
theorem inner_len (l:List EntT): ∀ a:List EntT,(l.foldl innerF a).length≤a.length+l.length:=by
 induction l with
 |nil=>intro a;simp
 |cons x l ih =>
  intro a
  rw[List.foldl_cons]
  have h1:=ih (innerF a x)
  have h2:(innerF a x).length≤a.length+1:=by unfold innerF;split <;> simp
  simp only[List.length_cons]
  omega
def loopsE (l:List EntT):Prop:= ∃ i,Way (graphE l) i i
def OwnC {α:Type}(c:α→List Value)(k:Nat)(e:TypeId)(w:World)(base:Nat)(v:Value)(l:List α):Prop:=w.ownsRow base e k v l.length (l.flatMap c)
section
variable {α:Type} {c:α→List Value} {k:Nat} {e:TypeId} {w w':World} {base:Nat} {v:Value} {l:List α}
theorem OwnC.start (c:α→List Value)(k:Nat)(e:TypeId)(w:World)(base:Nat):OwnC c k e w base (.slice none 0 0) []:=⟨by simp,.inl ⟨rfl,rfl⟩⟩
theorem OwnC.form (h:OwnC c k e w base v l): ∃ A cp,v= .slice A l.length cp:=by
 obtain⟨hl,⟨hv,h0⟩|⟨g,cap,cur,hv,r⟩⟩:=h
 · exact⟨none,0,by rw[hv,h0]⟩
 · exact⟨_,cap,hv⟩
theorem OwnC.keep (h:OwnC c k e w base v l)(hk: ∀ g,base≤g→g<w.heap.size→w'.heap[g]? =w.heap[g]?):OwnC c k e w' base v l:=by
 obtain⟨hl,h2|⟨g,cap,cur,hv,hg,hh,r⟩⟩:=h
 · exact⟨hl,.inl h2⟩
 · exact⟨hl,.inr ⟨g,cap,cur,hv,hg,(hk g hg (lt_of hh)).trans hh,r⟩⟩
theorem OwnC.kept (h:OwnC c k e w base v l)(hb:Below w.heap.size w w'):OwnC c k e w' base v l:=h.keep fun g _ hg=>hb.block g hg
theorem OwnC.ge (h:OwnC c k e w base v l){b:Nat}(hb:v.ownBlock=some b):b<w.heap.size∧base≤b:=by
 obtain⟨hl,⟨hv,_⟩|⟨g,cap,cur,hv,hg,hh,r⟩⟩:=h
 · rw[hv]at hb;simp[Value.ownBlock]at hb
 · rw[hv]at hb
   simp[Value.ownBlock]at hb
   subst hb
   exact⟨lt_of hh,hg⟩
theorem OwnC.snoc {x:α}{v':Value}(h:w'.ownsRow base e k v' (l.length+1) (l.flatMap c++c x)):OwnC c k e w' base v' (l++ [x]):=by
 unfold OwnC
 rw[List.length_append,List.flatMap_append,List.flatMap_cons,List.flatMap_nil,List.append_nil]
 exact h
theorem OwnC.rrd (hk: ∀ x,(c x).length=k)(h0:0<k)(h:OwnC c k e w base v l): ∃ A cp,v= .slice A l.length cp∧RRd c k w w.heap.size A l.length cp l:=RRd.ofOwn hk h0 h
theorem ownsRow_type {w:World}{B:Nat}{e:TypeId}{c n:Nat}{v:Value}{xs:List Value}(h:w.ownsRow B e c v n xs){k:Nat}{o:Obj}(hk:w.heap[k]? =some o)(hT: ∀ vs f,o≠ .cells vs e f):some k≠v.ownBlock:=by
 obtain⟨hl,⟨hv,_⟩|⟨g,cap,cur,hv,hg,hh,r⟩⟩:=h
 · rw[hv];simp[Value.ownBlock]
 · rw[hv]
   intro e'
   simp[Value.ownBlock]at e'
   subst e'
   rw[hh]at hk
   cases hk
   exact hT _ _ rfl
theorem OwnC.grown (h:OwnC c k e w base v l){v2:Value}{B2 c2 n2:Nat}{e2:TypeId}{xs2:List Value}(h2:w.ownsRow B2 e2 c2 v2 n2 xs2)(hne:e≠e2)(hg:w.grownBy w' v2.ownBlock):OwnC c k e w' base v l:=by
 obtain⟨hl,h3|⟨g,cap,cur,hv,hgb,hh,r⟩⟩:=h
 · exact⟨hl,.inl h3⟩
 · refine⟨hl,.inr ⟨g,cap,cur,hv,hgb,?_,r⟩⟩
   rw[hg.block g (lt_of hh) (ownsRow_type h2 hh fun vs f e'=>by injection e' with _ e3 _;exact hne e3)]
   exact hh
end
def cE (x:EntT):List Value:= [.string ⟨x.nm.toArray⟩,.string ⟨x.tx.toArray⟩,.bool x.out,.string ⟨x.pub.toArray⟩,.string ⟨x.sys.toArray⟩,.string ⟨x.nt.toArray⟩]
def cI (n:Nat):List Value:= [.int .i64 (n:Nat)]
def cRf (r:Nat × Nat × List UInt8):List Value:= [.int .i64 (r.1:Nat),.int .i64 (r.2.1:Nat),.string ⟨r.2.2.toArray⟩]
def cS1 (s:List UInt8):List Value:= [.string ⟨s.toArray⟩]
theorem idx_le_at: ∀ (l:List (List UInt8)) (t:Nat) (x:List UInt8),l[t]? =some x→l.idxOf x≤t
 | [],t,x,h=>by simp at h
 |y :: l,0,x,h=>by
  simp at h
  subst h
  simp
 |y :: l,t+1,x,h=>by
  have:=idx_le_at l t x (by simpa using h)
  rw[List.idxOf_cons]
  cases (y==x) <;> simp <;> omega
def fndN (l:List (List UInt8))(s:List UInt8):Int:=if s∈l then (l.idxOf s:Nat) else -1
theorem eqvL (a b:List UInt8):(a==b)=decide (a=b):=by
 by_cases h:a=b
 · subst h;simp
 · simp[h]
theorem fndN_at {l:List EntT}{t:Nat}{x:EntT}{s:List UInt8}(e:x.nm=s)(hx:l[t]? =some x)(hn: ∀ i<t,∀ x,l[i]? =some x→x.nm≠s):fndN (l.map EntT.nm) s=(t:Int):=by
 subst e
 have hxt:(l.map EntT.nm)[t]? =some x.nm:=by rw[List.getElem?_map,hx];rfl
 have hmem:x.nm∈l.map EntT.nm:=List.mem_of_getElem? hxt
 unfold fndN
 rw[if_pos hmem]
 have h1:(l.map EntT.nm).idxOf x.nm≤t:=idx_le_at _ t x.nm hxt
 have h2:(l.map EntT.nm).idxOf x.nm<(l.map EntT.nm).length:=List.idxOf_lt_length_iff.2 hmem
 have h3: ¬ (l.map EntT.nm).idxOf x.nm<t:=fun h=>by
  have h4:(l.map EntT.nm)[(l.map EntT.nm).idxOf x.nm]? =some x.nm:=by rw[List.getElem?_eq_getElem h2];simp
  rw[List.getElem?_map]at h4
  cases hy:l[(l.map EntT.nm).idxOf x.nm]? with
  |none=>rw [hy]at h4;cases h4
  |some y =>
   rw[hy]at h4
   exact hn _ h y hy (by simpa using h4)
 omega
theorem fndN_no {l:List EntT}{s:List UInt8}(hn: ∀ i<l.length,∀ x,l[i]? =some x→x.nm≠s):fndN (l.map EntT.nm) s= -1:=by
 unfold fndN
 rw[if_neg]
 intro hm
 obtain⟨x,hx,he⟩:=List.mem_map.1 hm
 obtain⟨i,hi⟩:=List.mem_iff_getElem?.1 hx
 exact hn i (List.getElem?_eq_some_iff.1 hi).1 x hi he
theorem infoC_int: ∃ i,Tryz.prog.info? 3=some i∧i.zero=some (.int .i64 0)∧i.size=1∧i.bytes=8:=by
 obtain⟨i,h1,h2,h3,h4⟩:=info_parts (show(Tryz.prog.info? 3).map (fun i=>(i.zero,i.size,i.bytes))=some (some (.int .i64 0),1,8)by kernel_rfl)
 exact⟨i,h1,h2,h3,h4⟩
theorem infoC_ints: ∃ i,Tryz.prog.info? 100=some i∧i.zero=some (.slice none 0 0)∧i.size=1∧i.bytes=24:=by
 obtain⟨i,h1,h2,h3,h4⟩:=info_parts (show(Tryz.prog.info? 100).map (fun i=>(i.zero,i.size,i.bytes))=some (some (.slice none 0 0),1,24)by kernel_rfl)
 exact⟨i,h1,h2,h3,h4⟩
theorem infoC_ent: ∃ i,Tryz.prog.info? 43=some i∧i.zero=some (.agg #[.string ⟨#[]⟩,.string ⟨#[]⟩,.bool false,.string ⟨#[]⟩,.string ⟨#[]⟩,.string ⟨#[]⟩])∧i.size=6∧i.bytes=88:=by
 have h:(Tryz.prog.info? 43).map (fun i=>(i.zero,i.size,i.bytes))=some (some (.agg #[.string ⟨#[]⟩,.string ⟨#[]⟩,.bool false,.string ⟨#[]⟩,.string ⟨#[]⟩,.string ⟨#[]⟩]),6,88):=by kernel_rfl
 obtain⟨i,h1,h2,h3,h4⟩:=info_parts h
 exact⟨i,h1,h2,h3,h4⟩
theorem infoC_rf: ∃ i,Tryz.prog.info? 136=some i∧i.zero=some (.agg #[.int .i64 0,.int .i64 0,.string ⟨#[]⟩])∧i.size=3∧i.bytes=32:=by
 have h:(Tryz.prog.info? 136).map (fun i=>(i.zero,i.size,i.bytes))=some (some (.agg #[.int .i64 0,.int .i64 0,.string ⟨#[]⟩]),3,32):=by kernel_rfl
 obtain⟨i,h1,h2,h3,h4⟩:=info_parts h
 exact⟨i,h1,h2,h3,h4⟩
theorem rfFindE_c (A:Option Addr)(n cap:Nat)(l:List EntT)(s:List UInt8)(w:World)(h:RRd cE 6 w w.heap.size A n cap l)(hm:n≤1000000) :
 Calls Tryz.prog 24 #[.slice A n cap,.string ⟨s.toArray⟩] w fun e w'=>e= .returned (.int .i64 (fndN (l.map EntT.nm) s))∧w=w':=by
 have HP:=Hd h
 have HL:Hid (l.length=n):=Hd h.len
 clear h
 go_enter Tryz.func24,Tryz.ntmps24
 go_wp2
 go_loopg [5] (n) (fun g i wr=>wr=w∧ ∃ t:Nat,i= .int .i64 (t:Int)∧t≤n∧Hid (g+t=n)∧Hid (∀ i<t,∀ x,l[i]? =some x→x.nm≠s))
 case atStart=>exact⟨rfl,0,rfl,Nat.zero_le _,Hd rfl,Hd fun i hi=>absurd hi (by omega)⟩
 case round =>
  obtain⟨rfl,t,rfl,ht,hg,HN⟩:=hrel
  have ht0:(0:Int)≤(t:Int):=by omega
  have ht9:(t:Int)≤1000000:=by omega
  by_cases htn:t<n
  · have hti:(t:Int)<(n:Int):=by omega
    obtain⟨b1,o1,x,rfl,hb1,hx,hc1⟩:=HP.out.cell htn
    have y0:wr.cell? ⟨b1,o1+t*6,none⟩=some (.string ⟨x.nm.toArray⟩):=by rw[show o1+t*6=o1+(t*6+0)by omega];exact hc1 0 _ rfl
    have HX:=Hd hx
    have he:=eqvL x.nm s
    obtain⟨b,hb⟩: ∃ q,decide (x.nm=s)=q:=⟨_,rfl⟩
    rw[hb]at he
    clear hb1 hx hc1
    cases b with
    |true =>
     have HF:Hid (fndN (l.map EntT.nm) s=(t:Int)):=Hd (fndN_at (of_decide_eq_true hb) HX.out HN.out)
     clear hb
     generalize x.nm=xn at *
     go_wp2
     go_ret
     exact⟨by rw[HF.out];rfl,rfl⟩
    |false =>
     have hne:=of_decide_eq_false hb
     have HN2:Hid (∀ i<t+1,∀ x,l[i]? =some x→x.nm≠s):=Hd fun i hi y hy=>by
      by_cases hit:i=t
      · subst hit
        rw[HX.out]at hy
        cases hy
        exact hne
      · exact HN.out i (by omega) y hy
     clear hb hne
     generalize x.nm=xn at *
     go_wp2
     go_roundg (n - (t+1))
     case measure=>have:=hg.out;omega
     case rel=>exact⟨rfl,t+1,by go_num,by omega,Hd (by have:=hg.out;omega),HN2⟩
  · have hti: ¬ (t:Int)<(n:Int):=by omega
    have HF:Hid (fndN (l.map EntT.nm) s= -1):=Hd (by
     have e:t=l.length:=by have:=HL.out;omega
     subst e
     exact fndN_no HN.out)
    clear HN
    go_wp2
    go_ret
    exact⟨by rw[HF.out];rfl,rfl⟩
theorem refAt_inR (l:List UInt8)(k:Nat)(hk:k≤l.length):refAt 38 l (k:Int)=refOut 38 l k:=by
 unfold refAt
 rw[if_neg (by omega)]
 simp
theorem OwnC.base {α:Type}{c:α→List Value}{k:Nat}{e:TypeId}{w:World}{b b':Nat}{v:Value}{l:List α}(h:OwnC c k e w b v l)(hb:b'≤b):OwnC c k e w b' v l:=ownsRow_base h hb
theorem rfAll_c (l:List UInt8)(w:World)(hm:l.length≤20000):Calls Tryz.prog 68 #[.string ⟨l.toArray⟩] w fun e w'=> ∃ OA oc,e= .returned (.slice OA (rfsA l 0).length oc)∧OwnC cRf 3 136 w' w.heap.size (.slice OA (rfsA l 0).length oc) (rfsA l 0)∧Below w.heap.size w w':=by
 have cv:=run_toBytes w l
 have hb1:=Lib.bytesWorld_below w 5 ⟨l.toArray⟩
 have hB:Byt (Lib.bytesWorld w 5 ⟨l.toArray⟩) (Lib.bytesWorld w 5 ⟨l.toArray⟩).heap.size (some ⟨w.heap.size,0,none⟩) l.length (grownCap w l.length 0 5) l:=(byt_new w l (by omega)).more (Nat.le_of_eq (Lib.bytesWorld_size _ _ _).symm)
 generalize Lib.bytesWorld w 5 ⟨l.toArray⟩=W1 at *
 generalize grownCap w l.length 0 5=cap at *
 have HB1:=Hd hb1
 have HB:Hid (∀ W,Below W1.heap.size W1 W→Byt W W.heap.size (some ⟨w.heap.size,0,none⟩) l.length cap l):=Hd fun W hb=>(hB.below hb).more hb.size
 obtain⟨S,hS⟩: ∃ S,w.heap.size=S:=⟨_,rfl⟩
 obtain⟨n,hn⟩: ∃ n,l.length=n:=⟨_,rfl⟩
 have HN:=Hd hn
 have hJ0:Hid (rfsA l 0= []++rfsA l 0∧([]:List (Nat × Nat × List UInt8)).length≤0∧Below W1.heap.size W1 W1∧OwnC cRf 3 136 W1 W1.heap.size (.slice none 0 0) []):=Hd ⟨rfl,Nat.le_refl _,Below.refl _ _,OwnC.start _ _ _ _ _⟩
 rw[hS,hn]at HB
 rw[hS,hn]at cv
 rw[hn]at hm
 clear hb1 hB hn
 go_enter Tryz.func68,Tryz.ntmps68
 go_wp2
 go_loopg [4,5] (n) (fun g v i wr=> ∃ (k:Nat) (pre:List (Nat × Nat × List UInt8)),i= .int .i64 (k:Int)∧k≤n∧Hid (g+k=n)∧Hid (rfsA l 0=pre++rfsA l k∧pre.length≤k∧Below W1.heap.size W1 wr∧OwnC cRf 3 136 wr W1.heap.size v pre))
 case atStart=>exact⟨0,[],rfl,Nat.zero_le _,Hd rfl,hJ0⟩
 case round =>
  clear hJ0
  obtain⟨k,pre,rfl,hk,hg,HJ⟩:=hrel
  obtain⟨A0,c0,hv0⟩:=HJ.out.2.2.2.form
  subst hv0
  have hk0:(0:Int)≤(k:Int):=by omega
  have hk9:(k:Int)≤20000:=by omega
  by_cases hkn:k<n
  · have hki:(k:Int)<(n:Int):=by omega
    have CE:=refEntityAt_c _ n cap l (k:Int) 38 wr (HB.out wr HJ.out.2.2.1) (by omega)
    rw[refAt_inR l k (by rw[HN.out];exact hk)]at CE
    obtain⟨r,hr⟩: ∃ r,refOut 38 l k=r:=⟨_,rfl⟩
    rw[hr]at CE
    have HR:=Hd hr
    obtain⟨s,nx,f⟩:=r
    have CE2:Hid (Calls Tryz.prog 35 #[.slice (some ⟨S,0,none⟩) n cap,.int .i64 (k:Int),.int .u8 38] wr fun e w'=>e= .returned (.tuple #[.string ⟨s.toArray⟩,.int .i64 (nx:Int),.int .i64 (f:Int)])∧Below wr.heap.size wr w'):=Hd CE
    clear CE hr
    by_cases hf:f=0
    · subst hf
      have hnx:=refOut_nx l k (by rw[HR.out])
      rw[HR.out]at hnx
      simp only at hnx
      have HNX:=Hd (And.intro hnx.1 (show nx≤n by rw[← HN.out];exact hnx.2.1))
      have HRS:Hid (rfsA l 0=(pre++ [(k,nx,s)])++rfsA l nx):=Hd (by
       rw[HJ.out.1,rfsA_ref l k (by rw[HR.out]),HR.out]
       simp)
      clear hnx
      go_wp2_with fail
      refine CE2.out.mono ?_
      rintro e w1 ⟨rfl,hb⟩
      have HJ1:=Hd (And.intro (HJ.out.2.2.1.trans (hb.mono HJ.out.2.2.1.size)) (HJ.out.2.2.2.kept hb))
      clear hb CE2
      have hown:w1.ownsRow W1.heap.size 136 3 (.slice A0 pre.length c0) pre.length (pre.flatMap cRf):=HJ1.out.2
      have hpl:pre.length≤1000000000:=by have:=HJ.out.2.1;omega
      have hba:W1.heap.size≤w1.heap.size:=HJ1.out.1.size
      go_wp2_with (at_builtin;refine wpList_appK rfl (.tmp 26) (.tmp 31) 134 136 rfl (.agg #[.int .i64 0,.int .i64 0,.string ⟨#[]⟩]) 3 32 Tryz.underlying134 infoC_rf rfl (by decide) _ _ _ _ rfl hown (cRf (k,nx,s)) _ rfl rfl rfl (by simp[cRf,Value.oneCell']) hpl (by decide) hba ?_)
      intro v6 w6 hown6 hg6 hat6
      have O6:=Hd (OwnC.snoc (c:=cRf) (x:=(k,nx,s)) hown6)
      have kb:=(Below.refl w1.heap.size w1).alloc (Nat.le_refl _) (.cells (cRf (k,nx,s)).toArray 136)
      have HB6:=Hd ((HJ1.out.1.trans (kb.mono HJ1.out.1.size)).grown hg6 (by rw[World.size_alloc w1];omega) (fun j hj=>(HJ1.out.2.ge hj).2))
      clear hown6 hg6 hat6 hown kb hba
      go_wp2
      go_roundg (n - nx)
      case measure=>have:=hg.out;have:=HNX.out;omega
      case rel=>exact⟨nx,pre++ [(k,nx,s)],by go_num,HNX.out.2,Hd (by have:=hg.out;have:=HNX.out;omega),Hd ⟨HRS.out,by have:=HJ.out.2.1;have:=HNX.out;rw[List.length_append];simp;omega,HB6.out,O6.out⟩⟩
    · have hf2: ¬ ((f:Nat):Int)=0:=by omega
      have HRS:Hid (rfsA l 0=pre++rfsA l (k+1)):=Hd (by rw[HJ.out.1,rfsA_no l k (by rw[HN.out];exact hkn) (by rw[HR.out];exact hf)])
      clear hf
      go_wp2_with fail
      refine CE2.out.mono ?_
      rintro e w1 ⟨rfl,hb⟩
      have HJ1:=Hd (And.intro (HJ.out.2.2.1.trans (hb.mono HJ.out.2.2.1.size)) (HJ.out.2.2.2.kept hb))
      clear hb CE2
      go_wp2
      go_roundg (n - (k+1))
      case measure=>have:=hg.out;omega
      case rel=>exact⟨k+1,pre,by go_num,by omega,Hd (by have:=hg.out;omega),Hd ⟨HRS.out,by have:=HJ.out.2.1;omega,HJ1.out⟩⟩
  · have hki: ¬ (k:Int)<(n:Int):=by omega
    have hJ:=HJ.out
    rw[rfsA_end l k (by rw[HN.out];omega),List.append_nil]at hJ
    obtain⟨hp,_,hb2,ho2⟩:=hJ
    subst hp
    have HF:=Hd (And.intro (ho2.base (show w.heap.size≤W1.heap.size from HB1.out.size)) (HB1.out.trans (hb2.mono HB1.out.size)))
    clear HJ hb2 ho2
    go_wp2
    go_ret
    subst hS
    exact⟨A0,c0,rfl,HF.out⟩
end Go.Proofs.YtbafljibbabnaaaGreatDoor
