/- Texts of ours, joined: GrP, RfP. -/
import Derived.Test.YtfemfgkcgboopaaGreatDoorRows
import Derived.WalkKit
import Derived.ProofKit
import Derived.OpenShut
import Derived.ShutString
import Derived.ChangeOld
import Derived.Below
import Derived.BigQuiet
import Derived.Deep.QuietTactic
import Derived.Lib.Hide
import Derived.Deep.RegionHeld3
import Derived.Lib.SlBytesConst
import Derived.Laws.CopyOwn
import Derived.Laws.CopyRow
import Derived.Lib.Bytes
import Derived.Deep.LoopGhost
import Derived.Deep.DeepFit
import Derived.Deep.DeepMust
import Derived.WalkSpells
import Derived.WalkLawsBesides
import Derived.Laws.EntriesVeiled
import Derived.Laws.Rows
import Derived.Maps.OwnOps
import Derived.Maps.OwnSet
import Derived.Maps.Views
import Derived.Maps.AppendAt
import Derived.Deep.AppendLies
import Derived.DeepKeys4
import Derived.MapViews
import Derived.Maps.Keyed
import Derived.Test.YtfemfgkcgboopaaGreatDoorQ1
import Derived.Test.YtfemfgkcgboopaaGreatDoorQ4
import Derived.Test.YtfemfgkcgboopaaGreatDoorQ9
/- A graph, its ways, places that lead back. -/
namespace Go.Proofs.YtfemfgkcgboopaaGreatDoor
open Go.ChangeShapes Go.WideShapes Go.ChangeAt Go.RowKit
set_option linter.unusedVariables false
/-- Ways of a graph: by n ways more than one. -/
def wayN (g : List (List Nat)) : Nat → Nat → Nat → Prop
  | 0, i, j => ∃ t, g[i]? = some t ∧ j ∈ t
  | n + 1, i, j => ∃ m, wayN g n i m ∧ ∃ t, g[m]? = some t ∧ j ∈ t
def Way (g : List (List Nat)) (i j : Nat) : Prop := ∃ n, wayN g n i j
theorem Way.one {g : List (List Nat)} {i j : Nat} {t : List Nat} (h : g[i]? = some t) (hj : j ∈ t) : Way g i j := ⟨0, t, h, hj⟩
theorem Way.more {g : List (List Nat)} {i j k : Nat} {t : List Nat} (h : Way g i j) (ht : g[j]? = some t) (hk : k ∈ t) : Way g i k := by
  obtain ⟨n, h⟩ := h
  exact ⟨n + 1, j, h, t, ht, hk⟩
/-- What is closed under ways holds all to which ways lead. -/
theorem Way.closed {g : List (List Nat)} {i j : Nat} {S : Nat → Prop} (h : Way g i j) (h0 : ∀ t, g[i]? = some t → ∀ k ∈ t, S k) (h1 : ∀ m t, S m → g[m]? = some t → ∀ k ∈ t, S k) : S j := by
  obtain ⟨n, h⟩ := h
  induction n generalizing j with
  | zero =>
    obtain ⟨t, ht, hj⟩ := h
    exact h0 t ht j hj
  | succ n ih =>
    obtain ⟨m, hm, t, ht, hj⟩ := h
    exact h1 m t (ih hm) ht j hj
theorem Way.lt {g : List (List Nat)} {i j : Nat} (h : Way g i j) : i < g.length := by
  by_cases hi : i < g.length
  · exact hi
  · have := Way.closed (S := fun _ => False) h (fun t ht => by rw [List.getElem?_eq_none (by omega)] at ht; cases ht) (fun m t h => h.elim)
    exact this.elim
def okG (g : List (List Nat)) : Prop := ∀ (i : Nat) (t : List Nat), g[i]? = some t → ∀ j ∈ t, j < g.length
theorem Way.lt2 {g : List (List Nat)} {i j : Nat} (hg : okG g) (h : Way g i j) : j < g.length :=
  h.closed (S := fun j => j < g.length) (fun t ht k hk => hg _ t ht k hk) (fun _ t _ ht k hk => hg _ t ht k hk)
/-- The document's: a way marks its end. -/
def edgeL (src i : Nat) (to : List Bool) (j : Nat) : List Bool := if (decide (i = src) || to.getD i false) = true then to.set j true else to
def rowsL (g : List (List Nat)) (src : Nat) (to : List Bool) : Nat → List Bool
  | 0 => to
  | k + 1 => (g.getD k []).foldl (edgeL src k) (rowsL g src to k)
def roundsL (g : List (List Nat)) (src : Nat) (to : List Bool) : Nat → List Bool
  | 0 => to
  | m + 1 => rowsL g src (roundsL g src to m) g.length
def leadsL (g : List (List Nat)) (src : Nat) : List Bool := roundsL g src (List.replicate g.length false) (g.length + 1)
theorem edgeL_len (src i : Nat) (to : List Bool) (j : Nat) : (edgeL src i to j).length = to.length := by unfold edgeL; split <;> simp
theorem edges_len (src i : Nat) (t : List Nat) : ∀ to : List Bool, (t.foldl (edgeL src i) to).length = to.length := by
  induction t with
  | nil => intro to; rfl
  | cons j t ih => intro to; rw [List.foldl_cons, ih, edgeL_len]
theorem rowsL_len (g : List (List Nat)) (src : Nat) (to : List Bool) (k : Nat) : (rowsL g src to k).length = to.length := by
  induction k with
  | zero => rfl
  | succ k ih => rw [rowsL, edges_len, ih]
theorem roundsL_len (g : List (List Nat)) (src : Nat) (to : List Bool) (m : Nat) : (roundsL g src to m).length = to.length := by
  induction m with
  | zero => rfl
  | succ m ih => rw [roundsL, rowsL_len, ih]
theorem leadsL_len (g : List (List Nat)) (src : Nat) : (leadsL g src).length = g.length := by unfold leadsL; rw [roundsL_len]; simp
def Sound (g : List (List Nat)) (src : Nat) (to : List Bool) : Prop := ∀ j, to.getD j false = true → Way g src j
theorem edge_sound {g : List (List Nat)} {src i j : Nat} {t : List Nat} {to : List Bool} (h : Sound g src to) (ht : g[i]? = some t) (hj : j ∈ t) : Sound g src (edgeL src i to j) := by
  intro k hk
  unfold edgeL at hk
  split at hk
  · rename_i hc
    by_cases hkj : k = j
    · subst hkj
      rw [Bool.or_eq_true, decide_eq_true_eq] at hc
      rcases hc with rfl | hc
      · exact .one ht hj
      · exact (h i hc).more ht hj
    · rw [List.getD_eq_getElem?_getD, List.getElem?_set_ne (by omega), ← List.getD_eq_getElem?_getD] at hk
      exact h k hk
  · exact h k hk
theorem edges_sound {g : List (List Nat)} {src i : Nat} {t : List Nat} (ht : g[i]? = some t) : ∀ (u : List Nat) (to : List Bool), (∀ j ∈ u, j ∈ t) → Sound g src to → Sound g src (u.foldl (edgeL src i) to) := by
  intro u
  induction u with
  | nil => intro to _ h; exact h
  | cons j u ih =>
    intro to hu h
    rw [List.foldl_cons]
    exact ih _ (fun k hk => hu k (List.mem_cons_of_mem _ hk)) (edge_sound h ht (hu j List.mem_cons_self))
theorem rows_sound {g : List (List Nat)} {src : Nat} {to : List Bool} (h : Sound g src to) (k : Nat) (hk : k ≤ g.length) : Sound g src (rowsL g src to k) := by
  induction k with
  | zero => exact h
  | succ k ih =>
    have ht : g[k]? = some (g.getD k []) := by rw [List.getD_eq_getElem?_getD, List.getElem?_eq_getElem (by omega)]; rfl
    exact edges_sound ht _ _ (fun j hj => hj) (ih (by omega))
theorem rounds_sound {g : List (List Nat)} {src : Nat} {to : List Bool} (h : Sound g src to) (m : Nat) : Sound g src (roundsL g src to m) := by
  induction m with
  | zero => exact h
  | succ m ih => exact rows_sound ih _ (Nat.le_refl _)
theorem leads_sound (g : List (List Nat)) (src j : Nat) (h : (leadsL g src).getD j false = true) : Way g src j := by
  refine rounds_sound (fun k hk => ?_) _ j h
  rw [List.getD_eq_getElem?_getD, List.getElem?_replicate] at hk
  split at hk <;> simp at hk
def cntB (to : List Bool) : Nat := to.countP id
theorem cnt_set (to : List Bool) (j : Nat) : to.set j true = to ∨ cntB to < cntB (to.set j true) := by
  unfold cntB
  induction to generalizing j with
  | nil => left; rfl
  | cons b to ih =>
    cases j with
    | zero =>
      cases b with
      | true => left; rfl
      | false => right; simp
    | succ j =>
      rcases ih j with h | h
      · left; simp [h]
      · right
        simp only [List.set_cons_succ, List.countP_cons]
        omega
theorem edge_dich (src i : Nat) (to : List Bool) (j : Nat) : edgeL src i to j = to ∨ cntB to < cntB (edgeL src i to j) := by
  unfold edgeL
  split
  · exact cnt_set to j
  · exact .inl rfl
theorem fold_dich {α β : Type} (c : α → Nat) (f : α → β → α) (hf : ∀ a x, f a x = a ∨ c a < c (f a x)) : ∀ (l : List β) (a : α), (l.foldl f a = a ∧ ∀ x ∈ l, f a x = a) ∨ c a < c (l.foldl f a) := by
  intro l
  induction l with
  | nil => intro a; exact .inl ⟨rfl, fun x hx => by cases hx⟩
  | cons x l ih =>
    intro a
    rw [List.foldl_cons]
    rcases hf a x with h | h
    · rw [h]
      rcases ih a with ⟨h1, h2⟩ | h1
      · exact .inl ⟨h1, fun y hy => by rcases List.mem_cons.1 hy with rfl | hy; exact h; exact h2 y hy⟩
      · exact .inr h1
    · rcases ih (f a x) with ⟨h1, _⟩ | h1
      · rw [h1]; exact .inr h
      · exact .inr (by omega)
theorem rows_dich (g : List (List Nat)) (src : Nat) (to : List Bool) (k : Nat) : (rowsL g src to k = to ∧ ∀ i, i < k → ∀ j ∈ g.getD i [], edgeL src i to j = to) ∨ cntB to < cntB (rowsL g src to k) := by
  induction k with
  | zero => exact .inl ⟨rfl, fun i hi => by omega⟩
  | succ k ih =>
    rw [rowsL]
    rcases ih with ⟨h1, h2⟩ | h1
    · rw [h1]
      rcases fold_dich cntB (edgeL src k) (edge_dich src k) (g.getD k []) to with ⟨h3, h4⟩ | h3
      · refine .inl ⟨h3, fun i hi => ?_⟩
        by_cases hik : i = k
        · subst hik; exact h4
        · exact h2 i (by omega)
      · exact .inr h3
    · rcases fold_dich cntB (edgeL src k) (edge_dich src k) (g.getD k []) (rowsL g src to k) with ⟨h3, _⟩ | h3
      · rw [h3]; exact .inr h1
      · exact .inr (by omega)
theorem rounds_dich (g : List (List Nat)) (src : Nat) (to : List Bool) (m : Nat) : (∃ k, k < m ∧ rowsL g src (roundsL g src to k) g.length = roundsL g src to k) ∨ m ≤ cntB (roundsL g src to m) := by
  induction m with
  | zero => exact .inr (Nat.zero_le _)
  | succ m ih =>
    rcases ih with ⟨k, hk, h⟩ | h
    · exact .inl ⟨k, by omega, h⟩
    · rcases rows_dich g src (roundsL g src to m) g.length with ⟨h1, _⟩ | h1
      · exact .inl ⟨m, by omega, h1⟩
      · right; rw [roundsL]; omega
theorem rounds_stay (g : List (List Nat)) (src : Nat) (to : List Bool) (k : Nat) (h : rowsL g src (roundsL g src to k) g.length = roundsL g src to k) (m : Nat) : roundsL g src to (k + m) = roundsL g src to k := by
  induction m with
  | zero => rfl
  | succ m ih => rw [show k + (m + 1) = (k + m) + 1 by omega, roundsL, ih, h]
theorem leads_fix (g : List (List Nat)) (src : Nat) : rowsL g src (leadsL g src) g.length = leadsL g src := by
  unfold leadsL
  rcases rounds_dich g src (List.replicate g.length false) (g.length + 1) with ⟨k, hk, h⟩ | h
  · have h2 := rounds_stay g src _ k h (g.length + 1 - k)
    rw [show k + (g.length + 1 - k) = g.length + 1 by omega] at h2
    rw [h2, h]
  · exfalso
    have h2 : cntB (roundsL g src (List.replicate g.length false) (g.length + 1)) ≤ (roundsL g src (List.replicate g.length false) (g.length + 1)).length := List.countP_le_length
    rw [roundsL_len] at h2
    simp at h2
    omega
theorem leads_closed {g : List (List Nat)} (hg : okG g) (src i : Nat) (t : List Nat) (ht : g[i]? = some t) (hi : i = src ∨ (leadsL g src).getD i false = true) (j : Nat) (hj : j ∈ t) : (leadsL g src).getD j false = true := by
  have hlt : i < g.length := (List.getElem?_eq_some_iff.1 ht).1
  have htD : g.getD i [] = t := by rw [List.getD_eq_getElem?_getD, ht]; rfl
  rcases rows_dich g src (leadsL g src) g.length with ⟨_, h2⟩ | h2
  · have h3 := h2 i hlt j (by rw [htD]; exact hj)
    unfold edgeL at h3
    rw [if_pos (by rw [Bool.or_eq_true, decide_eq_true_eq]; exact hi)] at h3
    have hjl : j < (leadsL g src).length := by rw [leadsL_len]; exact hg i t ht j hj
    rw [← h3, List.getD_eq_getElem?_getD, List.getElem?_set_self hjl]
    rfl
  · rw [leads_fix] at h2
    omega
/-- The document's answer: all places to which ways lead. -/
theorem leads_iff {g : List (List Nat)} (hg : okG g) (src j : Nat) : (leadsL g src).getD j false = true ↔ Way g src j :=
  ⟨leads_sound g src j, fun h => h.closed (S := fun j => (leadsL g src).getD j false = true) (fun t ht k hk => leads_closed hg src src t ht (.inl rfl) k hk) (fun m t hm ht k hk => leads_closed hg src m t ht (.inr hm) k hk)⟩
/-- The program's: places that wait, places that were seen. -/
structure RInv (g : List (List Nat)) (src : Nat) (seen wait : List Nat) : Prop where
  len : seen.length = g.length
  a : ∀ j, (0 < seen.getD j 0 ∨ j ∈ wait) → Way g src j
  b : ∀ t, g[src]? = some t → ∀ j ∈ t, 0 < seen.getD j 0 ∨ j ∈ wait
  c : ∀ i t, 0 < seen.getD i 0 → g[i]? = some t → ∀ j ∈ t, 0 < seen.getD j 0 ∨ j ∈ wait
theorem RInv.begin (g : List (List Nat)) (src : Nat) (t : List Nat) (ht : g[src]? = some t) : RInv g src (List.replicate g.length 0) t := by
  have hz : ∀ j, (List.replicate g.length 0).getD j 0 = 0 := fun j => by rw [List.getD_eq_getElem?_getD, List.getElem?_replicate]; split <;> rfl
  refine ⟨by simp, fun j hj => ?_, fun u hu j hj => ?_, fun i u hi => ?_⟩
  · rw [hz] at hj
    rcases hj with hj | hj
    · omega
    · exact .one ht hj
  · rw [ht] at hu
    cases hu
    exact .inr hj
  · rw [hz] at hi
    omega
theorem getD_set (l : List Nat) (i v j : Nat) (hi : i < l.length) : (l.set i v).getD j 0 = if j = i then v else l.getD j 0 := by
  rw [List.getD_eq_getElem?_getD]
  split
  · rename_i h
    subst h
    rw [List.getElem?_set_self hi]
    rfl
  · rename_i h
    rw [List.getElem?_set_ne (by omega), ← List.getD_eq_getElem?_getD]
theorem RInv.next {g : List (List Nat)} {src i : Nat} {seen ws : List Nat} {t : List Nat} (hg : okG g) (h : RInv g src seen (ws ++ [i])) (ht : g[i]? = some t) :
    RInv g src (seen.set i (seen.getD i 0 + 1)) (if seen.getD i 0 = 0 then ws ++ t else ws) := by
  have hi : i < seen.length := by rw [h.len]; exact (List.getElem?_eq_some_iff.1 ht).1
  have hw : Way g src i := h.a i (.inr (by simp))
  have hold : ∀ j, (0 < seen.getD j 0 ∨ j ∈ ws ++ [i]) → 0 < (seen.set i (seen.getD i 0 + 1)).getD j 0 ∨ j ∈ (if seen.getD i 0 = 0 then ws ++ t else ws) := by
    intro j hj
    rw [getD_set _ _ _ _ hi]
    by_cases hji : j = i
    · left; rw [if_pos hji]; omega
    · rw [if_neg hji]
      rcases hj with hj | hj
      · exact .inl hj
      · right
        have : j ∈ ws := by simpa [hji] using hj
        split
        · exact List.mem_append_left _ this
        · exact this
  refine ⟨by rw [List.length_set]; exact h.len, fun j hj => ?_, fun u hu j hj => hold j (h.b u hu j hj), fun k u hk hu j hj => ?_⟩
  · rcases hj with hj | hj
    · rw [getD_set _ _ _ _ hi] at hj
      by_cases hji : j = i
      · rw [hji]; exact hw
      · rw [if_neg hji] at hj
        exact h.a j (.inl hj)
    · split at hj
      · rcases List.mem_append.1 hj with hj | hj
        · exact h.a j (.inr (List.mem_append_left _ hj))
        · exact hw.more ht hj
      · exact h.a j (.inr (List.mem_append_left _ hj))
  · rw [getD_set _ _ _ _ hi] at hk
    by_cases hki : k = i
    · subst hki
      rw [ht] at hu
      cases hu
      by_cases h0 : seen.getD k 0 = 0
      · right
        rw [if_pos h0]
        exact List.mem_append_right _ hj
      · exact hold j (h.c k t (by omega) ht j hj)
    · rw [if_neg hki] at hk
      exact hold j (h.c k u hk hu j hj)
/-- Where nothing waits, all places are seen to which ways lead. -/
theorem RInv.done {g : List (List Nat)} {src : Nat} {seen : List Nat} (h : RInv g src seen []) (j : Nat) : 0 < seen.getD j 0 ↔ Way g src j :=
  ⟨fun hj => h.a j (.inl hj), fun hw => hw.closed (S := fun j => 0 < seen.getD j 0)
    (fun t ht k hk => by rcases h.b t ht k hk with h | h; exact h; cases h)
    (fun m t hm ht k hk => by rcases h.c m t hm ht k hk with h | h; exact h; cases h)⟩
/-- The ways that were not gone yet. -/
def leftE : List (List Nat) → List Nat → Nat
  | t :: g, n :: s => (if n = 0 then t.length else 0) + leftE g s
  | _, _ => 0
theorem leftE_set : ∀ (g : List (List Nat)) (seen : List Nat) (i : Nat) (t : List Nat), g[i]? = some t → i < seen.length →
    leftE g (seen.set i (seen.getD i 0 + 1)) + (if seen.getD i 0 = 0 then t.length else 0) = leftE g seen := by
  intro g
  induction g with
  | nil => intro s i t h; simp at h
  | cons u g ih =>
    intro s i t h hi
    cases s with
    | nil => simp at hi
    | cons n s =>
      cases i with
      | zero =>
        simp only [List.getElem?_cons_zero, Option.some.injEq] at h
        subst h
        simp only [List.getD_cons_zero, List.set_cons_zero, leftE]
        rw [if_neg (by omega)]
        omega
      | succ i =>
        simp only [List.getElem?_cons_succ] at h
        simp only [List.length_cons] at hi
        have := ih s i t h (by omega)
        simp only [List.getD_cons_succ, List.set_cons_succ, leftE]
        omega
def sizeE (g : List (List Nat)) : Nat := (g.map List.length).sum
theorem leftE_le (g : List (List Nat)) (s : List Nat) : leftE g s ≤ sizeE g := by
  unfold sizeE
  induction g generalizing s with
  | nil => cases s <;> simp [leftE]
  | cons t g ih =>
    cases s with
    | nil => simp [leftE]
    | cons n s =>
      have := ih s
      simp only [leftE, List.map_cons, List.sum_cons]
      split <;> omega
/-- The program's order: places that were told, each behind those to which its ways lead. -/
structure OInv (g : List (List Nat)) (told l : List Nat) : Prop where
  len : told.length = g.length
  cnt : told.countP (fun n => n != 0) = l.length
  t : ∀ i, told.getD i 0 ≠ 0 ↔ i ∈ l
  top : ∀ (k i : Nat), l[k]? = some i → ∀ t, g[i]? = some t → ∀ j ∈ t, j ∈ l.take k
theorem countP_zero (n : Nat) : (List.replicate n 0).countP (fun n => n != 0) = 0 := by
  induction n with
  | zero => rfl
  | succ n ih => simp [List.replicate_succ, ih]
theorem OInv.begin (g : List (List Nat)) : OInv g (List.replicate g.length 0) [] := by
  refine ⟨by simp, countP_zero _, fun i => ?_, fun k i h => by simp at h⟩
  rw [List.getD_eq_getElem?_getD, List.getElem?_replicate]
  split <;> simp
theorem countP_set : ∀ (l : List Nat) (i : Nat), i < l.length → l.getD i 0 = 0 → (l.set i 1).countP (fun n => n != 0) = l.countP (fun n => n != 0) + 1 := by
  intro l
  induction l with
  | nil => intro i h; simp at h
  | cons n l ih =>
    intro i hi h0
    cases i with
    | zero => simp at h0; subst h0; simp
    | succ i =>
      simp only [List.getD_cons_succ] at h0
      simp only [List.length_cons] at hi
      have := ih i (by omega) h0
      simp only [List.set_cons_succ, List.countP_cons, this]
      omega
theorem OInv.next {g : List (List Nat)} {told l : List Nat} {i : Nat} {t : List Nat} (h : OInv g told l) (ht : g[i]? = some t) (h0 : told.getD i 0 = 0) (hf : ∀ j ∈ t, told.getD j 0 ≠ 0) : OInv g (told.set i 1) (l ++ [i]) := by
  have hi : i < told.length := by rw [h.len]; exact (List.getElem?_eq_some_iff.1 ht).1
  refine ⟨by rw [List.length_set]; exact h.len, by rw [countP_set _ _ hi h0, h.cnt]; simp, fun j => ?_, fun k j hk u hu m hm => ?_⟩
  · rw [getD_set _ _ _ _ hi]
    by_cases hji : j = i
    · rw [if_pos hji]; simp [hji]
    · rw [if_neg hji, h.t j]; simp [hji]
  · by_cases hkl : k < l.length
    · rw [List.getElem?_append_left hkl] at hk
      rw [List.take_append_of_le_length (by omega)]
      exact h.top k j hk u hu m hm
    · have hk2 : k = l.length := by
        have := (List.getElem?_eq_some_iff.1 hk).1
        simp at this
        omega
      subst hk2
      rw [List.getElem?_append_right (Nat.le_refl _)] at hk
      simp at hk
      subst hk
      rw [ht] at hu
      cases hu
      rw [List.take_append_of_le_length (Nat.le_refl _), List.take_length]
      exact (h.t m).1 (hf m hm)
theorem OInv.no {g : List (List Nat)} {told l : List Nat} (h : OInv g told l) : ∀ (k i : Nat), l[k]? = some i → ¬ Way g i i := by
  intro k
  induction k using Nat.strongRecOn with
  | ind k ih =>
    intro i hk hw
    have hm : i ∈ l.take k := hw.closed (S := fun j => j ∈ l.take k) (fun t ht j hj => h.top k i hk t ht j hj) (fun m t hm ht j hj => by
      obtain ⟨k', hk'⟩ := List.mem_iff_getElem?.1 hm
      have hlt : k' < k := by
        have := (List.getElem?_eq_some_iff.1 hk').1
        simp at this
        omega
      rw [List.getElem?_take_of_lt hlt] at hk'
      have := h.top k' m hk' t ht j hj
      exact (List.take_subset_take_left l (by omega)) this)
    obtain ⟨k', hk'⟩ := List.mem_iff_getElem?.1 hm
    have hlt : k' < k := by
      have := (List.getElem?_eq_some_iff.1 hk').1
      simp at this
      omega
    rw [List.getElem?_take_of_lt hlt] at hk'
    exact ih k' hlt i hk' hw
/-- Where all places are told, none leads back. -/
theorem OInv.done {g : List (List Nat)} {told l : List Nat} (h : OInv g told l) (hl : l.length = g.length) (i : Nat) : ¬ Way g i i := by
  intro hw
  have hi := hw.lt
  have hc := h.cnt
  rw [hl, ← h.len, List.countP_eq_length] at hc
  have h2 : told.getD i 0 ≠ 0 := by
    have hit : i < told.length := by rw [h.len]; exact hi
    have := hc told[i] (List.getElem_mem hit)
    rw [List.getD_eq_getElem?_getD, List.getElem?_eq_getElem hit]
    simpa using this
  obtain ⟨k, hk⟩ := List.mem_iff_getElem?.1 ((h.t i).1 h2)
  exact h.no k i hk hw
end Go.Proofs.YtfemfgkcgboopaaGreatDoor
/- References of a text; entities and their graph. -/
namespace Go.Proofs.YtfemfgkcgboopaaGreatDoor
open Go.ChangeShapes Go.WideShapes Go.ChangeAt Go.RowKit
set_option linter.unusedVariables false
theorem refOut_nx (l : List UInt8) (k : Nat) (h : (refOut 38 l k).2.2 = 0) : k < (refOut 38 l k).2.1 ∧ (refOut 38 l k).2.1 ≤ l.length ∧ l[k]? = some 38 := by
  refine ⟨(refOut_next 38 l k h).1, (refOut_next 38 l k h).2, ?_⟩
  unfold refOut at h
  cases hc : l[k]? with
  | none => rw [hc] at h; simp at h
  | some c =>
    rw [hc] at h
    by_cases e : c = 38
    · rw [e]
    · simp [e] at h
/-- References one by one: from, to, name; by fuel. -/
def rfsF (l : List UInt8) : Nat → Nat → List (Nat × Nat × List UInt8)
  | 0, _ => []
  | f + 1, k => if l.length ≤ k then [] else if (refOut 38 l k).2.2 = 0 then (k, (refOut 38 l k).2.1, (refOut 38 l k).1) :: rfsF l f (refOut 38 l k).2.1 else rfsF l f (k + 1)
theorem rfsF_fuel (l : List UInt8) : ∀ (f f' k : Nat), l.length < k + f → l.length < k + f' → rfsF l f k = rfsF l f' k := by
  intro f
  induction f with
  | zero => intro f' k h h'; cases f' <;> simp [rfsF]; omega
  | succ f ih =>
    intro f' k h h'
    cases f' with
    | zero => simp [rfsF]; omega
    | succ f' =>
      unfold rfsF
      split
      · rfl
      · rename_i hk
        split
        · rename_i h0
          have := (refOut_nx l k h0).1
          rw [ih f' _ (by omega) (by omega)]
        · exact ih f' _ (by omega) (by omega)
/-- The references from a place on. -/
def rfsA (l : List UInt8) (k : Nat) : List (Nat × Nat × List UInt8) := rfsF l (l.length + 1 - k) k
theorem rfsA_end (l : List UInt8) (k : Nat) (h : l.length ≤ k) : rfsA l k = [] := by
  unfold rfsA
  cases l.length + 1 - k with
  | zero => rfl
  | succ f => unfold rfsF; rw [if_pos h]
theorem rfsA_ref (l : List UInt8) (k : Nat) (h0 : (refOut 38 l k).2.2 = 0) : rfsA l k = (k, (refOut 38 l k).2.1, (refOut 38 l k).1) :: rfsA l (refOut 38 l k).2.1 := by
  have hn := refOut_nx l k h0
  have hk := (List.getElem?_eq_some_iff.1 hn.2.2).1
  unfold rfsA
  rw [show l.length + 1 - k = (l.length - k) + 1 by omega, rfsF, if_neg (by omega), if_pos h0, rfsF_fuel l _ (l.length + 1 - (refOut 38 l k).2.1) _ (by omega) (by omega)]
theorem rfsA_no (l : List UInt8) (k : Nat) (hk : k < l.length) (h0 : (refOut 38 l k).2.2 ≠ 0) : rfsA l k = rfsA l (k + 1) := by
  unfold rfsA
  rw [show l.length + 1 - k = (l.length - k) + 1 by omega, rfsF, if_neg (by omega), if_neg h0, rfsF_fuel l _ (l.length + 1 - (k + 1)) _ (by omega) (by omega)]
theorem rfsA_skip (l : List UInt8) (k m : Nat) (h : ∀ i, k ≤ i → i < k + m → l[i]? ≠ some 38) (hm : k + m ≤ l.length) : rfsA l k = rfsA l (k + m) := by
  induction m with
  | zero => rfl
  | succ m ih =>
    rw [ih (fun i h1 h2 => h i h1 (by omega)) (by omega), rfsA_no l (k + m) (by omega)]
    · rfl
    · intro e
      exact h (k + m) (by omega) (by omega) (refOut_nx l (k + m) e).2.2
/-- Where no mark comes, there is no reference. -/
theorem rfsA_none (l : List UInt8) (k : Nat) (h : ∀ i, k ≤ i → l[i]? ≠ some 38) : rfsA l k = [] := by
  by_cases hk : l.length ≤ k
  · exact rfsA_end l k hk
  · rw [rfsA_skip l k (l.length - k) (fun i h1 _ => h i h1) (by omega), rfsA_end l _ (by omega)]
theorem rfsA_len (l : List UInt8) : ∀ (m k : Nat), l.length - k ≤ m → (rfsA l k).length ≤ l.length - k := by
  intro m
  induction m with
  | zero => intro k h; rw [rfsA_end l k (by omega)]; simp
  | succ m ih =>
    intro k h
    by_cases hk : k < l.length
    · by_cases h0 : (refOut 38 l k).2.2 = 0
      · rw [rfsA_ref l k h0]
        have hn := refOut_nx l k h0
        have := ih (refOut 38 l k).2.1 (by omega)
        simp only [List.length_cons]
        omega
      · rw [rfsA_no l k hk h0]
        have := ih (k + 1) (by omega)
        omega
    · rw [rfsA_end l k (by omega)]; simp
/-- Texts, each once. -/
def onceF (a : List (List UInt8)) (x : List UInt8) : List (List UInt8) := if x ∈ a then a else a ++ [x]
def onceL (l : List (List UInt8)) : List (List UInt8) := l.foldl onceF []
theorem once_le (l : List (List UInt8)) : ∀ a : List (List UInt8), (l.foldl onceF a).length ≤ a.length + l.length := by
  induction l with
  | nil => intro a; simp
  | cons x l ih =>
    intro a
    rw [List.foldl_cons]
    have := ih (onceF a x)
    have h2 : (onceF a x).length ≤ a.length + 1 := by unfold onceF; split <;> simp
    simp only [List.length_cons]
    omega
def rnames (l : List UInt8) : List (List UInt8) := (rfsA l 0).map (fun r => r.2.2)
/-- The names to which a text refers, once. -/
def eachL (l : List UInt8) : List (List UInt8) := onceL (rnames l)
theorem eachL_len (l : List UInt8) : (eachL l).length ≤ l.length := by
  have h1 := once_le (rnames l) []
  have h2 := rfsA_len l l.length 0 (by omega)
  unfold eachL onceL
  unfold rnames at h1 ⊢
  simp only [List.length_nil, List.length_map] at h1
  omega
/-- An entity. -/
structure EntT where
  nm : List UInt8
  tx : List UInt8
  out : Bool
  pub : List UInt8
  sys : List UInt8
  nt : List UInt8
def innerF (a : List EntT) (x : EntT) : List EntT := if x.out = true ∨ x.nm ∈ a.map EntT.nm then a else a ++ [x]
/-- The internal ones, the first of each name. -/
def innerE (l : List EntT) : List EntT := l.foldl innerF []
/-- To which places a text leads. -/
def toE (names : List (List UInt8)) (ws : List (List UInt8)) : List Nat := ws.filterMap (fun s => if s ∈ names then some (names.idxOf s) else none)
def graphE (l : List EntT) : List (List Nat) := (innerE l).map (fun x => toE ((innerE l).map EntT.nm) (eachL x.tx))
theorem toE_lt (names ws : List (List UInt8)) : ∀ j ∈ toE names ws, j < names.length := by
  intro j hj
  unfold toE at hj
  obtain ⟨s, _, hs⟩ := List.mem_filterMap.1 hj
  split at hs
  · rename_i h
    cases hs
    exact List.idxOf_lt_length_iff.2 h
  · cases hs
theorem toE_len (names ws : List (List UInt8)) : (toE names ws).length ≤ ws.length := List.length_filterMap_le _ _
theorem graphE_len (l : List EntT) : (graphE l).length = (innerE l).length := by simp [graphE]
theorem graphE_ok (l : List EntT) : okG (graphE l) := by
  intro i t ht j hj
  rw [graphE_len]
  unfold graphE at ht
  rw [List.getElem?_map] at ht
  cases hx : (innerE l)[i]? with
  | none => rw [hx] at ht; cases ht
  | some x =>
    rw [hx] at ht
    cases ht
    have := toE_lt _ _ j hj
    simpa using this
theorem innerF_sum (a : List EntT) (x : EntT) : ((innerF a x).map (fun y => y.tx.length)).sum ≤ (a.map (fun y => y.tx.length)).sum + x.tx.length := by
  unfold innerF
  split
  · omega
  · simp
theorem inner_sum (l : List EntT) : ∀ a : List EntT, ((l.foldl innerF a).map (fun y => y.tx.length)).sum ≤ (a.map (fun y => y.tx.length)).sum + (l.map (fun y => y.tx.length)).sum := by
  induction l with
  | nil => intro a; simp
  | cons x l ih =>
    intro a
    rw [List.foldl_cons]
    have h1 := ih (innerF a x)
    have h2 := innerF_sum a x
    simp only [List.map_cons, List.sum_cons]
    omega
theorem inner_len (l : List EntT) : ∀ a : List EntT, (l.foldl innerF a).length ≤ a.length + l.length := by
  induction l with
  | nil => intro a; simp
  | cons x l ih =>
    intro a
    rw [List.foldl_cons]
    have h1 := ih (innerF a x)
    have h2 : (innerF a x).length ≤ a.length + 1 := by unfold innerF; split <;> simp
    simp only [List.length_cons]
    omega
theorem sum_map_le {α : Type} (f g : α → Nat) (h : ∀ x, f x ≤ g x) : ∀ l : List α, (l.map f).sum ≤ (l.map g).sum := by
  intro l
  induction l with
  | nil => simp
  | cons x l ih => have := h x; simp only [List.map_cons, List.sum_cons]; omega
theorem graph_size (l : List EntT) : sizeE (graphE l) ≤ (l.map (fun y => y.tx.length)).sum := by
  have h1 := inner_sum l []
  unfold sizeE graphE
  rw [List.map_map]
  have h2 := sum_map_le (List.length ∘ fun x : EntT => toE ((innerE l).map EntT.nm) (eachL x.tx)) (fun x => x.tx.length) (fun x => by
    have h3 := toE_len ((innerE l).map EntT.nm) (eachL x.tx)
    have h4 := eachL_len x.tx
    simp only [Function.comp]
    omega) (innerE l)
  unfold innerE at *
  simp only [List.map_nil, List.sum_nil, Nat.zero_add] at h1
  omega
/-- Does an entity lead back to itself? -/
def loopsE (l : List EntT) : Prop := ∃ i, Way (graphE l) i i
end Go.Proofs.YtfemfgkcgboopaaGreatDoor
