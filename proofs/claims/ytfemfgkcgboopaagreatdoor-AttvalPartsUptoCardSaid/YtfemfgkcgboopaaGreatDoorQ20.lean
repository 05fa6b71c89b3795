/- Texts of ours, joined: GsT, GsR. -/
import Derived.Test.YtfemfgkcgboopaaGreatDoorRows
import Derived.WalkKit
import Derived.ProofKit
import Derived.OpenShut
import Derived.ShutString
import Derived.ChangeOld
import Derived.Below
import Derived.BigQuiet
import Derived.Deep.QuietTactic
import Derived.Lib.Hide
import Derived.Deep.RegionHeld3
import Derived.Lib.SlBytesConst
import Derived.Laws.CopyOwn
import Derived.Laws.CopyRow
import Derived.Lib.Bytes
import Derived.Deep.LoopGhost
import Derived.Deep.DeepFit
import Derived.Deep.DeepMust
import Derived.WalkSpells
import Derived.WalkLawsBesides
import Derived.Laws.EntriesVeiled
import Derived.Test.YtfemfgkcgboopaaGreatDoorQ1
import Derived.Test.YtfemfgkcgboopaaGreatDoorQ4
import Derived.Test.YtfemfgkcgboopaaGreatDoorQ9
import Derived.Test.YtfemfgkcgboopaaGreatDoorQ10
import Derived.Test.YtfemfgkcgboopaaGreatDoorQ13
import Derived.Test.YtfemfgkcgboopaaGreatDoorQ14
import Derived.Test.YtfemfgkcgboopaaGreatDoorQ15
import Derived.Test.YtfemfgkcgboopaaGreatDoorQ16
import Derived.Test.YtfemfgkcgboopaaGreatDoorQ19
import Derived.Laws.Rows
import Derived.Maps.OwnOps
import Derived.Maps.OwnSet
import Derived.Maps.Views
import Derived.Maps.AppendAt
import Derived.DeepKeys4
import Derived.MapViews
import Derived.Maps.Keyed
import Derived.Test.YtfemfgkcgboopaaGreatDoorQ18
/- What is put out is no more than what it costs; and it comes to an end. -/
namespace Go.Proofs.YtfemfgkcgboopaaGreatDoor
open Go.ChangeShapes Go.WideShapes Go.ChangeAt Go.RowKit
set_option linter.unusedVariables false
theorem fndE_innerF (a : List EntT) (x : EntT) (s : List UInt8) : fndE (innerF a x) s = (fndE a s).or (if x.out = false ∧ x.nm = s then some x else none) := by
  unfold innerF
  by_cases h : x.out = true ∨ x.nm ∈ a.map EntT.nm
  · rw [if_pos h]
    by_cases h2 : x.out = false ∧ x.nm = s
    · rcases h with h | h
      · rw [h2.1] at h; cases h
      · rw [h2.2] at h
        obtain ⟨y, hy, he⟩ := List.mem_map.1 h
        have : (fndE a s).isSome = true := by
          unfold fndE
          rw [List.find?_isSome]
          exact ⟨y, hy, by simp [he]⟩
        obtain ⟨z, hz⟩ := Option.isSome_iff_exists.1 this
        rw [hz]; rfl
    · rw [if_neg h2]; simp
  · rw [if_neg h]
    have ho : x.out = false := by
      cases e : x.out with
      | true => exact absurd (.inl e) h
      | false => rfl
    unfold fndE
    rw [List.find?_append]
    congr 1
    by_cases h3 : x.nm = s <;> simp [h3, ho]
theorem fndE_inner_fold (s : List UInt8) : ∀ (l a : List EntT), fndE (l.foldl innerF a) s = (fndE a s).or (fndE (l.filter fun x => !x.out) s) := by
  intro l
  induction l with
  | nil => intro a; simp [fndE]
  | cons x l ih =>
    intro a
    rw [List.foldl_cons, ih, fndE_innerF, Option.or_assoc]
    congr 1
    cases ho : x.out with
    | true => simp [ho]
    | false =>
      by_cases hn : x.nm = s
      · simp [ho, hn, fndE]
      · simp [ho, hn, fndE]
/-- The first entity of a name, if it is an internal one, is the internal one of that name. -/
theorem fndE_inner {l : List EntT} {s : List UInt8} {x : EntT} (h : fndE l s = some x) (hx : x.out = false) : fndE (innerE l) s = some x := by
  have e := fndE_inner_fold s l []
  unfold innerE
  rw [e]
  have : fndE [] s = none := rfl
  rw [this, Option.none_or]
  clear e this
  induction l with
  | nil => cases h
  | cons y l ih =>
    unfold fndE at h ih ⊢
    rw [List.find?_cons] at h
    by_cases hn : y.nm = s
    · simp only [hn, decide_true] at h
      cases h
      simp [hx, hn]
    · simp only [hn, decide_false] at h
      have := ih h
      cases ho : y.out with
      | true => simp only [List.filter_cons, ho, Bool.not_true, if_false, Bool.false_eq_true]; exact this
      | false => simp only [List.filter_cons, ho, Bool.not_false, if_true, List.find?_cons, hn, decide_false]; exact this
theorem fndE_idx {l : List EntT} {s : List UInt8} {x : EntT} (h : fndE l s = some x) : s ∈ l.map EntT.nm ∧ l[(l.map EntT.nm).idxOf s]? = some x := by
  induction l with
  | nil => cases h
  | cons y l ih =>
    unfold fndE at h ih
    rw [List.find?_cons] at h
    by_cases hn : y.nm = s
    · simp only [hn, decide_true] at h
      cases h
      simp [hn]
    · simp only [hn, decide_false] at h
      obtain ⟨h1, h2⟩ := ih h
      refine ⟨List.mem_cons_of_mem _ h1, ?_⟩
      rw [List.map_cons, List.idxOf_cons, show (y.nm == s) = false by simpa using hn, cond_false, List.getElem?_cons_succ]
      exact h2
/-- More fuel gives the same. -/
theorem overL_more (l : List EntT) (deep : Int) : ∀ (f p wi : Nat) (b : List UInt8) (t : Nat) (o : List UInt8) (x : List UInt8 × Nat), overL l deep f p wi b t o = some x → overL l deep (f + 1) p wi b t o = some x := by
  intro f
  induction f with
  | zero => intro p wi b t o x h; cases h
  | succ f ih =>
    intro p wi b t o x h
    rw [overL] at h ⊢
    split at h
    · cases h
    · rename_i hb
      rw [if_neg hb]
      cases hc : b[t]? with
      | none => simp only [hc] at h ⊢; exact h
      | some c =>
        simp only [hc] at h ⊢
        by_cases h60 : c = 60
        · rw [if_pos h60] at h ⊢; exact h
        · rw [if_neg h60] at h ⊢
          by_cases h38 : c = 38
          · rw [if_pos h38] at h ⊢
            by_cases he : (refS l deep (wi + 1) b t o).1 ≠ 0
            · rw [if_pos he] at h ⊢; exact h
            · rw [if_neg he] at h ⊢
              cases hx : (refS l deep (wi + 1) b t o).2.2.2 with
              | none => simp only [hx] at h ⊢; exact ih _ _ _ _ _ _ h
              | some y =>
                simp only [hx] at h ⊢
                cases hi : overL l deep f (p + o.length) (wi + 1) y 0 [] with
                | none => rw [hi] at h; cases h
                | some ue =>
                  obtain ⟨u, e1⟩ := ue
                  rw [hi] at h
                  rw [ih _ _ _ _ _ _ hi]
                  simp only at h ⊢
                  by_cases he1 : e1 ≠ 0
                  · rw [if_pos he1] at h ⊢; exact h
                  · rw [if_neg he1] at h ⊢; exact ih _ _ _ _ _ _ h
          · rw [if_neg h38] at h ⊢; exact ih _ _ _ _ _ _ h
theorem overL_mono (l : List EntT) (deep : Int) (f p wi : Nat) (b : List UInt8) (t : Nat) (o : List UInt8) (x : List UInt8 × Nat) (h : overL l deep f p wi b t o = some x) : ∀ f', f ≤ f' → overL l deep f' p wi b t o = some x := by
  intro f' hf
  induction f' with
  | zero =>
    have : f = 0 := by omega
    subst this
    exact h
  | succ n ih =>
    by_cases e : f = n + 1
    · subst e; exact h
    · exact overL_more l deep _ _ _ _ _ _ _ (ih (by omega))
/-- What expanding a text costs, where entities lead on so deep at most. -/
def costB (g : List EntT) : Nat → List UInt8 → Nat
  | 0, _ => 0
  | k + 1, b => b.length + ((rfsA b 0).map fun r => match fndE g r.2.2 with | none => 0 | some x => costB g k x.tx).sum
def refC (g : List EntT) (k : Nat) (r : Nat × Nat × List UInt8) : Nat := match fndE g r.2.2 with | none => 0 | some x => costB g k x.tx
/-- What the rest of a text costs. -/
def remB (g : List EntT) (k : Nat) (b : List UInt8) (t : Nat) : Nat := (b.length - t) + ((rfsA b t).map (refC g k)).sum
theorem cost_rem (g : List EntT) (k : Nat) (b : List UInt8) : costB g (k + 1) b = remB g k b 0 := rfl
/-- Entities lead on no deeper than so. -/
def deepB (g : List EntT) : Nat → List UInt8 → Prop
  | 0, b => ∀ r ∈ rfsA b 0, fndE g r.2.2 = none
  | k + 1, b => ∀ r ∈ rfsA b 0, ∀ x, fndE g r.2.2 = some x → deepB g k x.tx
theorem digs_no38 (b : Int) (l : List UInt8) : ∀ c ∈ digs b l, c ≠ 38 := by
  intro c hc e
  have := digs_mem b l c hc
  subst e
  have h2 : digit b ((38 : UInt8).toNat : Int) < 0 := by
    unfold digit
    rw [show (((38 : UInt8).toNat : Nat) : Int) = 38 by decide]
    (repeat' split) <;> omega
  omega
theorem charBody_next (b cap : Int) (l : List UInt8) (k : Nat) (h : (charBody b cap l k).2.2 = 0) : k + 2 ≤ (charBody b cap l k).2.1 ∧ (charBody b cap l k).2.1 ≤ l.length ∧ ∀ i, k ≤ i → i < (charBody b cap l k).2.1 → l[i]? ≠ some 38 := by
  unfold charBody at h ⊢
  simp only at h ⊢
  split at h
  · cases h
  · rename_i h1
    split at h
    · rename_i h2
      rw [if_neg h1, if_pos h2]
      simp only
      have h3 : l[k + (digs b (l.drop k)).length]? = some 59 := by
        by_cases e : l[k + (digs b (l.drop k)).length]? = some 59
        · exact e
        · exact absurd (.inr e) h1
      have h4 : (digs b (l.drop k)).length ≠ 0 := fun e => h1 (.inl e)
      have h5 := (List.getElem?_eq_some_iff.1 h3).1
      refine ⟨by omega, by omega, fun i hi1 hi2 e => ?_⟩
      by_cases hi : i = k + (digs b (l.drop k)).length
      · subst hi; rw [h3] at e; cases e
      · have h6 : (l.drop k)[i - k]? = some 38 := by rw [List.getElem?_drop, show k + (i - k) = i by omega]; exact e
        have h7 : (digs b (l.drop k))[i - k]? = some 38 := by
          rw [digs_take, List.getElem?_take_of_lt (by omega)]; exact h6
        exact digs_no38 b _ _ (List.mem_of_getElem? h7) rfl
    · cases h
theorem charOut_nxt (l : List UInt8) (k : Nat) (h : (charOut l k).2.2 = 0) : k + 4 ≤ (charOut l k).2.1 ∧ (charOut l k).2.1 ≤ l.length ∧ ∀ i, k < i → i < (charOut l k).2.1 → l[i]? ≠ some 38 := by
  unfold charOut at h ⊢
  split at h
  · rename_i h1
    rw [if_pos h1]
    split at h
    · rename_i h2
      rw [if_pos h2]
      obtain ⟨a1, a2, a3⟩ := charBody_next 16 2097152 l (k + 3) h
      refine ⟨by omega, a2, fun i h3 h4 => ?_⟩
      by_cases e1 : i = k + 1
      · subst e1; rw [h1.2]; simp
      · by_cases e2 : i = k + 2
        · subst e2; rw [h2]; simp
        · exact a3 i (by omega) h4
    · rename_i h2
      rw [if_neg h2]
      obtain ⟨a1, a2, a3⟩ := charBody_next 10 2097152 l (k + 2) h
      refine ⟨by omega, a2, fun i h3 h4 => ?_⟩
      by_cases e1 : i = k + 1
      · subst e1; rw [h1.2]; simp
      · exact a3 i (by omega) h4
  · cases h
theorem refOut_hash (b : List UInt8) (t : Nat) (h : (b.drop t).take 2 = [38, 35]) : refOut 38 b t = ([], 0, 7) := by
  refine ref_hash b t ?_ ?_
  · have : ((b.drop t).take 2)[0]? = some 38 := by rw [h]; rfl
    rw [List.getElem?_take_of_lt (by omega), List.getElem?_drop] at this
    exact this
  · have : ((b.drop t).take 2)[1]? = some 35 := by rw [h]; rfl
    rw [List.getElem?_take_of_lt (by omega), List.getElem?_drop] at this
    exact this
/-- Behind a reference to a character the same references come. -/
theorem rfsA_char (b : List UInt8) (t : Nat) (h : (b.drop t).take 2 = [38, 35]) (h0 : (charOut b t).2.2 = 0) : rfsA b t = rfsA b (charOut b t).2.1 := by
  obtain ⟨h1, h2, h3⟩ := charOut_nxt b t h0
  have h4 : t < b.length := by omega
  rw [rfsA_no b t h4 (by rw [refOut_hash b t h]; simp), rfsA_skip b (t + 1) ((charOut b t).2.1 - (t + 1)) (fun i h4 h5 => h3 i (by omega) (by omega)) (by omega)]
  congr 1
  omega
theorem rfsA_sub (b : List UInt8) : ∀ (m t : Nat), b.length - t ≤ m → ∀ r ∈ rfsA b t, ∃ k, t ≤ k ∧ rfsA b k = r :: rfsA b r.2.1 ∧ r = (k, (refOut 38 b k).2.1, (refOut 38 b k).1) ∧ (refOut 38 b k).2.2 = 0 := by
  intro m
  induction m with
  | zero => intro t h r hr; rw [rfsA_end b t (by omega)] at hr; cases hr
  | succ m ih =>
    intro t h r hr
    by_cases ht : t < b.length
    · by_cases h0 : (refOut 38 b t).2.2 = 0
      · have hn := refOut_nx b t h0
        have he := rfsA_ref b t h0
        rw [he] at hr
        rcases List.mem_cons.1 hr with rfl | hr
        · exact ⟨t, Nat.le_refl _, he, rfl, h0⟩
        · obtain ⟨k, h1, h2⟩ := ih _ (by omega) r hr
          exact ⟨k, by omega, h2⟩
      · rw [rfsA_no b t ht h0] at hr
        obtain ⟨k, h1, h2⟩ := ih _ (by omega) r hr
        exact ⟨k, by omega, h2⟩
    · rw [rfsA_end b t (by omega)] at hr; cases hr
theorem deepB_at {g : List EntT} {k : Nat} {b : List UInt8} (h : deepB g k b) {r : Nat × Nat × List UInt8} (hr : r ∈ rfsA b 0) {x : EntT} (hx : fndE g r.2.2 = some x) : ∃ k', k = k' + 1 ∧ deepB g k' x.tx := by
  cases k with
  | zero => have := h r hr; rw [this] at hx; cases hx
  | succ k => exact ⟨k, rfl, h r hr x hx⟩
/-- Where entities lead on no deeper than so, the text comes to an end, and puts out no more than it costs. -/
theorem over_ends (l : List EntT) (deep : Int) : ∀ (k : Nat) (b : List UInt8) (wi p : Nat), deepB (innerE l) k b → wi + k ≤ 1000 → ∀ (m t : Nat) (o : List UInt8), b.length - t ≤ m → (∀ r ∈ rfsA b t, r ∈ rfsA b 0) → p + o.length + remB (innerE l) k b t ≤ 1000000 →
    ∃ f o2 e, overL l deep f p wi b t o = some (o2, e) ∧ o2.length ≤ o.length + remB (innerE l) k b t := by
  intro k
  induction k using Nat.strongRecOn with
  | ind k ihk =>
    intro b wi p hd hw m
    induction m with
    | zero =>
      intro t o hm _ hp
      refine ⟨1, o, 0, ?_, by omega⟩
      rw [overL, if_neg (by omega), List.getElem?_eq_none (by omega)]
    | succ m ih =>
      intro t o hm hsub hp
      have hb : ¬ (1000000 < p + o.length ∨ 1000 < wi) := by omega
      by_cases ht : t < b.length
      · obtain ⟨c, hc⟩ : ∃ c, b[t]? = some c := ⟨_, List.getElem?_eq_getElem ht⟩
        have step : ∀ t' o', t < t' → (∀ r ∈ rfsA b t', r ∈ rfsA b 0) → o'.length + remB (innerE l) k b t' ≤ o.length + remB (innerE l) k b t → ∃ f o2 e, overL l deep f p wi b t' o' = some (o2, e) ∧ o2.length ≤ o.length + remB (innerE l) k b t := by
          intro t' o' h1 h2 h3
          obtain ⟨f, o2, e, h4, h5⟩ := ih t' o' (by omega) h2 (by omega)
          exact ⟨f, o2, e, h4, by omega⟩
        have hrun : ∀ n, overL l deep (n + 1) p wi b t o = if c = 60 then some ([], 7)
            else if c = 38 then
              if (refS l deep (wi + 1) b t o).1 ≠ 0 then some ([], (refS l deep (wi + 1) b t o).1)
              else match (refS l deep (wi + 1) b t o).2.2.2 with
                | none => overL l deep n p wi b (refS l deep (wi + 1) b t o).2.1 (refS l deep (wi + 1) b t o).2.2.1
                | some x => match overL l deep n (p + o.length) (wi + 1) x 0 [] with
                  | none => none
                  | some (u, e) => if e ≠ 0 then some ([], e) else overL l deep n p wi b (refS l deep (wi + 1) b t o).2.1 (o ++ u)
            else overL l deep n p wi b (t + 1) (o ++ [if isBl c then 32 else c]) := fun n => by rw [overL, if_neg hb, hc]; rfl
        by_cases h60 : c = 60
        · exact ⟨1, [], 7, by rw [hrun, if_pos h60], by simp⟩
        · simp only [if_neg h60] at hrun
          by_cases h38 : c = 38
          · simp only [if_pos h38] at hrun
            by_cases hn : (b.drop t).take 2 = [38, 35]
            · by_cases he : (charOut b t).2.2 ≠ 0
              · have hR : refS l deep (wi + 1) b t o = ((charOut b t).2.2, t, o, none) := by unfold refS; rw [if_pos hn, if_pos he]
                refine ⟨1, [], (refS l deep (wi + 1) b t o).1, ?_, by simp⟩
                rw [hrun, hR]
                simp only
                rw [if_pos he]
              · have hR : refS l deep (wi + 1) b t o = (0, (charOut b t).2.1, o ++ encL (charOut b t).1.toNat, none) := by unfold refS; rw [if_pos hn, if_neg he]
                have he0 : (charOut b t).2.2 = 0 := by omega
                have hs := rfsA_char b t hn he0
                obtain ⟨h1, h2, _⟩ := charOut_nxt b t he0
                obtain ⟨f, o2, e, h4, h5⟩ := step (charOut b t).2.1 (o ++ encL (charOut b t).1.toNat) (by omega) (by rw [← hs]; exact hsub) (by
                  have := (encL_len (charOut b t).1.toNat).2
                  unfold remB
                  rw [← hs, List.length_append]
                  omega)
                refine ⟨f + 1, o2, e, ?_, h5⟩
                rw [hrun, hR]
                simp only
                rw [if_neg (by simp)]
                exact h4
            · by_cases he : (refOut 38 b t).2.2 ≠ 0
              · have hR : refS l deep (wi + 1) b t o = ((refOut 38 b t).2.2, t, o, none) := by unfold refS; rw [if_neg hn, if_pos he]
                refine ⟨1, [], (refS l deep (wi + 1) b t o).1, ?_, by simp⟩
                rw [hrun, hR]
                simp only
                rw [if_pos he]
              · have he0 : (refOut 38 b t).2.2 = 0 := by omega
                have hs := rfsA_ref b t he0
                have hnx := refOut_nx b t he0
                have hsub2 : ∀ r ∈ rfsA b (refOut 38 b t).2.1, r ∈ rfsA b 0 := fun r hr => hsub r (by rw [hs]; exact List.mem_cons_of_mem _ hr)
                have hrem : remB (innerE l) k b t = (b.length - t) + (refC (innerE l) k (t, (refOut 38 b t).2.1, (refOut 38 b t).1) + ((rfsA b (refOut 38 b t).2.1).map (refC (innerE l) k)).sum) := by
                  unfold remB
                  rw [hs, List.map_cons, List.sum_cons]
                have hrem2 : remB (innerE l) k b (refOut 38 b t).2.1 = (b.length - (refOut 38 b t).2.1) + ((rfsA b (refOut 38 b t).2.1).map (refC (innerE l) k)).sum := rfl
                by_cases hk : 0 < knownOf ⟨(refOut 38 b t).1.toArray⟩
                · have hR : refS l deep (wi + 1) b t o = (0, (refOut 38 b t).2.1, o ++ [UInt8.ofNat (knownOf ⟨(refOut 38 b t).1.toArray⟩)], none) := by unfold refS; rw [if_neg hn, if_neg he, if_pos hk]
                  obtain ⟨f, o2, e, h4, h5⟩ := step (refOut 38 b t).2.1 (o ++ [UInt8.ofNat (knownOf ⟨(refOut 38 b t).1.toArray⟩)]) (by omega) hsub2 (by
                    rw [List.length_append, List.length_singleton]
                    omega)
                  refine ⟨f + 1, o2, e, ?_, h5⟩
                  rw [hrun, hR]
                  simp only
                  rw [if_neg (by simp)]
                  exact h4
                · cases hf : fndE l (refOut 38 b t).1 with
                  | none =>
                    have hR : refS l deep (wi + 1) b t o = (7, t, o, none) := by unfold refS; rw [if_neg hn, if_neg he, if_neg hk, hf]
                    refine ⟨1, [], 7, ?_, by simp⟩
                    rw [hrun, hR]
                    simp
                  | some x =>
                    by_cases hxo : x.out = true
                    · have hR : refS l deep (wi + 1) b t o = (7, t, o, none) := by unfold refS; rw [if_neg hn, if_neg he, if_neg hk, hf]; simp only; rw [if_pos hxo]
                      refine ⟨1, [], 7, ?_, by simp⟩
                      rw [hrun, hR]
                      simp
                    · by_cases hdp : deep < ((wi + 1 : Nat) : Int)
                      · have hR : refS l deep (wi + 1) b t o = (11, t, o, none) := by unfold refS; rw [if_neg hn, if_neg he, if_neg hk, hf]; simp only; rw [if_neg hxo, if_pos hdp]
                        refine ⟨1, [], 11, ?_, by simp⟩
                        rw [hrun, hR]
                        simp
                      · have hR : refS l deep (wi + 1) b t o = (0, (refOut 38 b t).2.1, o, some x.tx) := by unfold refS; rw [if_neg hn, if_neg he, if_neg hk, hf]; simp only; rw [if_neg hxo, if_neg hdp]
                        have hfi := fndE_inner hf (by simpa using hxo)
                        obtain ⟨k', rfl, hd'⟩ := deepB_at hd (r := (t, (refOut 38 b t).2.1, (refOut 38 b t).1)) (hsub _ (by rw [hs]; exact List.mem_cons_self)) hfi
                        have hcost : refC (innerE l) (k' + 1) (t, (refOut 38 b t).2.1, (refOut 38 b t).1) = remB (innerE l) k' x.tx 0 := by
                          unfold refC
                          simp only [hfi]
                          rfl
                        obtain ⟨f1, u, e1, g1, g2⟩ := ihk k' (by omega) x.tx (wi + 1) (p + o.length) hd' (by omega) x.tx.length 0 [] (by omega) (fun r hr => hr) (by simp only [List.length_nil]; omega)
                        simp only [List.length_nil, Nat.zero_add] at g2
                        by_cases hE : e1 ≠ 0
                        · refine ⟨f1 + 1, [], e1, ?_, by simp⟩
                          rw [hrun, hR]
                          simp only
                          rw [if_neg (by simp), g1]
                          simp only
                          rw [if_pos hE]
                        · obtain ⟨f2, o2, e, h4, h5⟩ := step (refOut 38 b t).2.1 (o ++ u) (by omega) hsub2 (by rw [List.length_append]; omega)
                          refine ⟨f1 + f2 + 1, o2, e, ?_, h5⟩
                          rw [hrun, hR]
                          simp only
                          rw [if_neg (by simp), overL_mono l deep _ _ _ _ _ _ _ g1 (f1 + f2) (by omega)]
                          simp only
                          rw [if_neg hE]
                          exact overL_mono l deep _ _ _ _ _ _ _ h4 _ (by omega)
          · simp only [if_neg h38] at hrun
            have hs := rfsA_no b t ht (fun h => by have := (refOut_nx b t h).2.2; rw [hc] at this; exact h38 (Option.some.inj this))
            obtain ⟨f, o2, e, h4, h5⟩ := step (t + 1) (o ++ [if isBl c then 32 else c]) (by omega) (by rw [← hs]; exact hsub) (by
              unfold remB
              rw [← hs, List.length_append, List.length_singleton]
              omega)
            exact ⟨f + 1, o2, e, by rw [hrun]; exact h4, h5⟩
      · refine ⟨1, o, 0, ?_, by omega⟩
        rw [overL, if_neg hb, List.getElem?_eq_none (by omega)]
end Go.Proofs.YtfemfgkcgboopaaGreatDoor
/- A map of entities. -/
namespace Go.Proofs.YtfemfgkcgboopaaGreatDoor
open Go.ChangeShapes Go.WideShapes Go.ChangeAt Go.RowKit
set_option linter.unusedVariables false
/-- How an element of any type reads: as itself. -/
def heldElem (v : Value) : Option (DataW Value × List MemPlace) := some (.held v, [])
def entV (x : EntT) : Value := .agg (cE x).toArray
def noE : EntT := ⟨[], [], false, [], [], []⟩
theorem zeroEnt (w : World) : (zeroValue 43).run Tryz.prog w = .ok (entV noE) w := by kernel_rfl
/-- The first entity of each name, in a map. -/
def EnI (w : World) (b : Nat) (acc : List EntT) : Prop := ∃ D : DataW Value, w.ownsMap Tryz.prog 9 heldElem b acc.length D ∧ (∀ s : List UInt8, Go.Maps.has D (.string s) = (fndE acc s).isSome) ∧ ∀ (s : List UInt8), D.atKey (.string s) (.held (entV noE)) = .held (entV ((fndE acc s).getD noE))
theorem EnI.start (w : World) : EnI (w.alloc (.map #[] 0)) w.heap.size [] := ⟨.map [], World.ownsMap_made _ _ _ _, fun s => rfl, fun s => rfl⟩
theorem fndE_snoc (acc : List EntT) (x : EntT) (s : List UInt8) : fndE (acc ++ [x]) s = (fndE acc s).or (if x.nm = s then some x else none) := by
  unfold fndE
  rw [List.find?_append]
  congr 1
  by_cases h : x.nm = s <;> simp [h]
theorem enI_snoc {D : DataW Value} {acc : List EntT} {x : EntT} (hi : Go.Maps.IsMap D) (hx : (fndE acc x.nm).isSome = false) (hh : ∀ s : List UInt8, Go.Maps.has D (.string s) = (fndE acc s).isSome) (ha : ∀ s : List UInt8, D.atKey (.string s) (.held (entV noE)) = .held (entV ((fndE acc s).getD noE))) :
    (∀ s : List UInt8, Go.Maps.has (D.put (.string x.nm) (.held (entV x))) (.string s) = (fndE (acc ++ [x]) s).isSome) ∧ ∀ s : List UInt8, (D.put (.string x.nm) (.held (entV x))).atKey (.string s) (.held (entV noE)) = .held (entV ((fndE (acc ++ [x]) s).getD noE)) := by
  refine ⟨fun s => ?_, fun s => ?_⟩
  · rw [fndE_snoc]
    by_cases e : s = x.nm
    · subst e
      rw [Go.Maps.has_put_same hi (by simp [WideAt.IsKeyLit])]
      simp
    · rw [Go.Maps.has_put_other (by simpa using e), hh, if_neg (fun h => e h.symm)]
      simp
  · rw [fndE_snoc]
    by_cases e : s = x.nm
    · subst e
      rw [Go.Maps.atKey_put_same hi (by simp [WideAt.IsKeyLit])]
      have : fndE acc x.nm = none := by
        cases h : fndE acc x.nm with
        | none => rfl
        | some y => rw [h] at hx; cases hx
      rw [this]
      simp
    · rw [Go.Maps.atKey_put_other (by simpa using e), ha, if_neg (fun h => e h.symm)]
      simp
theorem fndE_old {acc : List EntT} {x : EntT} (hx : (fndE acc x.nm).isSome = true) (s : List UInt8) : fndE (acc ++ [x]) s = fndE acc s := by
  rw [fndE_snoc]
  by_cases e : x.nm = s
  · subst e
    cases h : fndE acc x.nm with
    | none => rw [h] at hx; cases hx
    | some y => rfl
  · rw [if_neg e]; simp
theorem EnI.same {w : World} {b : Nat} {acc : List EntT} {x : EntT} (h : EnI w b acc) (hx : (fndE acc x.nm).isSome = true) : EnI w b (acc ++ [x]) := by
  obtain ⟨D, h1, h2, h3⟩ := h
  refine ⟨D, h1.mono (by simp), fun s => by rw [fndE_old hx]; exact h2 s, fun s => by rw [fndE_old hx]; exact h3 s⟩
theorem EnI.kept {w w' : World} {b : Nat} {acc : List EntT} (h : EnI w b acc) (hb : w'.heap[b]? = w.heap[b]?) : EnI w' b acc := by
  obtain ⟨D, h1, h2, h3⟩ := h
  obtain ⟨es, clock, hq, r⟩ := h1
  exact ⟨D, ⟨es, clock, hb.trans hq, r⟩, h2, h3⟩
theorem EnI.lt {w : World} {b : Nat} {acc : List EntT} (h : EnI w b acc) : b < w.heap.size := by
  obtain ⟨D, h1, _⟩ := h
  exact h1.lt
theorem EnI.ne {w : World} {b : Nat} {acc : List EntT} (h : EnI w b acc) {k : Nat} {vs : Array Value} {T : TypeId} {f : Nat × Nat} (hk : w.heap[k]? = some (.cells vs T f)) : k ≠ b := by
  obtain ⟨D, h1, _⟩ := h
  obtain ⟨es, clock, hq, r⟩ := h1
  intro e
  subst e
  rw [hq] at hk
  cases hk
end Go.Proofs.YtfemfgkcgboopaaGreatDoor
