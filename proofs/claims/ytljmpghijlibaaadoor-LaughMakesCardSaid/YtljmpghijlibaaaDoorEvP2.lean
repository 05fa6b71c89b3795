/- Values of entities: where all references are right. -/
import Derived.Test.YtljmpghijlibaaaDoorRows
import Derived.WalkKit
import Derived.ProofKit
import Derived.OpenShut
import Derived.ShutString
import Derived.ChangeOld
import Derived.Below
import Derived.BigQuiet
import Derived.Deep.QuietTactic
import Derived.Lib.Hide
import Derived.Deep.RegionHeld3
import Derived.Lib.SlBytesConst
import Derived.Laws.CopyOwn
import Derived.Laws.CopyRow
import Derived.Lib.Bytes
import Derived.Deep.LoopGhost
import Derived.Deep.DeepFit
import Derived.Deep.DeepMust
import Derived.WalkSpells
import Derived.WalkLawsBesides
import Derived.Test.YtljmpghijlibaaaDoorShelf
import Derived.Test.YtljmpghijlibaaaDoorBase
import Derived.Test.YtljmpghijlibaaaDoorCharPlain
import Derived.Test.YtljmpghijlibaaaDoorChars1
import Derived.Test.YtljmpghijlibaaaDoorUtf1
import Derived.Test.YtljmpghijlibaaaDoorUtf2
import Derived.Test.YtljmpghijlibaaaDoorUtf3
import Derived.Test.YtljmpghijlibaaaDoorName1
import Derived.Test.YtljmpghijlibaaaDoorName2
import Derived.Test.YtljmpghijlibaaaDoorName3
import Derived.Test.YtljmpghijlibaaaDoorCref1
import Derived.Test.YtljmpghijlibaaaDoorY2
import Derived.Test.YtljmpghijlibaaaDoorY3
import Derived.Test.YtljmpghijlibaaaDoorMiscP
import Derived.Test.YtljmpghijlibaaaDoorEnc
import Derived.Test.YtljmpghijlibaaaDoorEvP
namespace Go.Proofs.YtljmpghijlibaaaDoor
open Go.ChangeShapes Go.WideShapes Go.ChangeAt Go.RowKit
set_option linter.unusedVariables false
/-- Is each '&' a reference? -/
def mgood (l : List UInt8) : Prop := ∀ j, l[j]? = some 38 → (markOut l j).2 = 0
theorem dec_38 (l : List UInt8) (r n i : Nat) (h : dec l = some (r, n)) (hi : i < n) (h38 : l[i]? = some 38) : r = 38 := by
  cases l with
  | nil => simp [dec] at h
  | cons c t =>
    simp only [dec] at h
    split at h
    · cases h
    · rename_i h0
      simp only [not_or, Nat.not_lt] at h0
      split at h
      · rename_i r' hr
        split at h
        · cases h
          cases i with
          | zero =>
            simp at h38
            subst h38
            have hl : lenB (38 : UInt8).toNat = 1 := by decide
            rw [hl] at hr
            simp [cont, msk] at hr
            omega
          | succ i =>
            exfalso
            have h2 : (t.take (lenB c.toNat - 1))[i]? = some 38 := by
              rw [List.getElem?_take_of_lt (by omega)]
              simpa using h38
            have key : ∀ (u : List UInt8) (a b : Nat), cont a u = some b → ∀ i : Nat, u[i]? = some 38 → False := by
              intro u
              induction u with
              | nil => intro a b _ i hi; simp at hi
              | cons d v ih =>
                intro a b hc i hi
                unfold cont at hc
                split at hc
                · rename_i hd
                  cases i with
                  | zero =>
                    simp at hi
                    subst hi
                    simp at hd
                  | succ i => exact ih _ _ hc i (by simpa using hi)
                · cases hc
            exact key _ _ _ hr i h2
        · cases h
      · cases h
/-- No '&' stands in a name. -/
theorem endL_38 : ∀ (K : Nat) (f g : Int → Bool) (l : List UInt8) (i : Nat), f 38 = false → g 38 = false → i < endL f g K l → l[i]? ≠ some 38
  | 0, f, g, l, i, _, _, hi => by simp [endL] at hi
  | K + 1, f, g, l, i, hf, hg, hi => by
    intro h38
    unfold endL at hi
    cases hd : dec l with
    | none => rw [hd] at hi; simp at hi
    | some x =>
      obtain ⟨r, n⟩ := x
      rw [hd] at hi
      simp only at hi
      split at hi
      · rename_i hfr
        by_cases hin : i < n
        · have := dec_38 l r n i hd hin h38
          subst this
          have : f ((38 : Nat) : Int) = true := hfr
          rw [show ((38 : Nat) : Int) = 38 from rfl, hf] at this
          cases this
        · exact endL_38 K g g (l.drop n) (i - n) hg hg (by omega) (by rw [List.getElem?_drop, show n + (i - n) = i by omega]; exact h38)
      · omega
theorem no38 : noColon isStart 38 = false ∧ noColon isMore 38 = false := by constructor <;> decide +kernel
theorem digs_38 (b : Int) (hb : b = 10 ∨ b = 16) (l : List UInt8) (i : Nat) (hi : i < (digs b l).length) : l[i]? ≠ some 38 := by
  intro h
  have h1 := digs_take b l
  have h2 : (digs b l)[i]? = some 38 := by rw [h1, List.getElem?_take_of_lt hi]; exact h
  have h3 := digs_mem b l 38 (List.mem_of_getElem? h2)
  rcases hb with rfl | rfl
  · exact absurd h3 (by decide +kernel)
  · exact absurd h3 (by decide +kernel)
theorem charBody_38 (b cap : Int) (hb : b = 10 ∨ b = 16) (l : List UInt8) (k j : Nat) (h : (charBody b cap l k).2.2 = 0) (h1 : k ≤ j) (h2 : j < (charBody b cap l k).2.1) : l[j]? ≠ some 38 := by
  unfold charBody at h h2
  simp only at h h2
  split at h
  · cases h
  · rename_i h3
    rw [if_neg h3] at h2
    simp only [not_or, Decidable.not_not] at h3
    split at h
    · rename_i h4
      rw [if_pos h4] at h2
      simp only at h2
      intro h38
      by_cases hj : j < k + (digs b (l.drop k)).length
      · exact digs_38 b hb (l.drop k) (j - k) (by omega) (by rw [List.getElem?_drop, show k + (j - k) = j by omega]; exact h38)
      · have : j = k + (digs b (l.drop k)).length := by omega
        rw [this, h3.2] at h38
        cases h38
    · cases h
theorem markOut_38 (l : List UInt8) (k j : Nat) (h : (markOut l k).2 = 0) (h1 : k < j) (h2 : j < (markOut l k).1) : l[j]? ≠ some 38 := by
  unfold markOut at h h2
  by_cases h35 : l[k + 1]? = some 35
  · rw [if_pos h35] at h h2
    unfold charOut at h h2
    split at h
    · rename_i hh
      rw [if_pos hh] at h2
      intro h38
      have hj1 : j ≠ k + 1 := fun e => by rw [e, h35] at h38; cases h38
      split at h
      · rename_i hx
        rw [if_pos hx] at h2
        have hj2 : j ≠ k + 2 := fun e => by rw [e, hx] at h38; cases h38
        exact charBody_38 16 2097152 (Or.inr rfl) l (k + 3) j h (by omega) h2 h38
      · rename_i hx
        rw [if_neg hx] at h2
        exact charBody_38 10 2097152 (Or.inl rfl) l (k + 2) j h (by omega) h2 h38
    · cases h
  · rw [if_neg h35] at h h2
    unfold refOut at h h2
    cases hc : l[k]? with
    | none => rw [hc] at h; cases h
    | some c =>
      rw [hc] at h h2
      simp only at h h2
      split at h
      · rename_i hm
        rw [if_pos hm] at h2
        split at h
        · rename_i h3; exact absurd h h3
        · rename_i h3
          rw [if_neg h3] at h2
          cases hd : l[(plainOut l (k + 1)).2.1]? with
          | none => rw [hd] at h; cases h
          | some d =>
            rw [hd] at h h2
            simp only at h h2
            split at h
            · rename_i h59
              rw [if_pos h59] at h2
              simp only at h2
              intro h38
              by_cases hj : j < (plainOut l (k + 1)).2.1
              · unfold plainOut at hj h3
                simp only at hj h3
                split at hj
                · simp at hj
                · split at hj
                  · simp at hj
                  · simp only at hj
                    exact endL_38 l.length _ _ (l.drop (k + 1)) (j - (k + 1)) no38.1 no38.2 (by omega) (by rw [List.getElem?_drop, show k + 1 + (j - (k + 1)) = j by omega]; exact h38)
              · have : j = (plainOut l (k + 1)).2.1 := by omega
                rw [this, hd, h59] at h38
                cases h38
            · cases h
      · cases h
/-- References are right just where each '&' is one. -/
theorem refs_all (l : List UInt8) : ∀ (f k : Nat), l.length < f + k → (refsF l f k).2 = 0 → ∀ j, k ≤ j → l[j]? = some 38 → (markOut l j).2 = 0
  | 0, k, hf, _, j, hk, hj => by
    have := (List.getElem?_eq_some_iff.1 hj).1
    omega
  | f + 1, k, hf, h, j, hk, hj => by
    have hjl := (List.getElem?_eq_some_iff.1 hj).1
    unfold refsF at h
    rw [if_neg (by omega)] at h
    split at h
    · rename_i h1
      have : j ≠ k := fun e => h1 (by rw [← e]; exact hj)
      exact refs_all l f (k + 1) (by omega) h j (by omega) hj
    · split at h
      · rename_i h2; exact absurd h h2
      · rename_i h2
        have h2' : (markOut l k).2 = 0 := by simpa using h2
        by_cases e : j = k
        · rw [e]; exact h2'
        · have hn := markOut_next l k h2'
          by_cases hlt : j < (markOut l k).1
          · exact absurd hj (markOut_38 l k j h2' (by omega) hlt)
          · exact refs_all l f _ (by omega) h j (by omega) hj
theorem refs_of_all (l : List UInt8) : ∀ (f k : Nat), (∀ j, k ≤ j → l[j]? = some 38 → (markOut l j).2 = 0) → (refsF l f k).2 = 0
  | 0, k, _ => rfl
  | f + 1, k, h => by
    unfold refsF
    split
    · rfl
    · split
      · exact refs_of_all l f (k + 1) fun j hj => h j (by omega)
      · rename_i h1 h2
        have h38 : l[k]? = some 38 := by simpa using h2
        have h3 := h k (Nat.le_refl _) h38
        rw [if_neg (by simpa using h3)]
        have hn := markOut_next l k h3
        exact refs_of_all l f _ fun j hj => h j (by omega)
theorem refs_mgood (l : List UInt8) : (refsOut l).2 = 0 ↔ mgood l := by
  constructor
  · intro h j hj
    exact refs_all l (l.length + 1) 0 (by omega) h j (Nat.zero_le _) hj
  · intro h
    exact refs_of_all l _ 0 fun j _ hj => h j hj
theorem mgood_c {l : List UInt8} (h : mgood l) : cgood l := fun j h1 h2 => by
  have := h j h1
  unfold markOut at this
  rwa [if_pos h2] at this
end Go.Proofs.YtljmpghijlibaaaDoor
