/- Values of entities: one behind the other. -/
import Derived.Test.YtljmpghijlibaaaDoorRows
import Derived.WalkKit
import Derived.ProofKit
import Derived.OpenShut
import Derived.ShutString
import Derived.ChangeOld
import Derived.Below
import Derived.BigQuiet
import Derived.Deep.QuietTactic
import Derived.Lib.Hide
import Derived.Deep.RegionHeld3
import Derived.Lib.SlBytesConst
import Derived.Laws.CopyOwn
import Derived.Laws.CopyRow
import Derived.Lib.Bytes
import Derived.Deep.LoopGhost
import Derived.Deep.DeepFit
import Derived.Deep.DeepMust
import Derived.WalkSpells
import Derived.WalkLawsBesides
import Derived.Test.YtljmpghijlibaaaDoorShelf
import Derived.Test.YtljmpghijlibaaaDoorBase
import Derived.Test.YtljmpghijlibaaaDoorCharPlain
import Derived.Test.YtljmpghijlibaaaDoorChars1
import Derived.Test.YtljmpghijlibaaaDoorUtf1
import Derived.Test.YtljmpghijlibaaaDoorUtf2
import Derived.Test.YtljmpghijlibaaaDoorUtf3
import Derived.Test.YtljmpghijlibaaaDoorName1
import Derived.Test.YtljmpghijlibaaaDoorName2
import Derived.Test.YtljmpghijlibaaaDoorName3
import Derived.Test.YtljmpghijlibaaaDoorCref1
import Derived.Test.YtljmpghijlibaaaDoorY2
import Derived.Test.YtljmpghijlibaaaDoorY3
import Derived.Test.YtljmpghijlibaaaDoorMiscP
import Derived.Test.YtljmpghijlibaaaDoorEnc
import Derived.Test.YtljmpghijlibaaaDoorEvP
import Derived.Test.YtljmpghijlibaaaDoorEvP2
import Derived.Test.YtljmpghijlibaaaDoorEscP
import Derived.Test.YtljmpghijlibaaaDoorPlainP
import Derived.Test.YtljmpghijlibaaaDoorKnown
namespace Go.Proofs.YtljmpghijlibaaaDoor
open Go.ChangeShapes Go.WideShapes Go.ChangeAt Go.RowKit
set_option linter.unusedVariables false
theorem endL_fuel : ∀ (K K' : Nat) (f g : Int → Bool) (l : List UInt8), l.length ≤ K → l.length ≤ K' → endL f g K l = endL f g K' l
  | 0, K', f, g, l, h, _ => by
    have : l = [] := List.length_eq_zero_iff.1 (by omega)
    subst this
    rw [endL_none f g 0 [] rfl, endL_none f g K' [] rfl]
  | K + 1, 0, f, g, l, _, h => by
    have : l = [] := List.length_eq_zero_iff.1 (by omega)
    subst this
    rw [endL_none f g (K + 1) [] rfl, endL_none f g 0 [] rfl]
  | K + 1, K' + 1, f, g, l, h1, h2 => by
    unfold endL
    cases hd : dec l with
    | none => rfl
    | some x =>
      obtain ⟨r, n⟩ := x
      have hle := dec_le l r n hd
      simp only
      rw [endL_fuel K K' g g (l.drop n) (by rw [List.length_drop]; omega) (by rw [List.length_drop]; omega)]
theorem charOut_shift (l : List UInt8) (k j : Nat) : (charOut l (k + j)).2.2 = (charOut (l.drop k) j).2.2 := by
  have h1 := charOut_drop l (k + j)
  have h2 := charOut_drop (l.drop k) j
  rw [List.drop_drop] at h2
  rw [h1, h2]
theorem plainOut_shift (l : List UInt8) (k j : Nat) (hj : k + j ≤ l.length) : plainOut l (k + j) = ((plainOut (l.drop k) j).1, (if (plainOut (l.drop k) j).2.2 = 0 then k + (plainOut (l.drop k) j).2.1 else 0), (plainOut (l.drop k) j).2.2) := by
  have e : endL (noColon isStart) (noColon isMore) (l.drop k).length ((l.drop k).drop j) = endL (noColon isStart) (noColon isMore) l.length (l.drop (k + j)) := by
    rw [List.drop_drop]
    exact endL_fuel _ _ _ _ _ (by rw [List.length_drop, List.length_drop]; omega) (by rw [List.length_drop]; omega)
  rw [List.drop_drop] at e
  unfold plainOut
  simp only [List.drop_drop, e]
  split
  · simp
  · split
    · simp
    · simp; omega
theorem refOut_shift (l : List UInt8) (k j : Nat) (hj : k + j < l.length) : (refOut 38 l (k + j)).2.2 = (refOut 38 (l.drop k) j).2.2 := by
  have hp := plainOut_shift l k (j + 1) (by omega)
  unfold refOut
  rw [List.getElem?_drop]
  cases hc : l[k + j]? with
  | none => rfl
  | some c =>
    simp only
    split
    · rw [show k + j + 1 = k + (j + 1) by omega, hp]
      simp only
      split
      · rfl
      · rename_i h0
        have h0' : (plainOut (l.drop k) (j + 1)).2.2 = 0 := by simpa using h0
        rw [if_pos h0', List.getElem?_drop]
        cases l[k + (plainOut (l.drop k) (j + 1)).2.1]? with
        | none => rfl
        | some d =>
          simp only
          split <;> rfl
    · rfl
theorem markOut_shift (l : List UInt8) (k j : Nat) (hj : k + j < l.length) : (markOut l (k + j)).2 = (markOut (l.drop k) j).2 := by
  unfold markOut
  rw [List.getElem?_drop, show k + (j + 1) = k + j + 1 by omega]
  split
  · exact charOut_shift l k j
  · exact refOut_shift l k j hj
theorem mgood_drop {l : List UInt8} (h : mgood l) (k : Nat) : mgood (l.drop k) := fun j hj => by
  rw [List.getElem?_drop] at hj
  have hl := (List.getElem?_eq_some_iff.1 hj).1
  rw [← markOut_shift l k j hl]
  exact h _ hj
theorem digs_app (b : Int) (x y : List UInt8) : (digs b x).length < x.length → digs b (x ++ y) = digs b x := by
  induction x with
  | nil => intro h; simp at h
  | cons c t ih =>
    intro h
    rw [List.cons_append]
    unfold digs at h ⊢
    split
    · rename_i hc
      rw [if_pos hc] at h
      simp only [List.length_cons] at h
      rw [ih (by omega)]
    · rfl
theorem charBody_app (b cap : Int) (a y : List UInt8) (k : Nat) (h : (charBody b cap a k).2.2 = 0) : charBody b cap (a ++ y) k = charBody b cap a k := by
  have h' := h
  unfold charBody at h'
  simp only at h'
  split at h'
  · cases h'
  · rename_i h3
    simp only [not_or, Decidable.not_not] at h3
    have hl := (List.getElem?_eq_some_iff.1 h3.2).1
    have hd : (a ++ y).drop k = a.drop k ++ y := List.drop_append_of_le_length (by omega)
    have he : digs b ((a ++ y).drop k) = digs b (a.drop k) := by
      rw [hd]
      exact digs_app b _ _ (by rw [List.length_drop]; omega)
    unfold charBody
    simp only [he]
    rw [List.getElem?_append_left hl]
theorem charOut_app (a y : List UInt8) (k : Nat) (h : (charOut a k).2.2 = 0) : charOut (a ++ y) k = charOut a k := by
  have hn := charOut_next a k h
  have key : k + 2 < a.length := by
    unfold charOut charBody at h hn
    simp only at h hn
    split at h
    · rename_i h1
      rw [if_pos h1] at hn
      split at h
      · rename_i h2
        rw [if_pos h2] at hn
        exact (List.getElem?_eq_some_iff.1 h2).1
      · rename_i h2
        rw [if_neg h2] at hn
        split at h
        · cases h
        · rename_i h3
          simp only [not_or, Decidable.not_not] at h3
          have := (List.getElem?_eq_some_iff.1 h3.2).1
          omega
    · cases h
  unfold charOut at h ⊢
  rw [List.getElem?_append_left (by omega), List.getElem?_append_left (by omega), List.getElem?_append_left key]
  split
  · rename_i h1
    rw [if_pos h1] at h
    split
    · rename_i h2
      rw [if_pos h2] at h
      exact charBody_app _ _ _ _ _ h
    · rename_i h2
      rw [if_neg h2] at h
      exact charBody_app _ _ _ _ _ h
  · rfl
/-- A name up to a sign that is none of it stays so, whatever stands behind. -/
theorem endL_app59 (f0 : Int → Bool) (h0 : f0 59 = false) : ∀ (K : Nat) (f : Int → Bool) (x y : List UInt8) (K' : Nat), f 59 = false → endL f f0 K x ≤ K' → x[endL f f0 K x]? = some 59 → x.length ≤ K → endL f f0 K' (x ++ y) = endL f f0 K x
  | 0, f, x, y, K', _, _, h59, hK => by
    have : x = [] := List.length_eq_zero_iff.1 (by omega)
    subst this
    simp at h59
  | K + 1, f, x, y, K', hf, hK', h59, hK => by
    unfold endL at hK' h59 ⊢
    cases hd : dec x with
    | none =>
      rw [hd] at hK' h59
      simp only at h59
      cases x with
      | nil => simp at h59
      | cons c t =>
        simp at h59
        subst h59
        rw [dec_ascii 59 t (by decide)] at hd
        cases hd
    | some p =>
      obtain ⟨r, n⟩ := p
      have hle := dec_le x r n hd
      rw [hd] at hK' h59
      simp only at hK' h59
      split at h59
      · rename_i hfr
        rw [if_pos hfr] at hK'
        obtain ⟨K2, rfl⟩ : ∃ m, K' = m + 1 := ⟨K' - 1, by omega⟩
        simp only
        rw [dec_append x y r n hd]
        simp only
        rw [if_pos hfr, if_pos hfr]
        have ih := endL_app59 f0 h0 K f0 (x.drop n) y K2 h0 (by omega) (by rw [List.getElem?_drop]; exact h59) (by rw [List.length_drop]; omega)
        rw [List.drop_append_of_le_length (by omega), ih]
      · rename_i hfr
        cases K' with
        | zero => simp [hfr]
        | succ K2 =>
          simp only
          rw [dec_append x y r n hd]
          simp [hfr]
theorem no59 : noColon isStart 59 = false ∧ noColon isMore 59 = false := by constructor <;> decide +kernel
theorem refOut_app (a y : List UInt8) (k : Nat) (h : (refOut 38 a k).2.2 = 0) : (refOut 38 (a ++ y) k).2.2 = 0 ∧ k + 1 < a.length := by
  unfold refOut at h
  cases hc : a[k]? with
  | none => rw [hc] at h; cases h
  | some c =>
    have hk := (List.getElem?_eq_some_iff.1 hc).1
    rw [hc] at h
    simp only at h
    split at h
    · rename_i hm
      split at h
      · rename_i h3; exact absurd h h3
      · rename_i h3
        have h3' : (plainOut a (k + 1)).2.2 = 0 := by simpa using h3
        have hle := plainOut_le a (k + 1) (by omega) h3'
        cases hd : a[(plainOut a (k + 1)).2.1]? with
        | none => rw [hd] at h; cases h
        | some d =>
          rw [hd] at h
          simp only at h
          split at h
          · rename_i h59
            subst h59
            have hlt := (List.getElem?_eq_some_iff.1 hd).1
            refine ⟨?_, by omega⟩
            have hp : plainOut (a ++ y) (k + 1) = plainOut a (k + 1) := by
              have hpo := h3'
              unfold plainOut at hpo hd
              simp only at hpo hd
              split at hpo
              · cases hpo
              · rename_i e0
                rw [if_neg e0] at hd
                split at hpo
                · cases hpo
                · rename_i e1
                  rw [if_neg e1] at hd
                  simp only at hd
                  have e := endL_app59 (noColon isMore) no59.2 a.length (noColon isStart) (a.drop (k + 1)) y (a ++ y).length no59.1 (by have := endL_le a.length (noColon isStart) (noColon isMore) (a.drop (k + 1)); rw [List.length_drop] at this; rw [List.length_append]; omega) (by rw [List.getElem?_drop]; exact hd) (by rw [List.length_drop]; omega)
                  have hdr : (a ++ y).drop (k + 1) = a.drop (k + 1) ++ y := List.drop_append_of_le_length (by omega)
                  have hle2 := endL_le a.length (noColon isStart) (noColon isMore) (a.drop (k + 1))
                  unfold plainOut
                  simp only [hdr, e]
                  rw [if_neg e0, if_neg e1, if_neg e0, if_neg e1, List.take_append_of_le_length hle2]
            unfold refOut
            rw [List.getElem?_append_left hk, hc]
            simp only
            rw [if_pos hm, hp, if_neg (by simpa using h3'), List.getElem?_append_left hlt, hd]
            simp
          · cases h
    · cases h
theorem markOut_app (a y : List UInt8) (k : Nat) (h : (markOut a k).2 = 0) : (markOut (a ++ y) k).2 = 0 := by
  unfold markOut at h ⊢
  by_cases h35 : a[k + 1]? = some 35
  · have hl := (List.getElem?_eq_some_iff.1 h35).1
    rw [if_pos h35] at h
    rw [List.getElem?_append_left hl, if_pos h35, charOut_app a y k h]
    exact h
  · rw [if_neg h35] at h
    have := refOut_app a y k h
    rw [List.getElem?_append_left this.2, if_neg h35]
    exact this.1
theorem mgood_app {a b : List UInt8} (ha : mgood a) (hb : mgood b) : mgood (a ++ b) := fun j hj => by
  by_cases h : j < a.length
  · rw [List.getElem?_append_left h] at hj
    exact markOut_app a b j (ha j hj)
  · have hl := (List.getElem?_eq_some_iff.1 hj).1
    rw [List.getElem?_append_right (by omega)] at hj
    have := markOut_shift (a ++ b) a.length (j - a.length) (by omega)
    rw [show a.length + (j - a.length) = j by omega, List.drop_left] at this
    rw [this]
    exact hb _ hj
/-- The text of two values, one behind the other. -/
theorem txt_app : ∀ (f : Nat) (a b : List UInt8) (g h : Nat), a.length ≤ f → a.length + b.length ≤ g → b.length ≤ h → mgood a → txtL g (a ++ b) = ((txtL f a).1 ++ (txtL h b).1, (txtL f a).2 + (txtL h b).2)
  | 0, a, b, g, h, h1, h2, h3, _ => by
    have : a = [] := List.length_eq_zero_iff.1 (by omega)
    subst this
    rw [txtL_nil, List.nil_append, txtL_fuel g h b (by simpa using h2) h3]
    simp
  | f + 1, [], b, g, h, h1, h2, h3, _ => by
    rw [txtL_nil, List.nil_append, txtL_fuel g h b (by simpa using h2) h3]
    simp
  | f + 1, c :: t, b, g, h, h1, h2, h3, hm => by
    simp only [List.length_cons] at h1 h2
    by_cases h0 : (charOut (c :: t) 0).2.2 = 0
    · have hn := charOut_next (c :: t) 0 h0
      have ha := charOut_app (c :: t) b 0 h0
      simp only [List.length_cons] at hn
      rw [txt_ok (by rw [ha]; exact h0) g (by simp; omega), ha, txt_ok h0 (f + 1) (by simpa using h1)]
      rw [List.drop_append_of_le_length (by simp only [List.length_cons]; omega)]
      rw [txtL_fuel (f + 1) f ((c :: t).drop (charOut (c :: t) 0).2.1) (by rw [List.length_drop, List.length_cons]; omega) (by rw [List.length_drop, List.length_cons]; omega)]
      rw [txt_app f _ b g h (by rw [List.length_drop, List.length_cons]; omega) (by rw [List.length_drop, List.length_cons]; omega) h3 (mgood_drop hm _)]
      simp
      omega
    · have h0' : (charOut (c :: t ++ b) 0).2.2 ≠ 0 := by
        have hno : ¬ ((c :: t ++ b)[0]? = some 38 ∧ (c :: t ++ b)[1]? = some 35) := by
          rintro ⟨e1, e2⟩
          have hc : (c :: t)[0]? = some 38 := by simpa using e1
          have hmk := hm 0 hc
          unfold markOut at hmk
          by_cases h35 : (c :: t)[0 + 1]? = some 35
          · rw [if_pos h35] at hmk; exact h0 hmk
          · rw [if_neg h35] at hmk
            have := refOut_app (c :: t) b 0 hmk
            rw [List.getElem?_append_left this.2] at e2
            exact h35 e2
        rw [charOut_no _ hno]
        simp
      rw [List.cons_append] at h0' ⊢
      rw [txt_no h0' g (by rw [List.length_append]; omega), txt_no h0 (f + 1) (by omega), txtL_fuel (f + 1) f t (by omega) (by omega)]
      have hmt : mgood t := by have := mgood_drop hm 1; simpa using this
      rw [txt_app f t b g h (by omega) (by omega) h3 hmt]
      simp
end Go.Proofs.YtljmpghijlibaaaDoor
