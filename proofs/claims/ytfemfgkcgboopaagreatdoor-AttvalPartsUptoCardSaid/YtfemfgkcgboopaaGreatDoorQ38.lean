/- Texts of ours, joined: Pt1, Laid. -/
import Derived.Test.YtfemfgkcgboopaaGreatDoorRows
import Derived.WalkKit
import Derived.ProofKit
import Derived.OpenShut
import Derived.ShutString
import Derived.ChangeOld
import Derived.Below
import Derived.BigQuiet
import Derived.Deep.QuietTactic
import Derived.Lib.Hide
import Derived.Deep.RegionHeld3
import Derived.Lib.SlBytesConst
import Derived.Laws.CopyOwn
import Derived.Laws.CopyRow
import Derived.Lib.Bytes
import Derived.Deep.LoopGhost
import Derived.Deep.DeepFit
import Derived.Deep.DeepMust
import Derived.WalkSpells
import Derived.WalkLawsBesides
import Derived.Laws.EntriesVeiled
import Derived.Test.YtfemfgkcgboopaaGreatDoorQ1
import Derived.Test.YtfemfgkcgboopaaGreatDoorQ2
import Derived.Test.YtfemfgkcgboopaaGreatDoorQ3
import Derived.Test.YtfemfgkcgboopaaGreatDoorQ4
import Derived.Test.YtfemfgkcgboopaaGreatDoorQ9
import Derived.Test.YtfemfgkcgboopaaGreatDoorQ10
import Derived.Test.YtfemfgkcgboopaaGreatDoorQ13
import Derived.Test.YtfemfgkcgboopaaGreatDoorQ14
import Derived.Test.YtfemfgkcgboopaaGreatDoorQ15
import Derived.Test.YtfemfgkcgboopaaGreatDoorQ16
import Derived.Test.YtfemfgkcgboopaaGreatDoorQ19
import Derived.Test.YtfemfgkcgboopaaGreatDoorQ20
import Derived.Test.YtfemfgkcgboopaaGreatDoorQ37
/- What is put out of a text in two parts, plain. -/
namespace Go.Proofs.YtfemfgkcgboopaaGreatDoor
open Go.ChangeShapes Go.WideShapes Go.ChangeAt Go.RowKit
set_option linter.unusedVariables false
theorem cont_32 : ∀ (l : List UInt8) (r : Nat), (32 : UInt8) ∈ l → cont r l = none
  | [], _, h => by cases h
  | c :: t, r, h => by
    unfold cont
    split
    · rename_i hc
      rcases List.mem_cons.1 h with h | h
      · subst h
        have := hc.1
        simp at this
      · exact cont_32 t _ h
    · rfl
theorem dec_in (c : UInt8) (t y : List UInt8) (h : t.length < lenB c.toNat - 1) : dec (c :: (t ++ 32 :: y)) = none := by
  simp only [dec]
  split
  · rfl
  · rw [cont_32 ((t ++ 32 :: y).take (lenB c.toNat - 1)) _ (by
      rw [List.take_append]
      refine List.mem_append_right _ ?_
      obtain ⟨k, hk⟩ : ∃ k, lenB c.toNat - 1 - t.length = k + 1 := ⟨lenB c.toNat - 1 - t.length - 1, by omega⟩
      rw [hk, List.take_succ_cons]
      exact List.mem_cons_self)]
theorem dec_blank (x y : List UInt8) (hx : x ≠ []) : dec (x ++ 32 :: y) = dec (x ++ [32]) := by
  cases x with
  | nil => exact absurd rfl hx
  | cons c t =>
    rw [List.cons_append, List.cons_append]
    by_cases h : t.length < lenB c.toNat - 1
    · rw [dec_in c t y h, dec_in c t [] h]
    · simp only [dec]
      have h1 : (t ++ 32 :: y).take (lenB c.toNat - 1) = t.take (lenB c.toNat - 1) := List.take_append_of_le_length (by omega)
      have h2 : (t ++ [32]).take (lenB c.toNat - 1) = t.take (lenB c.toNat - 1) := List.take_append_of_le_length (by omega)
      rw [h1, h2]
      have h3 : ¬ ((t ++ 32 :: y).length + 1 < lenB c.toNat) := by rw [List.length_append]; omega
      have h4 : ¬ ((t ++ [32]).length + 1 < lenB c.toNat) := by rw [List.length_append]; omega
      simp only [h3, h4, or_false]
theorem dec_le2 (x : List UInt8) (r n : Nat) (hx : x ≠ []) (h : dec (x ++ [32]) = some (r, n)) : n ≤ x.length ∧ 0 < n := by
  cases x with
  | nil => exact absurd rfl hx
  | cons c t =>
    rw [List.cons_append] at h
    by_cases h2 : t.length < lenB c.toNat - 1
    · rw [dec_in c t [] h2] at h; cases h
    · simp only [dec] at h
      split at h
      · cases h
      · rename_i h3
        split at h
        · split at h
          · simp only [Option.some.injEq, Prod.mk.injEq] at h
            simp only [List.length_cons]
            omega
          · cases h
        · cases h
theorem endL_blank (y : List UInt8) (g : Int → Bool) (hg : g 32 = false) : ∀ (N : Nat) (x : List UInt8) (f : Int → Bool) (K K' : Nat), x.length ≤ N → x.length + 1 ≤ K → x.length + 1 ≤ K' → f 32 = false → endL f g K (x ++ 32 :: y) = endL f g K' (x ++ [32]) ∧ endL f g K' (x ++ [32]) ≤ x.length := by
  intro N
  induction N with
  | zero =>
    intro x f K K' hN hK hK' hf
    have : x = [] := List.length_eq_zero_iff.1 (by omega)
    subst this
    rw [List.nil_append, List.nil_append, endL_stop f g 32 y (by decide) hf, endL_stop f g 32 [] (by decide) hf]
    exact ⟨rfl, Nat.le_refl _⟩
  | succ N ih =>
    intro x f K K' hN hK hK' hf
    by_cases hx : x = []
    · subst hx
      rw [List.nil_append, List.nil_append, endL_stop f g 32 y (by decide) hf, endL_stop f g 32 [] (by decide) hf]
      exact ⟨rfl, Nat.le_refl _⟩
    · have hxl : 0 < x.length := List.length_pos_iff.2 hx
      obtain ⟨K, rfl⟩ : ∃ k, K = k + 1 := ⟨K - 1, by omega⟩
      obtain ⟨K', rfl⟩ : ∃ k, K' = k + 1 := ⟨K' - 1, by omega⟩
      cases hd : dec (x ++ [32]) with
      | none =>
        rw [endL_none f g _ _ hd, endL_none f g _ _ (by rw [dec_blank x y hx]; exact hd)]
        exact ⟨rfl, Nat.zero_le _⟩
      | some p =>
        obtain ⟨r, n⟩ := p
        obtain ⟨hn1, hn2⟩ := dec_le2 x r n hx hd
        have hd2 : dec (x ++ 32 :: y) = some (r, n) := by rw [dec_blank x y hx]; exact hd
        by_cases hfr : f r = true
        · rw [endL_yes f g K _ r n hd2 hfr, endL_yes f g K' _ r n hd hfr]
          rw [List.drop_append_of_le_length hn1, List.drop_append_of_le_length hn1]
          obtain ⟨h1, h2⟩ := ih (x.drop n) g K K' (by rw [List.length_drop]; omega) (by rw [List.length_drop]; omega) (by rw [List.length_drop]; omega) hg
          rw [List.length_drop] at h2
          exact ⟨by rw [h1], by omega⟩
        · rw [endL_no f g _ _ r n hd2 (by simpa using hfr), endL_no f g _ _ r n hd (by simpa using hfr)]
          exact ⟨rfl, Nat.zero_le _⟩
theorem no32 : noColon isStart 32 = false ∧ noColon isMore 32 = false := by constructor <;> decide +kernel
theorem get_blank (a y : List UInt8) (i : Nat) (h : i ≤ a.length) : (a ++ 32 :: y)[i]? = (a ++ [32])[i]? := by
  rcases Nat.lt_or_ge i a.length with h1 | h1
  · rw [List.getElem?_append_left h1, List.getElem?_append_left h1]
  · have : i = a.length := by omega
    subst this
    simp
theorem plainOut_blank (a y : List UInt8) (k : Nat) (h : k ≤ a.length) : plainOut (a ++ 32 :: y) k = plainOut (a ++ [32]) k ∧ ((plainOut (a ++ [32]) k).2.2 = 0 → (plainOut (a ++ [32]) k).2.1 ≤ a.length) := by
  have h1 : (a ++ 32 :: y).drop k = a.drop k ++ 32 :: y := List.drop_append_of_le_length h
  have h2 : (a ++ [32]).drop k = a.drop k ++ [32] := List.drop_append_of_le_length h
  obtain ⟨e1, e2⟩ := endL_blank y (noColon isMore) no32.2 _ (a.drop k) (noColon isStart) (a ++ 32 :: y).length (a ++ [32]).length (Nat.le_refl _) (by simp; omega) (by simp) no32.1
  have e3 := e2
  rw [List.length_drop] at e3
  unfold plainOut
  simp only [h1, h2, e1]
  refine ⟨?_, ?_⟩
  · split
    · rfl
    · split
      · rfl
      · rw [List.take_append_of_le_length e2, List.take_append_of_le_length e2]
  · split
    · intro h; cases h
    · split
      · intro h; cases h
      · intro _; simp only; omega
theorem refOut_blank (a y : List UInt8) (k : Nat) (h : k < a.length) : refOut 38 (a ++ 32 :: y) k = refOut 38 (a ++ [32]) k := by
  obtain ⟨h1, h2⟩ := plainOut_blank a y (k + 1) (by omega)
  unfold refOut
  rw [get_blank a y k (by omega), h1]
  cases (a ++ [32])[k]? with
  | none => rfl
  | some c =>
    simp only
    split
    · split
      · rfl
      · rename_i h3
        rw [get_blank a y _ (h2 (by simpa using h3))]
    · rfl
theorem digs_blank (b : Int) (y : List UInt8) (hb : digit b 32 < 0) : ∀ x : List UInt8, digs b (x ++ 32 :: y) = digs b x
  | [] => by
    rw [List.nil_append]
    unfold digs
    rw [if_neg (by show ¬ 0 ≤ digit b ((32 : UInt8).toNat : Int); have : (((32 : UInt8).toNat : Nat) : Int) = 32 := by decide
                   rw [this]; omega)]
  | c :: t => by
    rw [List.cons_append]
    unfold digs
    split
    · rw [digs_blank b y hb t]
    · rfl
theorem charBody_blank (b cap : Int) (hb : digit b 32 < 0) (a y : List UInt8) (k : Nat) (h : k ≤ a.length) : charBody b cap (a ++ 32 :: y) k = charBody b cap (a ++ [32]) k := by
  have h1 : (a ++ 32 :: y).drop k = a.drop k ++ 32 :: y := List.drop_append_of_le_length h
  have h2 : (a ++ [32]).drop k = a.drop k ++ [32] := List.drop_append_of_le_length h
  have h3 := digs_le b (a.drop k)
  rw [List.length_drop] at h3
  unfold charBody
  simp only [h1, h2, digs_blank b y hb, digs_blank b [] hb]
  rw [get_blank a y _ (by omega)]
theorem dig32 : digit 10 32 < 0 ∧ digit 16 32 < 0 := by constructor <;> decide
theorem charOut_blank (a y : List UInt8) (k : Nat) (h : k < a.length) : charOut (a ++ 32 :: y) k = charOut (a ++ [32]) k := by
  unfold charOut
  rw [get_blank a y k (by omega), get_blank a y (k + 1) (by omega)]
  split
  · rename_i hc
    have hk1 : k + 1 < a.length := by
      rcases Nat.lt_or_ge (k + 1) a.length with h1 | h1
      · exact h1
      · have : k + 1 = a.length := by omega
        rw [this] at hc
        simp at hc
    rw [get_blank a y (k + 2) (by omega)]
    split
    · rename_i h2
      have hk2 : k + 2 < a.length := by
        rcases Nat.lt_or_ge (k + 2) a.length with h1 | h1
        · exact h1
        · have : k + 2 = a.length := by omega
          rw [this] at h2
          simp at h2
      exact charBody_blank 16 _ dig32.2 a y _ (by omega)
    · exact charBody_blank 10 _ dig32.1 a y _ (by omega)
  · rfl
theorem take2_blank (a y : List UInt8) (k : Nat) (h : k < a.length) : ((a ++ 32 :: y).drop k).take 2 = ((a ++ [32]).drop k).take 2 := by
  rw [List.drop_append_of_le_length (by omega), List.drop_append_of_le_length (by omega)]
  have : 0 < (a.drop k).length := by rw [List.length_drop]; omega
  generalize a.drop k = z at *
  match z, this with
  | [c], _ => simp
  | c :: d :: z, _ => simp
theorem refS_blank (l : List EntT) (deep : Int) (k : Nat) (a y : List UInt8) (t : Nat) (o : List UInt8) (h : t < a.length) : refS l deep k (a ++ 32 :: y) t o = refS l deep k (a ++ [32]) t o := by
  unfold refS
  rw [take2_blank a y t h, charOut_blank a y t h, refOut_blank a y t h]
/-- Where a reference is right, the place behind lies within the text. -/
theorem refS_next {l : List EntT} {deep : Int} {k : Nat} {b : List UInt8} {t : Nat} {o : List UInt8} (h : (refS l deep k b t o).1 = 0) : t < (refS l deep k b t o).2.1 ∧ (refS l deep k b t o).2.1 ≤ b.length := by
  unfold refS at h ⊢
  split at h
  · rename_i h1
    rw [if_pos h1]
    split at h
    · rename_i h2; exact absurd h h2
    · rename_i h2
      rw [if_neg h2]
      have := charOut_nxt b t (by simpa using h2)
      exact ⟨by simp only; omega, this.2.1⟩
  · rename_i h1
    rw [if_neg h1]
    split at h
    · rename_i h2; exact absurd h h2
    · rename_i h2
      have hn := refOut_nx b t (by simpa using h2)
      rw [if_neg h2]
      split at h
      · rename_i h3
        rw [if_pos h3]
        exact ⟨hn.1, hn.2.1⟩
      · rename_i h3
        rw [if_neg h3]
        split at h
        · cases h
        · rename_i x hx
          split at h
          · cases h
          · rename_i h4
            rw [if_neg h4]
            split at h
            · cases h
            · rename_i h5
              rw [if_neg h5]
              exact ⟨hn.1, hn.2.1⟩
/-- A text behind another. -/
theorem charBody_sh (b cap : Int) (u v : List UInt8) (k : Nat) : charBody b cap (u ++ v) (u.length + k) = ((charBody b cap v k).1, (if (charBody b cap v k).2.2 = 0 then u.length + (charBody b cap v k).2.1 else 0), (charBody b cap v k).2.2) := by
  have h1 : (u ++ v).drop (u.length + k) = v.drop k := by rw [← List.drop_drop, List.drop_left]
  have h2 : ∀ i, (u ++ v)[u.length + i]? = v[i]? := fun i => by rw [List.getElem?_append_right (by omega), Nat.add_sub_cancel_left]
  unfold charBody
  simp only [h1, Nat.add_assoc, h2]
  split
  · rfl
  · split
    · simp
    · rfl
theorem charOut_sh (u v : List UInt8) (k : Nat) : charOut (u ++ v) (u.length + k) = ((charOut v k).1, (if (charOut v k).2.2 = 0 then u.length + (charOut v k).2.1 else 0), (charOut v k).2.2) := by
  have h2 : ∀ i, (u ++ v)[u.length + i]? = v[i]? := fun i => by rw [List.getElem?_append_right (by omega), Nat.add_sub_cancel_left]
  unfold charOut
  simp only [Nat.add_assoc, h2]
  split
  · split
    · exact charBody_sh 16 _ u v _
    · exact charBody_sh 10 _ u v _
  · rfl
theorem endL_fuel2 : ∀ (K K' : Nat) (f g : Int → Bool) (l : List UInt8), l.length ≤ K → l.length ≤ K' → endL f g K l = endL f g K' l
  | 0, K', f, g, l, h, _ => by
    have : l = [] := List.length_eq_zero_iff.1 (by omega)
    subst this
    rw [endL_none f g 0 [] rfl, endL_none f g K' [] rfl]
  | K + 1, 0, f, g, l, _, h => by
    have : l = [] := List.length_eq_zero_iff.1 (by omega)
    subst this
    rw [endL_none f g (K + 1) [] rfl, endL_none f g 0 [] rfl]
  | K + 1, K' + 1, f, g, l, h1, h2 => by
    unfold endL
    cases hd : dec l with
    | none => rfl
    | some x =>
      obtain ⟨r, n⟩ := x
      have hle := dec_le l r n hd
      simp only
      rw [endL_fuel2 K K' g g (l.drop n) (by rw [List.length_drop]; omega) (by rw [List.length_drop]; omega)]
theorem plainOut_sh (u v : List UInt8) (k : Nat) : plainOut (u ++ v) (u.length + k) = ((plainOut v k).1, (if (plainOut v k).2.2 = 0 then u.length + (plainOut v k).2.1 else 0), (plainOut v k).2.2) := by
  have h1 : (u ++ v).drop (u.length + k) = v.drop k := by rw [← List.drop_drop, List.drop_left]
  have e : endL (noColon isStart) (noColon isMore) (u ++ v).length (v.drop k) = endL (noColon isStart) (noColon isMore) v.length (v.drop k) := endL_fuel2 _ _ _ _ _ (by rw [List.length_drop, List.length_append]; omega) (by rw [List.length_drop]; omega)
  unfold plainOut
  simp only [h1, e]
  split
  · simp
  · split
    · simp
    · simp; omega
theorem refOut_sh (u v : List UInt8) (k : Nat) : refOut 38 (u ++ v) (u.length + k) = ((refOut 38 v k).1, (if (refOut 38 v k).2.2 = 0 then u.length + (refOut 38 v k).2.1 else 0), (refOut 38 v k).2.2) := by
  have h2 : ∀ i, (u ++ v)[u.length + i]? = v[i]? := fun i => by rw [List.getElem?_append_right (by omega), Nat.add_sub_cancel_left]
  unfold refOut
  rw [h2, Nat.add_assoc, plainOut_sh]
  cases v[k]? with
  | none => rfl
  | some c =>
    simp only
    split
    · split
      · rfl
      · rename_i h3
        have h3' : (plainOut v (k + 1)).2.2 = 0 := by simpa using h3
        rw [if_pos h3', h2]
        cases v[(plainOut v (k + 1)).2.1]? with
        | none => rfl
        | some d =>
          simp only
          split
          · simp; omega
          · rfl
    · rfl
theorem refS_sh (l : List EntT) (deep : Int) (k : Nat) (u v : List UInt8) (t : Nat) (p o : List UInt8) : refS l deep k (u ++ v) (u.length + t) (p ++ o) = ((refS l deep k v t o).1, (if (refS l deep k v t o).1 = 0 then u.length + (refS l deep k v t o).2.1 else u.length + t), p ++ (refS l deep k v t o).2.2.1, (refS l deep k v t o).2.2.2) := by
  have h1 : (u ++ v).drop (u.length + t) = v.drop t := by rw [← List.drop_drop, List.drop_left]
  unfold refS
  rw [h1, charOut_sh, refOut_sh]
  simp only
  split
  · split
    · simp
    · rename_i h2
      have h2' : (charOut v t).2.2 = 0 := by simpa using h2
      simp [h2']
  · split
    · simp
    · rename_i h2
      have h2' : (refOut 38 v t).2.2 = 0 := by simpa using h2
      rw [if_pos h2']
      split
      · simp
      · split
        · simp
        · split
          · simp
          · split <;> simp
/-- What is put out of a text, as a relation. -/
inductive Ov (l : List EntT) (deep : Int) : Nat → List UInt8 → Nat → List UInt8 → List UInt8 × Nat → Prop
  | done {wi b t o} : b[t]? = none → Ov l deep wi b t o (o, 0)
  | lt {wi b t o} : b[t]? = some 60 → Ov l deep wi b t o ([], 7)
  | bad {wi b t o} : b[t]? = some 38 → (refS l deep (wi + 1) b t o).1 ≠ 0 → Ov l deep wi b t o ([], (refS l deep (wi + 1) b t o).1)
  | put {wi b t o r} : b[t]? = some 38 → (refS l deep (wi + 1) b t o).1 = 0 → (refS l deep (wi + 1) b t o).2.2.2 = none → Ov l deep wi b (refS l deep (wi + 1) b t o).2.1 (refS l deep (wi + 1) b t o).2.2.1 r → Ov l deep wi b t o r
  | inBad {wi b t o x u e} : b[t]? = some 38 → (refS l deep (wi + 1) b t o).1 = 0 → (refS l deep (wi + 1) b t o).2.2.2 = some x → Ov l deep (wi + 1) x 0 [] (u, e) → e ≠ 0 → Ov l deep wi b t o ([], e)
  | inOk {wi b t o x u r} : b[t]? = some 38 → (refS l deep (wi + 1) b t o).1 = 0 → (refS l deep (wi + 1) b t o).2.2.2 = some x → Ov l deep (wi + 1) x 0 [] (u, 0) → Ov l deep wi b (refS l deep (wi + 1) b t o).2.1 (o ++ u) r → Ov l deep wi b t o r
  | byte {wi b t o c r} : b[t]? = some c → c ≠ 60 → c ≠ 38 → Ov l deep wi b (t + 1) (o ++ [if isBl c then 32 else c]) r → Ov l deep wi b t o r
theorem ov_of (l : List EntT) (deep : Int) : ∀ (f p wi : Nat) (b : List UInt8) (t : Nat) (o : List UInt8) (r : List UInt8 × Nat), overL l deep f p wi b t o = some r → Ov l deep wi b t o r := by
  intro f
  induction f with
  | zero => intro p wi b t o r h; cases h
  | succ f ih =>
    intro p wi b t o r h
    rw [overL] at h
    split at h
    · cases h
    · split at h
      · rename_i hn
        cases h
        exact .done hn
      · rename_i c hc
        split at h
        · rename_i h60
          cases h
          subst h60
          exact .lt hc
        · rename_i h60
          split at h
          · rename_i h38
            subst h38
            split at h
            · rename_i he
              cases h
              exact .bad hc he
            · rename_i he
              have he0 : (refS l deep (wi + 1) b t o).1 = 0 := by simpa using he
              split at h
              · rename_i hx
                exact .put hc he0 hx (ih _ _ _ _ _ _ h)
              · rename_i x hx
                split at h
                · cases h
                · rename_i u e1 hi
                  split at h
                  · rename_i h1
                    cases h
                    exact .inBad hc he0 hx (ih _ _ _ _ _ _ hi) h1
                  · rename_i h1
                    have h10 : e1 = 0 := by simpa using h1
                    subst h10
                    exact .inOk hc he0 hx (ih _ _ _ _ _ _ hi) (ih _ _ _ _ _ _ h)
          · rename_i h38
            exact .byte hc h60 h38 (ih _ _ _ _ _ _ h)
theorem ov_det {l : List EntT} {deep : Int} {wi : Nat} {b : List UInt8} {t : Nat} {o : List UInt8} {r : List UInt8 × Nat} (h : Ov l deep wi b t o r) : ∀ {r' : List UInt8 × Nat}, Ov l deep wi b t o r' → r = r' := by
  induction h with
  | done h0 => intro r' h2; cases h2 <;> simp_all
  | lt h0 => intro r' h2; cases h2 <;> simp_all
  | bad h0 h1 => intro r' h2; cases h2 <;> simp_all
  | put h0 h1 h2 _ ih =>
    intro r' h3
    cases h3 with
    | put g0 g1 g2 g3 => exact ih g3
    | inBad g0 g1 g2 g3 g4 => rw [h2] at g2; cases g2
    | inOk g0 g1 g2 g3 g4 => rw [h2] at g2; cases g2
    | _ => simp_all
  | inBad h0 h1 h2 _ he ih =>
    intro r' h3
    cases h3 with
    | inBad g0 g1 g2 g3 g4 => rw [h2] at g2; cases g2; have := ih g3; cases this; rfl
    | inOk g0 g1 g2 g3 g4 => rw [h2] at g2; cases g2; have := ih g3; cases this; exact absurd rfl he
    | _ => simp_all
  | inOk h0 h1 h2 _ _ ih1 ih2 =>
    intro r' h3
    cases h3 with
    | inBad g0 g1 g2 g3 g4 => rw [h2] at g2; cases g2; have := ih1 g3; cases this; exact absurd rfl g4
    | inOk g0 g1 g2 g3 g4 => rw [h2] at g2; cases g2; have := ih1 g3; cases this; exact ih2 g4
    | _ => simp_all
  | byte h0 h1 h2 _ ih =>
    intro r' h3
    cases h3 with
    | byte g0 g1 g2 g3 => rw [h0] at g0; cases g0; exact ih g3
    | _ => simp_all
/-- The first part, up to its blank, gives what it gives by itself. -/
theorem ov_first {l : List EntT} {deep : Int} {wi : Nat} (a y : List UInt8) {b : List UInt8} {t : Nat} {o : List UInt8} {r : List UInt8 × Nat} (h : Ov l deep wi b t o r) : b = a ++ [32] → t ≤ a.length + 1 → (r.2 ≠ 0 → Ov l deep wi (a ++ 32 :: y) t o ([], r.2)) ∧ (r.2 = 0 → ∀ r', Ov l deep wi (a ++ 32 :: y) (a.length + 1) r.1 r' → Ov l deep wi (a ++ 32 :: y) t o r') := by
  have hget : ∀ t, t ≤ a.length → (a ++ 32 :: y)[t]? = (a ++ [32])[t]? := fun t ht => get_blank a y t ht
  have hlt38 : ∀ t, (a ++ [32])[t]? = some 38 → t < a.length := fun t ht => by
    have h1 := (List.getElem?_eq_some_iff.1 ht).1
    rw [List.length_append, List.length_singleton] at h1
    rcases Nat.lt_or_ge t a.length with h2 | h2
    · exact h2
    · have : t = a.length := by omega
      subst this
      simp at ht
  have hle : ∀ t c, (a ++ [32])[t]? = some c → t ≤ a.length := fun t c ht => by
    have h1 := (List.getElem?_eq_some_iff.1 ht).1
    rw [List.length_append, List.length_singleton] at h1
    omega
  induction h with
  | @done wi b t o h0 =>
    intro hb ht
    subst hb
    have : t = a.length + 1 := by
      rw [List.getElem?_eq_none_iff, List.length_append, List.length_singleton] at h0
      omega
    subst this
    exact ⟨fun h => absurd rfl h, fun _ r' h => h⟩
  | lt h0 =>
    intro hb ht
    subst hb
    exact ⟨fun _ => .lt (by rw [hget _ (hle _ _ h0)]; exact h0), (fun h => by cases h)⟩
  | @bad wi b t o h0 h1 =>
    intro hb ht
    subst hb
    have ha := hlt38 _ h0
    have he := refS_blank l deep (wi + 1) a y t o ha
    refine ⟨fun _ => ?_, fun h => absurd h h1⟩
    have := Ov.bad (l := l) (deep := deep) (wi := wi) (b := a ++ 32 :: y) (t := t) (o := o) (by rw [hget _ (by omega)]; exact h0) (by rw [he]; exact h1)
    rw [he] at this
    exact this
  | @put wi b t o r h0 h1 h2 _ ih =>
    intro hb ht
    subst hb
    have ha := hlt38 _ h0
    have he := refS_blank l deep (wi + 1) a y t o ha
    have hn := (refS_next h1).2
    rw [List.length_append, List.length_singleton] at hn
    obtain ⟨i1, i2⟩ := ih rfl hn
    refine ⟨fun h => ?_, fun h r' hr => ?_⟩
    · exact .put (by rw [hget _ (by omega)]; exact h0) (by rw [he]; exact h1) (by rw [he]; exact h2) (by rw [he]; exact i1 h)
    · exact .put (by rw [hget _ (by omega)]; exact h0) (by rw [he]; exact h1) (by rw [he]; exact h2) (by rw [he]; exact i2 h r' hr)
  | @inBad wi b t o x u e h0 h1 h2 h3 h4 _ =>
    intro hb ht
    subst hb
    have ha := hlt38 _ h0
    have he := refS_blank l deep (wi + 1) a y t o ha
    exact ⟨fun h => .inBad (by rw [hget _ (by omega)]; exact h0) (by rw [he]; exact h1) (by rw [he]; exact h2) h3 h4, fun h => absurd h h4⟩
  | @inOk wi b t o x u r h0 h1 h2 h3 _ _ ih =>
    intro hb ht
    subst hb
    have ha := hlt38 _ h0
    have he := refS_blank l deep (wi + 1) a y t o ha
    have hn := (refS_next h1).2
    rw [List.length_append, List.length_singleton] at hn
    obtain ⟨i1, i2⟩ := ih rfl hn
    refine ⟨fun h => ?_, fun h r' hr => ?_⟩
    · exact .inOk (by rw [hget _ (by omega)]; exact h0) (by rw [he]; exact h1) (by rw [he]; exact h2) h3 (by rw [he]; exact i1 h)
    · exact .inOk (by rw [hget _ (by omega)]; exact h0) (by rw [he]; exact h1) (by rw [he]; exact h2) h3 (by rw [he]; exact i2 h r' hr)
  | @byte wi b t o c r h0 h1 h2 _ ih =>
    intro hb ht
    subst hb
    have hl := hle _ _ h0
    obtain ⟨i1, i2⟩ := ih rfl (by omega)
    exact ⟨fun h => .byte (by rw [hget _ hl]; exact h0) h1 h2 (i1 h), fun h r' hr => .byte (by rw [hget _ hl]; exact h0) h1 h2 (i2 h r' hr)⟩
/-- The second part gives behind the first what it gives by itself. -/
theorem ov_second {l : List EntT} {deep : Int} {wi : Nat} (u p : List UInt8) {v : List UInt8} {t : Nat} {o : List UInt8} {r : List UInt8 × Nat} (h : Ov l deep wi v t o r) : Ov l deep wi (u ++ v) (u.length + t) (p ++ o) (if r.2 = 0 then (p ++ r.1, 0) else ([], r.2)) := by
  have hget : ∀ (v : List UInt8) i, (u ++ v)[u.length + i]? = v[i]? := fun v i => by rw [List.getElem?_append_right (by omega), Nat.add_sub_cancel_left]
  induction h with
  | done h0 => exact .done (by rw [hget]; exact h0)
  | lt h0 => exact .lt (by rw [hget]; exact h0)
  | @bad wi v t o h0 h1 =>
    rw [if_neg h1]
    have he := refS_sh l deep (wi + 1) u v t p o
    have := Ov.bad (l := l) (deep := deep) (wi := wi) (b := u ++ v) (t := u.length + t) (o := p ++ o) (by rw [hget]; exact h0) (by rw [he]; exact h1)
    rw [he] at this
    exact this
  | @put wi v t o r h0 h1 h2 _ ih =>
    have he := refS_sh l deep (wi + 1) u v t p o
    rw [if_pos h1] at he
    exact .put (by rw [hget]; exact h0) (by rw [he]; exact h1) (by rw [he]; exact h2) (by rw [he]; exact ih)
  | @inBad wi v t o x w e h0 h1 h2 h3 h4 _ =>
    have he := refS_sh l deep (wi + 1) u v t p o
    rw [if_neg h4]
    exact .inBad (by rw [hget]; exact h0) (by rw [he]; exact h1) (by rw [he]; exact h2) h3 h4
  | @inOk wi v t o x w r h0 h1 h2 h3 _ _ ih =>
    have he := refS_sh l deep (wi + 1) u v t p o
    rw [if_pos h1] at he
    exact .inOk (by rw [hget]; exact h0) (by rw [he]; exact h1) (by rw [he]; exact h2) h3 (by rw [he, List.append_assoc]; exact ih)
  | @byte wi v t o c r h0 h1 h2 _ ih =>
    refine .byte (by rw [hget]; exact h0) h1 h2 ?_
    rw [List.append_assoc, Nat.add_assoc]
    exact ih
/-- Two parts with a blank between. -/
theorem ov_parts {l : List EntT} {deep : Int} {wi : Nat} {a b : List UInt8} {r1 r2 r : List UInt8 × Nat} (h1 : Ov l deep wi (a ++ [32]) 0 [] r1) (h2 : Ov l deep wi b 0 [] r2) (h : Ov l deep wi (a ++ 32 :: b) 0 [] r) :
    (r1.2 ≠ 0 → r = ([], r1.2)) ∧ (r1.2 = 0 → r2.2 ≠ 0 → r = ([], r2.2)) ∧ (r1.2 = 0 → r2.2 = 0 → r = (r1.1 ++ r2.1, 0)) := by
  obtain ⟨f1, f2⟩ := ov_first a b h1 rfl (Nat.zero_le _)
  have hs := ov_second (a ++ [32]) r1.1 h2
  rw [List.append_assoc, List.length_append, List.length_singleton, List.append_nil, Nat.add_zero] at hs
  have hs2 : Ov l deep wi (a ++ 32 :: b) (a.length + 1) r1.1 _ := hs
  refine ⟨fun e => ov_det h (f1 e), fun e1 e2 => ?_, fun e1 e2 => ?_⟩
  · rw [if_neg e2] at hs2
    exact ov_det h (f2 e1 _ hs2)
  · rw [if_pos e2] at hs2
    exact ov_det h (f2 e1 _ hs2)
end Go.Proofs.YtfemfgkcgboopaaGreatDoor
/- What a row's list of variables gives. -/
namespace Go.Proofs.YtfemfgkcgboopaaGreatDoor
open Go.ChangeShapes Go.WideShapes Go.ChangeAt Go.RowKit
set_option linter.unusedVariables false
/-- The cells that a datum of numbers, strings, arrays and structs takes, by its type: none where the lay-out has a gap. -/
def flatL (P : Program) (fl : TypeId → DataW Unit → Option (List Value)) : Nat → List (TypeId × Nat) → List (DataW Unit) → Option (List Value)
  | _, [], [] => some []
  | off, (t, o) :: ts, d :: ds => if o = off then (fl t d).bind fun v => if v.length = P.cellsOf t then (flatL P fl (off + P.cellsOf t) ts ds).map (v ++ ·) else none else none
  | _, _, _ => none
def flatD (P : Program) : Nat → TypeId → DataW Unit → Option (List Value)
  | 0, _, _ => none
  | f + 1, t, d => match P.underlying t, d with
    | some (.int k), .lit (.int k' n) => if k' = k then some [.int k n] else none
    | some .string, .lit (.string l) => some [.string ⟨l.toArray⟩]
    | some (.struct fs), .agg ds => (flatL P (flatD P f) 0 (fs.toList.map fun f => (f.type, f.offset)) ds).bind fun v => if v.length = P.cellsOf t then some v else none
    | some (.array n e), .agg ds => (flatL P (flatD P f) 0 ((List.range n).map fun i => (e, i * P.cellsOf e)) ds).bind fun v => if v.length = P.cellsOf t then some v else none
    | _, _ => none
theorem mapM_map {α β γ : Type} (g : α → β) (f : β → Option γ) : ∀ l : List α, (l.map g).mapM f = l.mapM fun a => f (g a)
  | [] => rfl
  | a :: l => by simp [List.mapM_cons, mapM_map g f l]
theorem mapM_cons_some {α β : Type} {f : α → Option β} {a : α} {l : List α} {ys : List β} (h : (a :: l).mapM f = some ys) : ∃ y ys', f a = some y ∧ l.mapM f = some ys' ∧ ys = y :: ys' := by
  rw [List.mapM_cons] at h
  obtain ⟨y, hy, h⟩ := Option.bind_eq_some_iff.1 h
  obtain ⟨ys', hys, h⟩ := Option.bind_eq_some_iff.1 h
  exact ⟨y, ys', hy, hys, (Option.some.inj h).symm⟩
theorem flatL_mapM {P : Program} {w : World} {base : Nat} {sp : Nat → Bool} {held : Bool} {enc : TypeId × Value → Unit} {fuel f : Nat} {cs : List Value}
    (ih : ∀ t cs d p vs, DataW.trod enc P w base sp held fuel t cs = some (d, p) → flatD P f t d = some vs → cs = vs) :
    ∀ (ts : List (TypeId × Nat)) (xs : List (DataW Unit × List MemPlace)) (off : Nat) (vs : List Value),
      (ts.mapM fun x => DataW.trod enc P w base sp held fuel x.1 ((cs.drop x.2).take (P.cellsOf x.1))) = some xs → flatL P (flatD P f) off ts (xs.map (·.1)) = some vs → (cs.drop off).take vs.length = vs
  | [], xs, off, vs, hm, hf => by
    have : xs = [] := by simpa using hm.symm
    subst this
    simp [flatL] at hf
    subst hf
    simp
  | (t, o) :: ts, xs, off, vs, hm, hf => by
    obtain ⟨⟨d, p⟩, xs', hx, hm', rfl⟩ := mapM_cons_some hm
    simp only [List.map_cons, flatL] at hf
    split at hf
    · rename_i ho
      subst ho
      obtain ⟨v, hv, hf⟩ := Option.bind_eq_some_iff.1 hf
      split at hf
      · rename_i hl
        obtain ⟨vs', hvs, rfl⟩ := Option.map_eq_some_iff.1 hf
        have h1 := ih t _ d p v hx hv
        have h2 := flatL_mapM ih ts xs' _ vs' hm' hvs
        simp only at h1
        rw [List.length_append, List.take_add, hl, h1, List.drop_drop, h2]
      · cases hf
    · cases hf
theorem flat_trod {P : Program} {w : World} {base : Nat} {sp : Nat → Bool} {held : Bool} {enc : TypeId × Value → Unit} : ∀ (fuel f : Nat) (t : TypeId) (cs : List Value) (d : DataW Unit) (p : List MemPlace) (vs : List Value),
    DataW.trod enc P w base sp held fuel t cs = some (d, p) → flatD P f t d = some vs → cs = vs := by
  intro fuel
  induction fuel with
  | zero => intro f t cs d p vs h; simp [DataW.trod] at h
  | succ fuel ih =>
    intro f t cs d p vs h hf
    cases f with
    | zero => simp [flatD] at hf
    | succ f =>
      unfold flatD at hf
      split at hf
      · rename_i k k' n hu
        split at hf
        · rename_i hk
          subst hk
          obtain ⟨m, hc, he, _⟩ := DataW.trod_int hu h
          cases he
          rw [hc]
          exact Option.some.inj hf
        · cases hf
      · rename_i l hu
        obtain ⟨m, hc, he, _⟩ := DataW.trod_string hu h
        cases he
        rw [hc]
        exact Option.some.inj hf
      · rename_i fs ds hu
        simp only [DataW.trod, hu] at h
        split at h
        · rename_i hl
          obtain ⟨xs, hm, hx⟩ := Option.map_eq_some_iff.1 h
          simp only [Prod.mk.injEq, DataW.agg.injEq] at hx
          obtain ⟨rfl, _⟩ := hx
          obtain ⟨v, hv, hf⟩ := Option.bind_eq_some_iff.1 hf
          split at hf
          · rename_i hvl
            have h2 := flatL_mapM (cs := cs) (fun t cs d p vs => ih f t cs d p vs) (fs.toList.map fun f => (f.type, f.offset)) xs 0 v (by rw [mapM_map]; exact hm) hv
            rw [List.drop_zero, hvl, ← hl, List.take_length] at h2
            rw [h2]
            exact Option.some.inj hf
          · cases hf
        · cases h
      · rename_i n e ds hu
        simp only [DataW.trod, hu] at h
        split at h
        · rename_i hl
          obtain ⟨xs, hm, hx⟩ := Option.map_eq_some_iff.1 h
          simp only [Prod.mk.injEq, DataW.agg.injEq] at hx
          obtain ⟨rfl, _⟩ := hx
          obtain ⟨v, hv, hf⟩ := Option.bind_eq_some_iff.1 hf
          split at hf
          · rename_i hvl
            have h2 := flatL_mapM (cs := cs) (fun t cs d p vs => ih f t cs d p vs) ((List.range n).map fun i => (e, i * P.cellsOf e)) xs 0 v (by rw [mapM_map]; exact hm) hv
            rw [List.drop_zero, hvl, ← hl, List.take_length] at h2
            rw [h2]
            exact Option.some.inj hf
          · cases hf
        · cases h
      · cases hf
/-- A variable that is listed holds the cells of its datum. -/
theorem laid_cells {P : Program} {w : World} : ∀ (laid : List (String × DataW Unit)) (ps : List MemPlace), DataW.LaidVars P w laid ps → ∀ (name : String) (d : DataW Unit), (name, d) ∈ laid →
    ∀ (g t f : Nat) (vs : List Value), P.globalNamed name = some g → (P.globals[g]?).map (·.type) = some t → flatD P f t d = some vs → w.var? P name = some vs.toArray
  | [], _, _, _, _, hm, _, _, _, _, _, _, _ => by cases hm
  | (n, d0) :: r, ps, h, name, d, hm, g, t, f, vs, hg, ht, hf => by
    obtain ⟨g', t', cs, fuel, p, q, hg', ht', hv, htr, hr, _⟩ := h
    rcases List.mem_cons.1 hm with e | hm
    · cases e
      obtain rfl := Option.some.inj (hg.symm.trans hg')
      obtain rfl := Option.some.inj (ht.symm.trans ht')
      rw [hv, ← flat_trod fuel f t cs.toList _ p vs htr hf]
    · exact laid_cells r q hr name d hm g t f vs hg ht hf
theorem block_of_var {P : Program} {w : World} {name : String} {g : Nat} {cs : Array Value} (hg : P.globalNamed name = some g) (h : w.var? P name = some cs) : ∃ T f, w.heap[g]? = some (.cells cs T f) := by
  simp only [World.var?, hg, Option.bind_some] at h
  split at h
  · rename_i cs' T f hb
    cases h
    exact ⟨T, f, hb⟩
  · cases h
theorem laid_var {P : Program} {w : World} {laid : List (String × DataW Unit)} (h : laidMet P laid w) (name : String) (d : DataW Unit) (hm : (name, d) ∈ laid) (g f : Nat) (vs : List Value)
    (hg : P.globalNamed name = some g) (hf : (((P.globals[g]?).map (·.type)).bind fun t => flatD P f t d) = some vs) : w.var? P name = some vs.toArray := by
  obtain ⟨ps, hl, _⟩ := h
  obtain ⟨t, ht, hf⟩ := Option.bind_eq_some_iff.1 hf
  exact laid_cells laid ps hl name d hm g t f vs hg ht hf
theorem laid_block {P : Program} {w : World} {laid : List (String × DataW Unit)} (h : laidMet P laid w) (name : String) (d : DataW Unit) (hm : (name, d) ∈ laid) (g f : Nat) (vs : List Value)
    (hg : P.globalNamed name = some g) (hf : (((P.globals[g]?).map (·.type)).bind fun t => flatD P f t d) = some vs) : ∃ T fr, w.heap[g]? = some (.cells vs.toArray T fr) :=
  block_of_var hg (laid_var h name d hm g f vs hg hf)
/-- A table of runs, out of a block. -/
theorem tab_of {w : World} {g : Nat} {T : TypeId} {fr : Nat × Nat} (t : List (Nat × Nat)) (h : w.heap[g]? = some (.cells (t.flatMap fun p => [Value.int .i64 p.1, Value.int .i64 p.2]).toArray T fr)) : Tab w g t := by
  intro i p hp
  have key : ∀ (t : List (Nat × Nat)) (i : Nat) (p : Nat × Nat), t[i]? = some p → (t.flatMap fun p => [Value.int .i64 p.1, Value.int .i64 p.2])[i * 2]? = some (.int .i64 p.1) ∧ (t.flatMap fun p => [Value.int .i64 p.1, Value.int .i64 p.2])[i * 2 + 1]? = some (.int .i64 p.2) := by
    intro t
    induction t with
    | nil => intro i p h; simp at h
    | cons x t ih =>
      intro i p h
      cases i with
      | zero => simp at h; subst h; exact ⟨rfl, rfl⟩
      | succ i =>
        have := ih i p (by simpa using h)
        rw [show (i + 1) * 2 = i * 2 + 2 by omega]
        simpa [List.flatMap_cons] using this
  have := key t i p hp
  rw [cell_of _ h, cell_of _ h, List.getElem?_toArray, List.getElem?_toArray]
  exact this
/-- The cells of a datum, whatever its type. -/
def flatV : Nat → DataW Unit → List Value
  | f + 1, .lit (.int k n) => [.int k n]
  | f + 1, .lit (.string l) => [.string ⟨l.toArray⟩]
  | f + 1, .agg ds => ds.flatMap (flatV f)
  | _, _ => []
def layObj (vs : Array Value) : Obj → Obj
  | .cells _ t frozen => .cells vs t frozen
  | o => o
def layHeap (l : List (Nat × DataW Unit)) (h : Array Obj) : Array Obj := l.foldl (fun h x => h.modify x.1 (layObj (flatV 8 x.2).toArray)) h
/-- A world for a witness: the settled one, the listed variables' blocks holding what is listed. -/
noncomputable def laidWorldOf (l : List (Nat × DataW Unit)) (os : Os) : World :=
  { World.holding Tryz.prog os ⟨#[], #[], []⟩ with heap := layHeap l (World.holding Tryz.prog os ⟨#[], #[], []⟩).heap }
end Go.Proofs.YtfemfgkcgboopaaGreatDoor
