/- Values of entities: a value of any text. -/
import Derived.Test.YtljmpghijlibaaaDoorRows
import Derived.WalkKit
import Derived.ProofKit
import Derived.OpenShut
import Derived.ShutString
import Derived.ChangeOld
import Derived.Below
import Derived.BigQuiet
import Derived.Deep.QuietTactic
import Derived.Lib.Hide
import Derived.Deep.RegionHeld3
import Derived.Lib.SlBytesConst
import Derived.Laws.CopyOwn
import Derived.Laws.CopyRow
import Derived.Lib.Bytes
import Derived.Deep.LoopGhost
import Derived.Deep.DeepFit
import Derived.Deep.DeepMust
import Derived.WalkSpells
import Derived.WalkLawsBesides
import Derived.Test.YtljmpghijlibaaaDoorShelf
import Derived.Test.YtljmpghijlibaaaDoorBase
import Derived.Test.YtljmpghijlibaaaDoorCharPlain
import Derived.Test.YtljmpghijlibaaaDoorChars1
import Derived.Test.YtljmpghijlibaaaDoorUtf1
import Derived.Test.YtljmpghijlibaaaDoorUtf2
import Derived.Test.YtljmpghijlibaaaDoorUtf3
import Derived.Test.YtljmpghijlibaaaDoorName1
import Derived.Test.YtljmpghijlibaaaDoorName2
import Derived.Test.YtljmpghijlibaaaDoorName3
import Derived.Test.YtljmpghijlibaaaDoorCref1
import Derived.Test.YtljmpghijlibaaaDoorY2
import Derived.Test.YtljmpghijlibaaaDoorY3
import Derived.Test.YtljmpghijlibaaaDoorMiscP
import Derived.Test.YtljmpghijlibaaaDoorEnc
import Derived.Test.YtljmpghijlibaaaDoorEvP
import Derived.Test.YtljmpghijlibaaaDoorEvP2
import Derived.Test.YtljmpghijlibaaaDoorEscP
import Derived.Test.YtljmpghijlibaaaDoorPlainP
import Derived.Test.YtljmpghijlibaaaDoorKnown
import Derived.Test.YtljmpghijlibaaaDoorEvP3
namespace Go.Proofs.YtljmpghijlibaaaDoor
open Go.ChangeShapes Go.WideShapes Go.ChangeAt Go.RowKit
set_option linter.unusedVariables false
def setV : List UInt8 := [38, 37, 34, 39, 13, 10, 9]
def escV (c : UInt8) : List UInt8 := if setV.contains c = true then 38 :: 35 :: (Lib.decDigits c.toNat ++ [59]) else [c]
/-- A value of a text. -/
def putV (s : List UInt8) : List UInt8 := s.flatMap escV
theorem set_facts : ∀ c ∈ setV, isDoc (c.toNat : Int) = true ∧ c.toNat < 128 := by decide +kernel
theorem mem_set {c : UInt8} (h : setV.contains c = true) : c ∈ setV := by simpa using h
theorem esc_char {c : UInt8} (h : setV.contains c = true) (r : List UInt8) : charOut (escV c ++ r) 0 = ((c.toNat : Int), (escV c).length, 0) := by
  obtain ⟨h1, h2, h3⟩ := dec_digits c.toNat
  have e : escV c = 38 :: 35 :: (Lib.decDigits c.toNat ++ [59]) := by unfold escV; rw [if_pos h]
  have := char_num (Lib.decDigits c.toNat) r (escV c ++ r) 0 (by rw [e]; simp) h3 h1
  rw [this, h2, if_pos (set_facts c (mem_set h)).1, e]
  simp
theorem digs_no (n : Nat) : ∀ c ∈ Lib.decDigits n, 48 ≤ c.toNat ∧ c.toNat ≤ 57 := by
  induction n using Nat.strongRecOn with
  | _ n ih =>
    have key : ∀ d : Nat, d < 10 → 48 ≤ (UInt8.ofNat (48 + d)).toNat ∧ (UInt8.ofNat (48 + d)).toNat ≤ 57 := fun d hd => by
      have : (UInt8.ofNat (48 + d)).toNat = 48 + d := UInt8.toNat_ofNat_of_lt' (by show 48 + d < 256; omega)
      omega
    by_cases h : n < 10
    · rw [Lib.decDigits, dif_pos h]
      intro c hc
      rw [List.mem_singleton.1 hc]
      exact key n h
    · rw [Lib.decDigits, dif_neg h]
      intro c hc
      rcases List.mem_append.1 hc with hc | hc
      · exact ih (n / 10) (by omega) c hc
      · rw [List.mem_singleton.1 hc]
        exact key _ (by omega)
theorem esc_no (c x : UInt8) (hx : x ∈ escV c) : x = c ∧ setV.contains c = false ∨ setV.contains c = true ∧ (x = 38 ∨ x = 35 ∨ x = 59 ∨ 48 ≤ x.toNat ∧ x.toNat ≤ 57) := by
  unfold escV at hx
  split at hx
  · rename_i h
    refine Or.inr ⟨h, ?_⟩
    simp only [List.mem_cons, List.mem_append, List.not_mem_nil, or_false] at hx
    rcases hx with h1 | h1 | h1 | h1
    · exact Or.inl h1
    · exact Or.inr (Or.inl h1)
    · exact Or.inr (Or.inr (Or.inr (digs_no _ _ h1)))
    · exact Or.inr (Or.inr (Or.inl h1))
  · rename_i h
    exact Or.inl ⟨by simpa using hx, by simpa using h⟩
/-- What is put has no sign in it that would stand for something else. -/
theorem put_no (s : List UInt8) (x : UInt8) (hx : x ∈ putV s) : x ≠ 37 ∧ x ≠ 34 ∧ x ≠ 39 ∧ x ≠ 13 ∧ x ≠ 10 ∧ x ≠ 9 := by
  obtain ⟨c, _, hc⟩ := List.mem_flatMap.1 hx
  rcases esc_no c x hc with ⟨rfl, h⟩ | ⟨_, h⟩
  · refine ⟨?_, ?_, ?_, ?_, ?_, ?_⟩ <;> (intro e; subst e; revert h; decide)
  · rcases h with rfl | rfl | rfl | h
    · decide
    · decide
    · decide
    · refine ⟨?_, ?_, ?_, ?_, ?_, ?_⟩ <;> (intro e; subst e; revert h; decide)
theorem esc_mgood (c : UInt8) : mgood (escV c) := fun j hj => by
  by_cases h : setV.contains c = true
  · have e : escV c = 38 :: 35 :: (Lib.decDigits c.toNat ++ [59]) := by unfold escV; rw [if_pos h]
    have hc := esc_char h []
    rw [List.append_nil] at hc
    cases j with
    | zero =>
      unfold markOut
      rw [if_pos (by rw [e]; rfl), hc]
    | succ j =>
      exfalso
      rw [e, List.getElem?_cons_succ] at hj
      have hm := List.mem_of_getElem? hj
      simp only [List.mem_cons, List.mem_append, List.not_mem_nil, or_false] at hm
      rcases hm with h1 | h1 | h1
      · cases h1
      · have := digs_no _ _ h1
        revert this
        decide
      · cases h1
  · exfalso
    unfold escV at hj
    rw [if_neg h] at hj
    cases j with
    | zero =>
      simp at hj
      subst hj
      exact h rfl
    | succ j => simp at hj
theorem put_mgood : ∀ s : List UInt8, mgood (putV s)
  | [] => fun j hj => by simp [putV] at hj
  | c :: t => by
    have e : putV (c :: t) = escV c ++ putV t := by simp [putV]
    rw [e]
    exact mgood_app (esc_mgood c) (put_mgood t)
theorem enc_ascii (c : UInt8) (h : c.toNat < 128) : encL ((c.toNat : Int)).toNat = [c] := by
  rw [Int.toNat_natCast]
  unfold encL
  rw [if_pos h]
  simp
theorem esc_txt (c : UInt8) : (txtL (escV c).length (escV c)).1 = [c] := by
  by_cases h : setV.contains c = true
  · have hc := esc_char h []
    rw [List.append_nil] at hc
    rw [txt_ok (by rw [hc]) _ (Nat.le_refl _), hc]
    simp only [List.drop_length, txtL_nil, List.append_nil]
    exact enc_ascii c (set_facts c (mem_set h)).2
  · unfold escV
    rw [if_neg h]
    have hno : charOut [c] 0 = (0, 0, 7) := charOut_no _ (by simp)
    rw [txt_no (by rw [hno]; simp) _ (by simp), txtL_nil]
/-- .. and is read as the text. -/
theorem put_txt : ∀ (s : List UInt8) (f : Nat), (putV s).length ≤ f → (txtL f (putV s)).1 = s
  | [], f, _ => by simp [putV, txtL_nil]
  | c :: t, f, hf => by
    have e : putV (c :: t) = escV c ++ putV t := by simp [putV]
    rw [e] at hf ⊢
    rw [List.length_append] at hf
    rw [txt_app (escV c).length (escV c) (putV t) f (putV t).length (Nat.le_refl _) hf (Nat.le_refl _) (esc_mgood c)]
    simp only
    rw [esc_txt, put_txt t _ (Nat.le_refl _)]
    rfl
/-- The error of a value. -/
def checkV (s : List UInt8) : Nat := if 0 ≤ Lib.indexByte s 37 then 7 else (refsOut s).2
theorem checkV_ok {s : List UInt8} (h : checkV s = 0) : mgood s ∧ Lib.indexByte s 37 < 0 := by
  unfold checkV at h
  split at h
  · cases h
  · exact ⟨(refs_mgood s).1 h, by omega⟩
theorem checkV_of {s : List UInt8} (h1 : mgood s) (h2 : ∀ i : Nat, s[i]? ≠ some 37) : checkV s = 0 := by
  unfold checkV
  rw [if_neg (by rw [ix_eq_none 37 s h2]; omega)]
  exact (refs_mgood s).2 h1
theorem checkV_put (s : List UInt8) : checkV (putV s) = 0 := checkV_of (put_mgood s) fun i hi => (put_no s 37 (List.mem_of_getElem? hi)).1 rfl
theorem checkV_app {a b : List UInt8} (ha : checkV a = 0) (hb : checkV b = 0) : checkV (a ++ b) = 0 := by
  obtain ⟨a1, a2⟩ := checkV_ok ha
  obtain ⟨b1, b2⟩ := checkV_ok hb
  refine checkV_of (mgood_app a1 b1) fun i hi => ?_
  have hm := List.mem_of_getElem? hi
  rcases List.mem_append.1 hm with h | h
  · obtain ⟨j, hj, e⟩ := List.getElem_of_mem h
    exact ix_none 37 a a2 j (by rw [List.getElem?_eq_getElem hj, e])
  · obtain ⟨j, hj, e⟩ := List.getElem_of_mem h
    exact ix_none 37 b b2 j (by rw [List.getElem?_eq_getElem hj, e])
end Go.Proofs.YtljmpghijlibaaaDoor
