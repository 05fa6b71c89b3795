/- Values of entities: the plain law of their text. -/
import Derived.Test.YtljmpghijlibaaaDoorRows
import Derived.WalkKit
import Derived.ProofKit
import Derived.OpenShut
import Derived.ShutString
import Derived.ChangeOld
import Derived.Below
import Derived.BigQuiet
import Derived.Deep.QuietTactic
import Derived.Lib.Hide
import Derived.Deep.RegionHeld3
import Derived.Lib.SlBytesConst
import Derived.Laws.CopyOwn
import Derived.Laws.CopyRow
import Derived.Lib.Bytes
import Derived.Deep.LoopGhost
import Derived.Deep.DeepFit
import Derived.Deep.DeepMust
import Derived.WalkSpells
import Derived.WalkLawsBesides
import Derived.Test.YtljmpghijlibaaaDoorShelf
import Derived.Test.YtljmpghijlibaaaDoorBase
import Derived.Test.YtljmpghijlibaaaDoorCharPlain
import Derived.Test.YtljmpghijlibaaaDoorChars1
import Derived.Test.YtljmpghijlibaaaDoorUtf1
import Derived.Test.YtljmpghijlibaaaDoorUtf2
import Derived.Test.YtljmpghijlibaaaDoorUtf3
import Derived.Test.YtljmpghijlibaaaDoorName1
import Derived.Test.YtljmpghijlibaaaDoorName2
import Derived.Test.YtljmpghijlibaaaDoorName3
import Derived.Test.YtljmpghijlibaaaDoorCref1
import Derived.Test.YtljmpghijlibaaaDoorY2
import Derived.Test.YtljmpghijlibaaaDoorY3
import Derived.Test.YtljmpghijlibaaaDoorMiscP
import Derived.Test.YtljmpghijlibaaaDoorEnc
namespace Go.Proofs.YtljmpghijlibaaaDoor
open Go.ChangeShapes Go.WideShapes Go.ChangeAt Go.RowKit
set_option linter.unusedVariables false
theorem digs_drop (b : Int) (l : List UInt8) (k j : Nat) : digs b ((l.drop k).drop j) = digs b (l.drop (k + j)) := by rw [List.drop_drop]
/-- What is read of a reference to a character hangs on what stands from its place on. -/
theorem charBody_drop (b cap : Int) (l : List UInt8) (k j : Nat) : charBody b cap l (k + j) = ((charBody b cap (l.drop k) j).1, (if (charBody b cap (l.drop k) j).2.2 = 0 then k + (charBody b cap (l.drop k) j).2.1 else 0), (charBody b cap (l.drop k) j).2.2) := by
  unfold charBody
  simp only [List.drop_drop, List.getElem?_drop]
  rw [show k + (j + (digs b (l.drop (k + j))).length) = k + j + (digs b (l.drop (k + j))).length by omega]
  split
  · simp
  · split
    · simp; omega
    · simp
theorem charOut_drop (l : List UInt8) (k : Nat) : charOut l k = ((charOut (l.drop k) 0).1, (if (charOut (l.drop k) 0).2.2 = 0 then k + (charOut (l.drop k) 0).2.1 else 0), (charOut (l.drop k) 0).2.2) := by
  unfold charOut
  simp only [List.getElem?_drop, Nat.add_zero, Nat.zero_add]
  split
  · split
    · exact charBody_drop 16 2097152 l k 3
    · exact charBody_drop 10 2097152 l k 2
  · simp
theorem charOut_no (l : List UInt8) (h : ¬ (l[0]? = some 38 ∧ l[1]? = some 35)) : charOut l 0 = (0, 0, 7) := by
  unfold charOut
  rw [if_neg (by simpa using h)]
/-- Is each '&#' a reference to a character? -/
def cgood (l : List UInt8) : Prop := ∀ j, l[j]? = some 38 → l[j + 1]? = some 35 → (charOut l j).2.2 = 0
theorem cgood_drop {l : List UInt8} (h : cgood l) (k : Nat) : cgood (l.drop k) := fun j h1 h2 => by
  rw [List.getElem?_drop] at h1 h2
  have h3 := h (k + j) h1 (by rw [← h2]; congr 1)
  rw [charOut_drop] at h3
  have h4 := charOut_drop (l.drop k) j
  rw [List.drop_drop] at h4
  rw [h4]
  exact h3
/-- The text of a value, and how many characters' references it has. -/
def txtL : Nat → List UInt8 → List UInt8 × Nat
  | 0, _ => ([], 0)
  | _ + 1, [] => ([], 0)
  | f + 1, c :: t => if (charOut (c :: t) 0).2.2 = 0 then (encL (charOut (c :: t) 0).1.toNat ++ (txtL f ((c :: t).drop (charOut (c :: t) 0).2.1)).1, (txtL f ((c :: t).drop (charOut (c :: t) 0).2.1)).2 + 1)
    else (c :: (txtL f t).1, (txtL f t).2)
def txtOut (l : List UInt8) : List UInt8 × Nat := txtL l.length l
theorem txtL_nil (f : Nat) : txtL f [] = ([], 0) := by cases f <;> rfl
theorem txtL_fuel : ∀ (f g : Nat) (l : List UInt8), l.length ≤ f → l.length ≤ g → txtL f l = txtL g l
  | 0, g, l, h, _ => by
    have : l = [] := List.length_eq_zero_iff.1 (by omega)
    subst this
    rw [txtL_nil, txtL_nil]
  | f + 1, 0, l, _, h => by
    have : l = [] := List.length_eq_zero_iff.1 (by omega)
    subst this
    rw [txtL_nil, txtL_nil]
  | f + 1, g + 1, [], _, _ => rfl
  | f + 1, g + 1, c :: t, h1, h2 => by
    simp only [List.length_cons] at h1 h2
    unfold txtL
    split
    · rename_i h0
      have hn := charOut_next (c :: t) 0 h0
      have e := txtL_fuel f g ((c :: t).drop (charOut (c :: t) 0).2.1) (by rw [List.length_drop, List.length_cons]; omega) (by rw [List.length_drop, List.length_cons]; omega)
      rw [e]
    · rw [txtL_fuel f g t (by omega) (by omega)]
theorem txt_ok {l : List UInt8} (h : (charOut l 0).2.2 = 0) (f : Nat) (hf : l.length ≤ f) : txtL f l = (encL (charOut l 0).1.toNat ++ (txtL f (l.drop (charOut l 0).2.1)).1, (txtL f (l.drop (charOut l 0).2.1)).2 + 1) := by
  have hn := charOut_next l 0 h
  cases l with
  | nil => simp at hn; omega
  | cons c t =>
    cases f with
    | zero => simp at hf
    | succ f =>
      simp only [List.length_cons] at hf hn
      conv => lhs; unfold txtL
      rw [if_pos h]
      rw [txtL_fuel f (f + 1) ((c :: t).drop (charOut (c :: t) 0).2.1) (by rw [List.length_drop, List.length_cons]; omega) (by rw [List.length_drop, List.length_cons]; omega)]
theorem txt_no {c : UInt8} {t : List UInt8} (h : (charOut (c :: t) 0).2.2 ≠ 0) (f : Nat) (hf : t.length + 1 ≤ f) : txtL f (c :: t) = (c :: (txtL f t).1, (txtL f t).2) := by
  cases f with
  | zero => omega
  | succ f =>
    conv => lhs; unfold txtL
    rw [if_neg h, txtL_fuel f (f + 1) t (by omega) (by omega)]
/-- Bytes that begin no reference to a character stand for themselves. -/
theorem txt_skip : ∀ (k : Nat) (l : List UInt8) (f : Nat), l.length ≤ f → k ≤ l.length → (∀ j, j < k → ¬ (l[j]? = some 38 ∧ l[j + 1]? = some 35)) → txtL f l = (l.take k ++ (txtL f (l.drop k)).1, (txtL f (l.drop k)).2)
  | 0, l, f, _, _, _ => by simp
  | k + 1, [], f, _, h, _ => by simp at h
  | k + 1, c :: t, f, hf, hk, h => by
    have h0 := charOut_no (c :: t) (h 0 (by omega))
    simp only [List.length_cons] at hf hk
    rw [txt_no (by rw [h0]; simp) f hf, txt_skip k t f (by omega) (by omega) (fun j hj hh => h (j + 1) (by omega) (by simpa using hh))]
    simp
/-- The parts of a value, as the program finds them. -/
def pcs : Nat → List UInt8 → List (List UInt8 × Int × Bool)
  | 0, _ => []
  | _ + 1, [] => []
  | f + 1, c :: t => if Lib.index (c :: t) [38, 35] < 0 then [(c :: t, 0, false)]
    else if Lib.index (c :: t) [38, 35] = 0 then ([], (charOut (c :: t) 0).1, true) :: pcs f ((c :: t).drop (max (charOut (c :: t) 0).2.1 1))
    else ((c :: t).take (Lib.index (c :: t) [38, 35]).toNat, 0, false) :: pcs f ((c :: t).drop (Lib.index (c :: t) [38, 35]).toNat)
def pieceB (p : List UInt8 × Int × Bool) : List UInt8 := if p.2.2 then encL p.2.1.toNat else p.1
theorem pre_two (l : List UInt8) (j : Nat) : [38, 35].isPrefixOf (l.drop j) = true ↔ l[j]? = some 38 ∧ l[j + 1]? = some 35 := by
  constructor
  · intro h
    have h0 := pre_get h 0 (by simp)
    have h1 := pre_get h 1 (by simp)
    exact ⟨by simpa using h0, by simpa using h1⟩
  · rintro ⟨h0, h1⟩
    refine pre_of_get fun i hi => ?_
    simp at hi
    rcases (by omega : i = 0 ∨ i = 1) with rfl | rfl
    · simpa using h0
    · simpa using h1
/-- The parts of a value whose references are right are its text. -/
theorem pcs_txt : ∀ (f : Nat) (l : List UInt8) (g : Nat), l.length ≤ f → l.length ≤ g → cgood l → (pcs f l).flatMap pieceB = (txtL g l).1 ∧ ((pcs f l).countP fun p => p.2.2) = (txtL g l).2
  | 0, l, g, h, _, _ => by
    have : l = [] := List.length_eq_zero_iff.1 (by omega)
    subst this
    rw [txtL_nil]
    exact ⟨rfl, rfl⟩
  | f + 1, [], g, _, _, _ => by rw [txtL_nil]; exact ⟨rfl, rfl⟩
  | f + 1, c :: t, g, h1, h2, hc => by
    have hsp := findI_spec (c :: t) [38, 35] 0 (Nat.zero_le _)
    unfold findI at hsp
    rw [List.drop_zero] at hsp
    have hz : ((0 : Nat) : Int) + Lib.index (c :: t) [38, 35] = Lib.index (c :: t) [38, 35] := by omega
    unfold pcs
    by_cases hi : Lib.index (c :: t) [38, 35] < 0
    · rw [if_pos hi]
      rw [if_pos hi] at hsp
      have hno : ∀ j, j < (c :: t).length → ¬ ((c :: t)[j]? = some 38 ∧ (c :: t)[j + 1]? = some 35) := fun j hj hh => by
        rcases hsp with ⟨_, hn⟩ | ⟨i, h, _⟩
        · have := hn j (Nat.zero_le _) (by omega)
          rw [(pre_two _ _).2 hh] at this
          cases this
        · omega
      rw [txt_skip (c :: t).length (c :: t) g h2 (Nat.le_refl _) hno]
      rw [List.drop_length, txtL_nil]
      simp [pieceB]
    · rw [if_neg hi]
      rw [if_neg hi, hz] at hsp
      rcases hsp with ⟨h, _⟩ | ⟨i, h, _, hil, ho, hn⟩
      · omega
      · have hh := (pre_two _ _).1 ho
        rw [h]
        by_cases hi0 : i = 0
        · subst hi0
          rw [if_pos (show ((0 : Nat) : Int) = 0 from rfl)]
          have hok := hc 0 hh.1 hh.2
          have hnx := charOut_next (c :: t) 0 hok
          rw [show max (charOut (c :: t) 0).2.1 1 = (charOut (c :: t) 0).2.1 by omega]
          have ih := pcs_txt f ((c :: t).drop (charOut (c :: t) 0).2.1) g (by rw [List.length_drop]; simp only [List.length_cons] at *; omega) (by rw [List.length_drop]; omega) (cgood_drop hc _)
          rw [txt_ok hok g h2]
          simp [pieceB, ih.1, ih.2]
        · rw [if_neg (by omega), Int.toNat_natCast]
          have hil' : i ≤ (c :: t).length := by simp only [List.length_cons, List.length_nil] at hil ⊢; omega
          have ih := pcs_txt f ((c :: t).drop i) g (by rw [List.length_drop]; simp only [List.length_cons] at *; omega) (by rw [List.length_drop]; omega) (cgood_drop hc _)
          rw [txt_skip i (c :: t) g h2 hil' (fun j hj hh2 => by
            have := hn j (Nat.zero_le _) hj
            rw [(pre_two _ _).2 hh2] at this
            cases this)]
          simp [pieceB, ih.1, ih.2]
end Go.Proofs.YtljmpghijlibaaaDoor
