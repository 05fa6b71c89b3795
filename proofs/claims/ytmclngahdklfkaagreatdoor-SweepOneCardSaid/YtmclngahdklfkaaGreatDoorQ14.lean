/- Texts of ours, joined: DcB. -/
import Derived.Test.YtmclngahdklfkaaGreatDoorRows
import Derived.WalkKit
import Derived.ProofKit
import Derived.OpenShut
import Derived.ShutString
import Derived.ChangeOld
import Derived.Below
import Derived.BigQuiet
import Derived.Deep.QuietTactic
import Derived.Lib.Hide
import Derived.Deep.RegionHeld3
import Derived.Lib.SlBytesConst
import Derived.Laws.CopyOwn
import Derived.Laws.CopyRow
import Derived.Lib.Bytes
import Derived.Deep.LoopGhost
import Derived.Deep.DeepFit
import Derived.Deep.DeepMust
import Derived.WalkSpells
import Derived.WalkLawsBesides
import Derived.Shelf.Unicode.DecodeSlow
import Derived.Laws.RangeString
import Derived.Laws.Runes
import Derived.Laws.RangeAny
import Derived.Test.YtmclngahdklfkaaGreatDoorQ1
import Derived.Test.YtmclngahdklfkaaGreatDoorQ13
/- unicode/utf8.decodeRuneSlow of bytes that begin a character of more than one byte, or none. -/
namespace Go.Proofs.YtmclngahdklfkaaGreatDoor
open Go.ChangeShapes Go.WideShapes Go.ChangeAt Go.RowKit
set_option linter.unusedVariables false
theorem getB {l : List UInt8} {k : Nat} {c : UInt8} (h : l[k]? = some c) : (⟨l.toArray⟩ : ByteArray).get! k = c := by
  have hk := (List.getElem?_eq_some_iff.1 h).1
  have hs : (⟨l.toArray⟩ : ByteArray).size = l.length := by simp [ByteArray.size]
  rw [get_plus _ _ (by rw [hs]; exact hk)]
  have : (⟨l.toArray⟩ : ByteArray)[k]'(by rw [hs]; exact hk) = l[k] := rfl
  rw [this]
  rw [List.getElem?_eq_getElem hk] at h
  exact Option.some.inj h
/-- The bytes of a character of more than one byte. -/
def decU (l : List UInt8) : Nat × Nat := Utf8.decode ⟨l.toArray⟩ 0
set_option maxRecDepth 100000 in
set_option maxHeartbeats 8000000 in
theorem decSlow_c (b o n cap : Nat) (l : List UInt8) (w : World) (h : Byt w w.heap.size (some ⟨b, o, none⟩) n cap l) (hn : 0 < n) (hm : n ≤ 1000000) (hT : Lib.Utf8Tabs 8 9 w) (c0 : UInt8) (hc : l[0]? = some c0) (h128 : 128 ≤ c0.toNat) :
    Calls Tryz.prog 165 #[.slice (some ⟨b, o, none⟩) n cap] w fun e w' => e = .returned (.tuple #[.int .i32 (decU l).1, .int .i64 (decU l).2]) ∧ Below w.heap.size w w' := by
  have hln := h.length
  have hs : (⟨l.toArray⟩ : ByteArray).size = l.length := by simp [ByteArray.size]
  obtain ⟨x0, hx0⟩ : ∃ x0, (⟨l.toArray⟩ : ByteArray).get! 0 = x0 := ⟨_, rfl⟩
  obtain ⟨x1, hx1⟩ : ∃ x1, (⟨l.toArray⟩ : ByteArray).get! 1 = x1 := ⟨_, rfl⟩
  obtain ⟨x2, hx2⟩ : ∃ x2, (⟨l.toArray⟩ : ByteArray).get! 2 = x2 := ⟨_, rfl⟩
  obtain ⟨x3, hx3⟩ : ∃ x3, (⟨l.toArray⟩ : ByteArray).get! 3 = x3 := ⟨_, rfl⟩
  obtain rfl : x0 = c0 := hx0.symm.trans (getB hc)
  have l0 := x0.toNat_lt; have l1 := x1.toNat_lt; have l2 := x2.toNat_lt; have l3 := x3.toNat_lt
  have hbB : b < w.heap.size := by
    obtain ⟨b', o', c', e, hb, _⟩ := h.cell hn
    cases e
    exact hb
  have hcell : ∀ k, k < n → w.cell? ⟨b, o + k, none⟩ = some (.int .u8 ((⟨l.toArray⟩ : ByteArray).get! k).toNat) := fun k hk => by
    obtain ⟨b', o', c', e, hb, h1, h2⟩ := h.cell hk
    cases e
    rw [getB h1]
    exact h2
  have hdec : decU l = Lib.decodeN n x0.toNat x1.toNat x2.toNat x3.toNat := by
    unfold decU
    rw [Lib.decode_at, Nat.sub_zero, Nat.zero_add, Nat.zero_add, Nat.zero_add, hx0, hx1, hx2, hx3, hs, hln]
  rw [hdec]
  have hc0 := hT.1 x0.toNat (by omega)
  have hf0 := hcell 0 hn
  rw [hx0, Nat.add_zero] at hf0
  have hres : Lib.firstT x0.toNat < 240 → Lib.decodeN n x0.toNat x1.toNat x2.toNat x3.toNat = Lib.slowN n x0.toNat x1.toNat x2.toNat x3.toNat (Lib.firstT x0.toNat % 8) (Lib.accLo (Lib.firstT x0.toNat / 16)) (Lib.accHi (Lib.firstT x0.toNat / 16)) :=
    fun h => (Lib.slow_eq _ _ _ _ _ (by omega) (by omega) (by omega) (by omega) h).symm
  have hn0 : ¬ ((n : Int) < 1) := by omega
  have hn00 : (0 : Int) < (n : Int) := by omega
  have hf1 : 1 < n → w.cell? ⟨b, o + 1, none⟩ = some (.int .u8 x1.toNat) := fun h1 => by rw [hcell 1 h1, hx1]
  have hf2 : 2 < n → w.cell? ⟨b, o + 2, none⟩ = some (.int .u8 x2.toNat) := fun h1 => by rw [hcell 2 h1, hx2]
  have hf3 : 3 < n → w.cell? ⟨b, o + 3, none⟩ = some (.int .u8 x3.toNat) := fun h1 => by rw [hcell 3 h1, hx3]
  clear hcell hdec hx0 hx1 hx2 hx3 hc h hs hln
  rcases Lib.firstT_cases x0.toNat with hX | hX | hX | hX | hX | hX | hX | hX | hX
  · exfalso
    unfold Lib.firstT at hX
    rw [if_neg (by omega)] at hX
    repeat' split at hX
    all_goals omega
  · rw [Lib.bad_eq _ _ _ _ _ (by omega) hX]
    rw [hX] at hc0
    clear hres hT hX hf1 hf2 hf3
    go_enter Tryz.func165, Tryz.ntmps165
    go_wp2
    rw [Utf8W.mask241, Utf8W.drop_byte ⟨x0.toNat, l0⟩]
    go_ret2
    exact ⟨rfl, Below.refl _ _⟩
  all_goals replace hres := hres (by omega)
  · rw [hX] at hc0 hres
    have ha0 := (hT.2 0 (by omega)).1
    have ha1 := (hT.2 0 (by omega)).2
    simp only [Lib.accLo, Lib.accHi, Nat.reduceMul, Nat.reduceAdd, Nat.reduceEqDiff, if_true, if_false, Nat.reduceMod, Nat.reduceDiv] at ha0 ha1 hres
    rw [hres]
    clear hres hT hX
    by_cases hn : n < 2
    · have hnz : (n : Int) < 2 := by omega
      clear hf1 hf2 hf3
      go_enter Tryz.func165, Tryz.ntmps165
      go_wp2
      all_goals (go_ret2; refine ⟨?_, (Below.refl _ _).alloc (Nat.le_refl _) _⟩; utf8_leaf)
    · have hnz : ¬ ((n : Int) < 2) := by omega
      have hz1 : (1 : Int) < (n : Int) := by omega
      replace hf1 := hf1 (by omega)
      clear hf2 hf3
      go_enter Tryz.func165, Tryz.ntmps165
      go_wp2
      all_goals (go_ret2; refine ⟨?_, (Below.refl _ _).alloc (Nat.le_refl _) _⟩; utf8_leaf)
  · rw [hX] at hc0 hres
    have ha0 := (hT.2 1 (by omega)).1
    have ha1 := (hT.2 1 (by omega)).2
    simp only [Lib.accLo, Lib.accHi, Nat.reduceMul, Nat.reduceAdd, Nat.reduceEqDiff, if_true, if_false, Nat.reduceMod, Nat.reduceDiv] at ha0 ha1 hres
    rw [hres]
    clear hres hT hX
    by_cases hn : n < 3
    · have hnz : (n : Int) < 3 := by omega
      clear hf1 hf2 hf3
      go_enter Tryz.func165, Tryz.ntmps165
      go_wp2
      all_goals (go_ret2; refine ⟨?_, (Below.refl _ _).alloc (Nat.le_refl _) _⟩; utf8_leaf)
    · have hnz : ¬ ((n : Int) < 3) := by omega
      have hz1 : (1 : Int) < (n : Int) := by omega
      replace hf1 := hf1 (by omega)
      have hz2 : (2 : Int) < (n : Int) := by omega
      replace hf2 := hf2 (by omega)
      clear hf3
      go_enter Tryz.func165, Tryz.ntmps165
      go_wp2
      all_goals (go_ret2; refine ⟨?_, (Below.refl _ _).alloc (Nat.le_refl _) _⟩; utf8_leaf)
  · rw [hX] at hc0 hres
    have ha0 := (hT.2 0 (by omega)).1
    have ha1 := (hT.2 0 (by omega)).2
    simp only [Lib.accLo, Lib.accHi, Nat.reduceMul, Nat.reduceAdd, Nat.reduceEqDiff, if_true, if_false, Nat.reduceMod, Nat.reduceDiv] at ha0 ha1 hres
    rw [hres]
    clear hres hT hX
    by_cases hn : n < 3
    · have hnz : (n : Int) < 3 := by omega
      clear hf1 hf2 hf3
      go_enter Tryz.func165, Tryz.ntmps165
      go_wp2
      all_goals (go_ret2; refine ⟨?_, (Below.refl _ _).alloc (Nat.le_refl _) _⟩; utf8_leaf)
    · have hnz : ¬ ((n : Int) < 3) := by omega
      have hz1 : (1 : Int) < (n : Int) := by omega
      replace hf1 := hf1 (by omega)
      have hz2 : (2 : Int) < (n : Int) := by omega
      replace hf2 := hf2 (by omega)
      clear hf3
      go_enter Tryz.func165, Tryz.ntmps165
      go_wp2
      all_goals (go_ret2; refine ⟨?_, (Below.refl _ _).alloc (Nat.le_refl _) _⟩; utf8_leaf)
  · rw [hX] at hc0 hres
    have ha0 := (hT.2 2 (by omega)).1
    have ha1 := (hT.2 2 (by omega)).2
    simp only [Lib.accLo, Lib.accHi, Nat.reduceMul, Nat.reduceAdd, Nat.reduceEqDiff, if_true, if_false, Nat.reduceMod, Nat.reduceDiv] at ha0 ha1 hres
    rw [hres]
    clear hres hT hX
    by_cases hn : n < 3
    · have hnz : (n : Int) < 3 := by omega
      clear hf1 hf2 hf3
      go_enter Tryz.func165, Tryz.ntmps165
      go_wp2
      all_goals (go_ret2; refine ⟨?_, (Below.refl _ _).alloc (Nat.le_refl _) _⟩; utf8_leaf)
    · have hnz : ¬ ((n : Int) < 3) := by omega
      have hz1 : (1 : Int) < (n : Int) := by omega
      replace hf1 := hf1 (by omega)
      have hz2 : (2 : Int) < (n : Int) := by omega
      replace hf2 := hf2 (by omega)
      clear hf3
      go_enter Tryz.func165, Tryz.ntmps165
      go_wp2
      all_goals (go_ret2; refine ⟨?_, (Below.refl _ _).alloc (Nat.le_refl _) _⟩; utf8_leaf)
  · rw [hX] at hc0 hres
    have ha0 := (hT.2 3 (by omega)).1
    have ha1 := (hT.2 3 (by omega)).2
    simp only [Lib.accLo, Lib.accHi, Nat.reduceMul, Nat.reduceAdd, Nat.reduceEqDiff, if_true, if_false, Nat.reduceMod, Nat.reduceDiv] at ha0 ha1 hres
    rw [hres]
    clear hres hT hX
    by_cases hn : n < 4
    · have hnz : (n : Int) < 4 := by omega
      clear hf1 hf2 hf3
      go_enter Tryz.func165, Tryz.ntmps165
      go_wp2
      all_goals (go_ret2; refine ⟨?_, (Below.refl _ _).alloc (Nat.le_refl _) _⟩; utf8_leaf)
    · have hnz : ¬ ((n : Int) < 4) := by omega
      have hz1 : (1 : Int) < (n : Int) := by omega
      replace hf1 := hf1 (by omega)
      have hz2 : (2 : Int) < (n : Int) := by omega
      replace hf2 := hf2 (by omega)
      have hz3 : (3 : Int) < (n : Int) := by omega
      replace hf3 := hf3 (by omega)
      go_enter Tryz.func165, Tryz.ntmps165
      go_wp2
      all_goals (go_ret2; refine ⟨?_, (Below.refl _ _).alloc (Nat.le_refl _) _⟩; utf8_leaf)
  · rw [hX] at hc0 hres
    have ha0 := (hT.2 0 (by omega)).1
    have ha1 := (hT.2 0 (by omega)).2
    simp only [Lib.accLo, Lib.accHi, Nat.reduceMul, Nat.reduceAdd, Nat.reduceEqDiff, if_true, if_false, Nat.reduceMod, Nat.reduceDiv] at ha0 ha1 hres
    rw [hres]
    clear hres hT hX
    by_cases hn : n < 4
    · have hnz : (n : Int) < 4 := by omega
      clear hf1 hf2 hf3
      go_enter Tryz.func165, Tryz.ntmps165
      go_wp2
      all_goals (go_ret2; refine ⟨?_, (Below.refl _ _).alloc (Nat.le_refl _) _⟩; utf8_leaf)
    · have hnz : ¬ ((n : Int) < 4) := by omega
      have hz1 : (1 : Int) < (n : Int) := by omega
      replace hf1 := hf1 (by omega)
      have hz2 : (2 : Int) < (n : Int) := by omega
      replace hf2 := hf2 (by omega)
      have hz3 : (3 : Int) < (n : Int) := by omega
      replace hf3 := hf3 (by omega)
      go_enter Tryz.func165, Tryz.ntmps165
      go_wp2
      all_goals (go_ret2; refine ⟨?_, (Below.refl _ _).alloc (Nat.le_refl _) _⟩; utf8_leaf)
  · rw [hX] at hc0 hres
    have ha0 := (hT.2 4 (by omega)).1
    have ha1 := (hT.2 4 (by omega)).2
    simp only [Lib.accLo, Lib.accHi, Nat.reduceMul, Nat.reduceAdd, Nat.reduceEqDiff, if_true, if_false, Nat.reduceMod, Nat.reduceDiv] at ha0 ha1 hres
    rw [hres]
    clear hres hT hX
    by_cases hn : n < 4
    · have hnz : (n : Int) < 4 := by omega
      clear hf1 hf2 hf3
      go_enter Tryz.func165, Tryz.ntmps165
      go_wp2
      all_goals (go_ret2; refine ⟨?_, (Below.refl _ _).alloc (Nat.le_refl _) _⟩; utf8_leaf)
    · have hnz : ¬ ((n : Int) < 4) := by omega
      have hz1 : (1 : Int) < (n : Int) := by omega
      replace hf1 := hf1 (by omega)
      have hz2 : (2 : Int) < (n : Int) := by omega
      replace hf2 := hf2 (by omega)
      have hz3 : (3 : Int) < (n : Int) := by omega
      replace hf3 := hf3 (by omega)
      go_enter Tryz.func165, Tryz.ntmps165
      go_wp2
      all_goals (go_ret2; refine ⟨?_, (Below.refl _ _).alloc (Nat.le_refl _) _⟩; utf8_leaf)
end Go.Proofs.YtmclngahdklfkaaGreatDoor
