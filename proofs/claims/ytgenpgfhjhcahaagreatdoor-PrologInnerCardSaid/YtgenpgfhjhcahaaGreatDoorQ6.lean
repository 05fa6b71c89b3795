/- Texts of ours, joined: Ref5. -/
import Derived.Test.YtgenpgfhjhcahaaGreatDoorRows
import Derived.WalkKit
import Derived.ProofKit
import Derived.OpenShut
import Derived.ShutString
import Derived.ChangeOld
import Derived.Below
import Derived.BigQuiet
import Derived.Deep.QuietTactic
import Derived.Lib.Hide
import Derived.Deep.RegionHeld3
import Derived.Lib.SlBytesConst
import Derived.Laws.CopyOwn
import Derived.Laws.CopyRow
import Derived.Lib.Bytes
import Derived.Deep.LoopGhost
import Derived.Deep.DeepFit
import Derived.Deep.DeepMust
import Derived.WalkSpells
import Derived.WalkLawsBesides
import Derived.Laws.EntriesVeiled
import Derived.Laws.Rows
import Derived.Test.YtgenpgfhjhcahaaGreatDoorQ1
import Derived.Test.YtgenpgfhjhcahaaGreatDoorQ2
import Derived.Test.YtgenpgfhjhcahaaGreatDoorQ3
import Derived.Test.YtgenpgfhjhcahaaGreatDoorQ4
import Derived.Test.YtgenpgfhjhcahaaGreatDoorQ5
/- The document's character at a place: the walk. -/
namespace Go.Proofs.YtgenpgfhjhcahaaGreatDoor
open Go.ChangeShapes Go.WideShapes Go.ChangeAt Go.RowKit
set_option linter.unusedVariables false
def pairV : Option (Nat × Nat) → Value
  | some (r, n) => .tuple #[.int .i64 r, .int .i64 n]
  | none => .tuple #[.int .i64 0, .int .i64 0]
theorem bytesN_eq (r : Int) (N : Nat) (h : (N = 1 ∧ r < 128) ∨ (N = 2 ∧ 128 ≤ r ∧ r < 2048) ∨ (N = 3 ∧ 2048 ≤ r ∧ r < 65536) ∨ (N = 4 ∧ 65536 ≤ r)) : bytesN r = N := by
  unfold bytesN
  rcases h with ⟨rfl, h⟩ | ⟨rfl, h⟩ | ⟨rfl, h⟩ | ⟨rfl, h⟩
  · rw [if_pos h]
  · rw [if_neg (by omega), if_pos (by omega)]
  · rw [if_neg (by omega), if_neg (by omega), if_pos (by omega)]
  · rw [if_neg (by omega), if_neg (by omega), if_neg (by omega)]
theorem bytesN_lt (r : Int) (N : Nat) (h : (N = 2 ∧ r < 128) ∨ (N = 3 ∧ r < 2048) ∨ (N = 4 ∧ r < 65536)) : bytesN r < N := by
  have e : bytesN r ≤ 4 ∧ (r < 128 → bytesN r ≤ 1) ∧ (r < 2048 → bytesN r ≤ 2) ∧ (r < 65536 → bytesN r ≤ 3) := by
    unfold bytesN
    by_cases h1 : r < 128
    · simp [h1]
    · by_cases h2 : r < 2048
      · simp [h1, h2]
      · by_cases h3 : r < 65536
        · simp [h1, h2, h3]
        · simp [h1, h2, h3]
  omega
set_option maxRecDepth 100000 in
set_option maxHeartbeats 8000000 in
theorem refDec_a (A : Option Addr) (n cap : Nat) (l : List UInt8) (k : Nat) (w : World) (B : Nat) (h : Byt w B A n cap l) (hk : k < n) (hm : n ≤ 50000) (c : UInt8) (hc : l[k]? = some c) (hcl : 0 ≤ c.toNat ∧ c.toNat ≤ 127) :
    Calls Tryz.prog 83 #[.slice A n cap, .int .i64 k] w fun e w' => e = .returned (pairV (dec (l.drop k))) ∧ Below w.heap.size w w' := by
  have hdec : dec (l.drop k) = some (c.toNat, 1) := dec_1 l k c hc (by omega)
  obtain ⟨b, o, c', rfl, hb, hc', hcell⟩ := h.cell hk
  obtain rfl : c' = c := by rw [hc] at hc'; exact (Option.some.inj hc').symm
  have r1 := rest_c (some ⟨b, o, none⟩) n cap l (k + 1) w B h
  have r2 := rest_c (some ⟨b, o, none⟩) n cap l (k + 2) w B h
  have r3 := rest_c (some ⟨b, o, none⟩) n cap l (k + 3) w B h
  rw [show ((k + 1 : Nat) : Int) = (k : Int) + 1 by omega] at r1
  rw [show ((k + 2 : Nat) : Int) = (k : Int) + 2 by omega] at r2
  rw [show ((k + 3 : Nat) : Int) = (k : Int) + 3 by omega] at r3
  have b1 := restOf_lt l (k + 1)
  have b2 := restOf_lt l (k + 2)
  have b3 := restOf_lt l (k + 3)
  have hkn : (k : Int) < (n : Int) := by omega
  generalize restOf l (k + 1) = x at *
  generalize restOf l (k + 2) = y at *
  generalize restOf l (k + 3) = z at *
  have HD := Lib.hid hdec
  clear hdec h hc hc'
  generalize c'.toNat = cc at *
  have a0 : decide ((cc : Int) < 128) = true := by simp; omega
  have a1 : decide (192 ≤ (cc : Int)) = false := by simp; omega
  have a2 : decide ((cc : Int) < 224) = true := by simp; omega
  have a3 : decide (224 ≤ (cc : Int)) = false := by simp; omega
  have a4 : decide ((cc : Int) < 240) = true := by simp; omega
  have a5 : decide (240 ≤ (cc : Int)) = false := by simp; omega
  have a6 : decide ((cc : Int) < 248) = true := by simp; omega
  have hI : ∀ w0 : World, Calls Tryz.prog 131 #[.int .i64 (cc : Int)] w0 fun e w' => e = .returned (.bool true) ∧ w0 = w' := fun w0 => by
    have := ref02Is_c (cc : Int) w0
    rwa [show isR (cc : Int) = true by rw [isR_iff]; omega] at this
  have hB := fun w0 => bytes_c (cc : Int) w0 (by omega) (by omega)
  rw [bytesN_eq (cc : Int) 1 (by omega)] at hB
  go_enter Tryz.func83, Tryz.ntmps83
  go_wp2_with fail
  refine r1.mono ?_
  rintro e w1 ⟨rfl, rfl⟩
  go_wp2_with fail
  refine r2.mono ?_
  rintro e w1 ⟨rfl, rfl⟩
  go_wp2_with fail
  refine r3.mono ?_
  rintro e w1 ⟨rfl, rfl⟩
  go_wp2_with fail
  refine (hI _).mono ?_
  rintro e w1 ⟨rfl, rfl⟩
  go_wp2_with fail
  refine (hB _).mono ?_
  rintro e w1 ⟨⟨a, rfl⟩, hb1⟩
  have HB := Lib.hid hb1
  clear hb1 hcell
  go_wp2
  go_ret2
  exact ⟨by rw [HD.out]; rfl, HB.out⟩
set_option maxRecDepth 100000 in
set_option maxHeartbeats 8000000 in
theorem refDec_b (A : Option Addr) (n cap : Nat) (l : List UInt8) (k : Nat) (w : World) (B : Nat) (h : Byt w B A n cap l) (hk : k < n) (hm : n ≤ 50000) (c : UInt8) (hc : l[k]? = some c) (hcl : 128 ≤ c.toNat ∧ c.toNat ≤ 191) :
    Calls Tryz.prog 83 #[.slice A n cap, .int .i64 k] w fun e w' => e = .returned (pairV (dec (l.drop k))) ∧ Below w.heap.size w w' := by
  have hdec : dec (l.drop k) = none := dec_0 l k c hc (by omega)
  obtain ⟨b, o, c', rfl, hb, hc', hcell⟩ := h.cell hk
  obtain rfl : c' = c := by rw [hc] at hc'; exact (Option.some.inj hc').symm
  have r1 := rest_c (some ⟨b, o, none⟩) n cap l (k + 1) w B h
  have r2 := rest_c (some ⟨b, o, none⟩) n cap l (k + 2) w B h
  have r3 := rest_c (some ⟨b, o, none⟩) n cap l (k + 3) w B h
  rw [show ((k + 1 : Nat) : Int) = (k : Int) + 1 by omega] at r1
  rw [show ((k + 2 : Nat) : Int) = (k : Int) + 2 by omega] at r2
  rw [show ((k + 3 : Nat) : Int) = (k : Int) + 3 by omega] at r3
  have b1 := restOf_lt l (k + 1)
  have b2 := restOf_lt l (k + 2)
  have b3 := restOf_lt l (k + 3)
  have hkn : (k : Int) < (n : Int) := by omega
  generalize restOf l (k + 1) = x at *
  generalize restOf l (k + 2) = y at *
  generalize restOf l (k + 3) = z at *
  have HD := Lib.hid hdec
  clear hdec h hc hc'
  generalize c'.toNat = cc at *
  have a0 : decide ((cc : Int) < 128) = false := by simp; omega
  have a1 : decide (192 ≤ (cc : Int)) = false := by simp; omega
  have a2 : decide ((cc : Int) < 224) = true := by simp; omega
  have a3 : decide (224 ≤ (cc : Int)) = false := by simp; omega
  have a4 : decide ((cc : Int) < 240) = true := by simp; omega
  have a5 : decide (240 ≤ (cc : Int)) = false := by simp; omega
  have a6 : decide ((cc : Int) < 248) = true := by simp; omega
  go_enter Tryz.func83, Tryz.ntmps83
  go_wp2_with fail
  refine r1.mono ?_
  rintro e w1 ⟨rfl, rfl⟩
  go_wp2_with fail
  refine r2.mono ?_
  rintro e w1 ⟨rfl, rfl⟩
  go_wp2_with fail
  refine r3.mono ?_
  rintro e w1 ⟨rfl, rfl⟩
  go_wp2
  go_ret2
  exact ⟨by rw [HD.out]; rfl, Below.refl _ _⟩
set_option maxRecDepth 100000 in
set_option maxHeartbeats 8000000 in
theorem refDec_cc (A : Option Addr) (n cap : Nat) (l : List UInt8) (k : Nat) (w : World) (B : Nat) (h : Byt w B A n cap l) (hk : k < n) (hm : n ≤ 50000) (c : UInt8) (hc : l[k]? = some c) (hcl : 192 ≤ c.toNat ∧ c.toNat ≤ 223) (hx : 0 ≤ restOf l (k + 1)) :
    Calls Tryz.prog 83 #[.slice A n cap, .int .i64 k] w fun e w' => e = .returned (pairV (dec (l.drop k))) ∧ Below w.heap.size w w' := by
  have hdec : dec (l.drop k) = mk 128 2 ((c.toNat - 192) * 64 + (restOf l (k + 1)).toNat) := by rw [dec_2 l k c hc (by omega), if_pos (by omega)]
  obtain ⟨b, o, c', rfl, hb, hc', hcell⟩ := h.cell hk
  obtain rfl : c' = c := by rw [hc] at hc'; exact (Option.some.inj hc').symm
  have r1 := rest_c (some ⟨b, o, none⟩) n cap l (k + 1) w B h
  have r2 := rest_c (some ⟨b, o, none⟩) n cap l (k + 2) w B h
  have r3 := rest_c (some ⟨b, o, none⟩) n cap l (k + 3) w B h
  rw [show ((k + 1 : Nat) : Int) = (k : Int) + 1 by omega] at r1
  rw [show ((k + 2 : Nat) : Int) = (k : Int) + 2 by omega] at r2
  rw [show ((k + 3 : Nat) : Int) = (k : Int) + 3 by omega] at r3
  have b1 := restOf_lt l (k + 1)
  have b2 := restOf_lt l (k + 2)
  have b3 := restOf_lt l (k + 3)
  have hkn : (k : Int) < (n : Int) := by omega
  generalize restOf l (k + 1) = x at *
  generalize restOf l (k + 2) = y at *
  generalize restOf l (k + 3) = z at *
  have HD := Lib.hid hdec
  clear hdec h hc hc'
  generalize c'.toNat = cc at *
  have a0 : decide ((cc : Int) < 128) = false := by simp; omega
  have a1 : decide (192 ≤ (cc : Int)) = true := by simp; omega
  have a2 : decide ((cc : Int) < 224) = true := by simp; omega
  have a3 : decide (224 ≤ (cc : Int)) = false := by simp; omega
  have a4 : decide ((cc : Int) < 240) = true := by simp; omega
  have a5 : decide (240 ≤ (cc : Int)) = false := by simp; omega
  have a6 : decide ((cc : Int) < 248) = true := by simp; omega
  have px : decide (0 ≤ x) = true := by simp; omega
  have hR : ∃ Rn : Nat, (Rn : Int) = ((cc : Int) - 192) * 64 + x ∧ dec (l.drop k) = mk 128 2 Rn := ⟨_, by omega, HD.out⟩
  obtain ⟨Rn, hRn, hdec⟩ := hR
  have HR := Lib.hid hRn
  have hbd : 0 ≤ ((cc : Int) - 192) * 64 + x ∧ ((cc : Int) - 192) * 64 + x ≤ 2097151 := by omega
  cases his : isR (((cc : Int) - 192) * 64 + x) with
  | false =>
    have hI : ∀ w0 : World, Calls Tryz.prog 131 #[.int .i64 (((cc : Int) - 192) * 64 + x)] w0 fun e w' => e = .returned (.bool false) ∧ w0 = w' := fun w0 => by
      have := ref02Is_c (((cc : Int) - 192) * 64 + x) w0
      rwa [his] at this
    have HN : Hid (dec (l.drop k) = none) := Lib.hid (by rw [hdec]; unfold mk; rw [if_neg (fun hh => by rw [hRn, his] at hh; cases hh.2)])
    clear hRn hdec HD his hbd
    go_enter Tryz.func83, Tryz.ntmps83
    go_wp2_with fail
    refine r1.mono ?_
    rintro e w1 ⟨rfl, rfl⟩
    go_wp2_with fail
    refine r2.mono ?_
    rintro e w1 ⟨rfl, rfl⟩
    go_wp2_with fail
    refine r3.mono ?_
    rintro e w1 ⟨rfl, rfl⟩
    go_wp2_with fail
    refine (hI _).mono ?_
    rintro e w1 ⟨rfl, rfl⟩
    go_wp2
    go_ret2
    exact ⟨by rw [HN.out]; rfl, Below.refl _ _⟩
  | true =>
    have hI : ∀ w0 : World, Calls Tryz.prog 131 #[.int .i64 (((cc : Int) - 192) * 64 + x)] w0 fun e w' => e = .returned (.bool true) ∧ w0 = w' := fun w0 => by
      have := ref02Is_c (((cc : Int) - 192) * 64 + x) w0
      rwa [his] at this
    have hle : ((cc : Int) - 192) * 64 + x ≤ 1114111 := by rw [isR_iff] at his; omega
    have hB := fun w0 => bytes_c (((cc : Int) - 192) * 64 + x) w0 hbd.1 hle
    by_cases hls : 128 ≤ ((cc : Int) - 192) * 64 + x
    · rw [bytesN_eq (((cc : Int) - 192) * 64 + x) 2 (by omega)] at hB
      have HN : Hid (dec (l.drop k) = some (Rn, 2)) := Lib.hid (by rw [hdec]; unfold mk; rw [if_pos ⟨by omega, by rw [hRn]; exact his⟩])
      clear hRn hdec HD his hbd hle hls
      go_enter Tryz.func83, Tryz.ntmps83
      go_wp2_with fail
      refine r1.mono ?_
      rintro e w1 ⟨rfl, rfl⟩
      go_wp2_with fail
      refine r2.mono ?_
      rintro e w1 ⟨rfl, rfl⟩
      go_wp2_with fail
      refine r3.mono ?_
      rintro e w1 ⟨rfl, rfl⟩
      go_wp2_with fail
      refine (hI _).mono ?_
      rintro e w1 ⟨rfl, rfl⟩
      go_wp2_with fail
      refine (hB _).mono ?_
      rintro e w1 ⟨⟨a, rfl⟩, hb1⟩
      have HB := Lib.hid hb1
      clear hb1 hcell
      go_wp2
      go_ret2
      refine ⟨?_, HB.out⟩
      rw [HN.out]
      show _ = Ending.returned (.tuple #[.int .i64 (Rn : Int), .int .i64 ((2 : Nat) : Int)])
      rw [HR.out]
      rfl
    · have hlt := bytesN_lt (((cc : Int) - 192) * 64 + x) 2 (by omega)
      have HN : Hid (dec (l.drop k) = none) := Lib.hid (by rw [hdec]; unfold mk; rw [if_neg (fun hh => by have := hh.1; omega)])
      generalize bytesN (((cc : Int) - 192) * 64 + x) = bn at *
      have hbn : ((bn : Int) != 2) = true := by simp; omega
      clear hRn hdec HD his hbd hle hls hlt
      go_enter Tryz.func83, Tryz.ntmps83
      go_wp2_with fail
      refine r1.mono ?_
      rintro e w1 ⟨rfl, rfl⟩
      go_wp2_with fail
      refine r2.mono ?_
      rintro e w1 ⟨rfl, rfl⟩
      go_wp2_with fail
      refine r3.mono ?_
      rintro e w1 ⟨rfl, rfl⟩
      go_wp2_with fail
      refine (hI _).mono ?_
      rintro e w1 ⟨rfl, rfl⟩
      go_wp2_with fail
      refine (hB _).mono ?_
      rintro e w1 ⟨⟨a, rfl⟩, hb1⟩
      have HB := Lib.hid hb1
      clear hb1 hcell
      go_wp2
      go_ret2
      exact ⟨by rw [HN.out]; rfl, HB.out⟩
set_option maxRecDepth 100000 in
set_option maxHeartbeats 8000000 in
theorem refDec_d (A : Option Addr) (n cap : Nat) (l : List UInt8) (k : Nat) (w : World) (B : Nat) (h : Byt w B A n cap l) (hk : k < n) (hm : n ≤ 50000) (c : UInt8) (hc : l[k]? = some c) (hcl : 192 ≤ c.toNat ∧ c.toNat ≤ 223) (hx : restOf l (k + 1) < 0) :
    Calls Tryz.prog 83 #[.slice A n cap, .int .i64 k] w fun e w' => e = .returned (pairV (dec (l.drop k))) ∧ Below w.heap.size w w' := by
  have hdec : dec (l.drop k) = none := by rw [dec_2 l k c hc (by omega), if_neg (by omega)]
  obtain ⟨b, o, c', rfl, hb, hc', hcell⟩ := h.cell hk
  obtain rfl : c' = c := by rw [hc] at hc'; exact (Option.some.inj hc').symm
  have r1 := rest_c (some ⟨b, o, none⟩) n cap l (k + 1) w B h
  have r2 := rest_c (some ⟨b, o, none⟩) n cap l (k + 2) w B h
  have r3 := rest_c (some ⟨b, o, none⟩) n cap l (k + 3) w B h
  rw [show ((k + 1 : Nat) : Int) = (k : Int) + 1 by omega] at r1
  rw [show ((k + 2 : Nat) : Int) = (k : Int) + 2 by omega] at r2
  rw [show ((k + 3 : Nat) : Int) = (k : Int) + 3 by omega] at r3
  have b1 := restOf_lt l (k + 1)
  have b2 := restOf_lt l (k + 2)
  have b3 := restOf_lt l (k + 3)
  have hkn : (k : Int) < (n : Int) := by omega
  generalize restOf l (k + 1) = x at *
  generalize restOf l (k + 2) = y at *
  generalize restOf l (k + 3) = z at *
  have HD := Lib.hid hdec
  clear hdec h hc hc'
  generalize c'.toNat = cc at *
  have a0 : decide ((cc : Int) < 128) = false := by simp; omega
  have a1 : decide (192 ≤ (cc : Int)) = true := by simp; omega
  have a2 : decide ((cc : Int) < 224) = true := by simp; omega
  have a3 : decide (224 ≤ (cc : Int)) = false := by simp; omega
  have a4 : decide ((cc : Int) < 240) = true := by simp; omega
  have a5 : decide (240 ≤ (cc : Int)) = false := by simp; omega
  have a6 : decide ((cc : Int) < 248) = true := by simp; omega
  have px : decide (0 ≤ x) = false := by simp; omega
  go_enter Tryz.func83, Tryz.ntmps83
  go_wp2_with fail
  refine r1.mono ?_
  rintro e w1 ⟨rfl, rfl⟩
  go_wp2_with fail
  refine r2.mono ?_
  rintro e w1 ⟨rfl, rfl⟩
  go_wp2_with fail
  refine r3.mono ?_
  rintro e w1 ⟨rfl, rfl⟩
  go_wp2
  go_ret2
  exact ⟨by rw [HD.out]; rfl, Below.refl _ _⟩
set_option maxRecDepth 100000 in
set_option maxHeartbeats 8000000 in
theorem refDec_e (A : Option Addr) (n cap : Nat) (l : List UInt8) (k : Nat) (w : World) (B : Nat) (h : Byt w B A n cap l) (hk : k < n) (hm : n ≤ 50000) (c : UInt8) (hc : l[k]? = some c) (hcl : 224 ≤ c.toNat ∧ c.toNat ≤ 239) (hx : 0 ≤ restOf l (k + 1)) (hy : 0 ≤ restOf l (k + 2)) :
    Calls Tryz.prog 83 #[.slice A n cap, .int .i64 k] w fun e w' => e = .returned (pairV (dec (l.drop k))) ∧ Below w.heap.size w w' := by
  have hdec : dec (l.drop k) = mk 2048 3 (((c.toNat - 224) * 64 + (restOf l (k + 1)).toNat) * 64 + (restOf l (k + 2)).toNat) := by rw [dec_3 l k c hc (by omega), if_pos (by omega)]
  obtain ⟨b, o, c', rfl, hb, hc', hcell⟩ := h.cell hk
  obtain rfl : c' = c := by rw [hc] at hc'; exact (Option.some.inj hc').symm
  have r1 := rest_c (some ⟨b, o, none⟩) n cap l (k + 1) w B h
  have r2 := rest_c (some ⟨b, o, none⟩) n cap l (k + 2) w B h
  have r3 := rest_c (some ⟨b, o, none⟩) n cap l (k + 3) w B h
  rw [show ((k + 1 : Nat) : Int) = (k : Int) + 1 by omega] at r1
  rw [show ((k + 2 : Nat) : Int) = (k : Int) + 2 by omega] at r2
  rw [show ((k + 3 : Nat) : Int) = (k : Int) + 3 by omega] at r3
  have b1 := restOf_lt l (k + 1)
  have b2 := restOf_lt l (k + 2)
  have b3 := restOf_lt l (k + 3)
  have hkn : (k : Int) < (n : Int) := by omega
  generalize restOf l (k + 1) = x at *
  generalize restOf l (k + 2) = y at *
  generalize restOf l (k + 3) = z at *
  have HD := Lib.hid hdec
  clear hdec h hc hc'
  generalize c'.toNat = cc at *
  have a0 : decide ((cc : Int) < 128) = false := by simp; omega
  have a1 : decide (192 ≤ (cc : Int)) = true := by simp; omega
  have a2 : decide ((cc : Int) < 224) = false := by simp; omega
  have a3 : decide (224 ≤ (cc : Int)) = true := by simp; omega
  have a4 : decide ((cc : Int) < 240) = true := by simp; omega
  have a5 : decide (240 ≤ (cc : Int)) = false := by simp; omega
  have a6 : decide ((cc : Int) < 248) = true := by simp; omega
  have px : decide (0 ≤ x) = true := by simp; omega
  have py : decide (0 ≤ y) = true := by simp; omega
  have hR : ∃ Rn : Nat, (Rn : Int) = (((cc : Int) - 224) * 64 + x) * 64 + y ∧ dec (l.drop k) = mk 2048 3 Rn := ⟨_, by omega, HD.out⟩
  obtain ⟨Rn, hRn, hdec⟩ := hR
  have HR := Lib.hid hRn
  have hbd : 0 ≤ (((cc : Int) - 224) * 64 + x) * 64 + y ∧ (((cc : Int) - 224) * 64 + x) * 64 + y ≤ 2097151 := by omega
  cases his : isR ((((cc : Int) - 224) * 64 + x) * 64 + y) with
  | false =>
    have hI : ∀ w0 : World, Calls Tryz.prog 131 #[.int .i64 ((((cc : Int) - 224) * 64 + x) * 64 + y)] w0 fun e w' => e = .returned (.bool false) ∧ w0 = w' := fun w0 => by
      have := ref02Is_c ((((cc : Int) - 224) * 64 + x) * 64 + y) w0
      rwa [his] at this
    have HN : Hid (dec (l.drop k) = none) := Lib.hid (by rw [hdec]; unfold mk; rw [if_neg (fun hh => by rw [hRn, his] at hh; cases hh.2)])
    clear hRn hdec HD his hbd
    go_enter Tryz.func83, Tryz.ntmps83
    go_wp2_with fail
    refine r1.mono ?_
    rintro e w1 ⟨rfl, rfl⟩
    go_wp2_with fail
    refine r2.mono ?_
    rintro e w1 ⟨rfl, rfl⟩
    go_wp2_with fail
    refine r3.mono ?_
    rintro e w1 ⟨rfl, rfl⟩
    go_wp2_with fail
    refine (hI _).mono ?_
    rintro e w1 ⟨rfl, rfl⟩
    go_wp2
    go_ret2
    exact ⟨by rw [HN.out]; rfl, Below.refl _ _⟩
  | true =>
    have hI : ∀ w0 : World, Calls Tryz.prog 131 #[.int .i64 ((((cc : Int) - 224) * 64 + x) * 64 + y)] w0 fun e w' => e = .returned (.bool true) ∧ w0 = w' := fun w0 => by
      have := ref02Is_c ((((cc : Int) - 224) * 64 + x) * 64 + y) w0
      rwa [his] at this
    have hle : (((cc : Int) - 224) * 64 + x) * 64 + y ≤ 1114111 := by rw [isR_iff] at his; omega
    have hB := fun w0 => bytes_c ((((cc : Int) - 224) * 64 + x) * 64 + y) w0 hbd.1 hle
    by_cases hls : 2048 ≤ (((cc : Int) - 224) * 64 + x) * 64 + y
    · rw [bytesN_eq ((((cc : Int) - 224) * 64 + x) * 64 + y) 3 (by omega)] at hB
      have HN : Hid (dec (l.drop k) = some (Rn, 3)) := Lib.hid (by rw [hdec]; unfold mk; rw [if_pos ⟨by omega, by rw [hRn]; exact his⟩])
      clear hRn hdec HD his hbd hle hls
      go_enter Tryz.func83, Tryz.ntmps83
      go_wp2_with fail
      refine r1.mono ?_
      rintro e w1 ⟨rfl, rfl⟩
      go_wp2_with fail
      refine r2.mono ?_
      rintro e w1 ⟨rfl, rfl⟩
      go_wp2_with fail
      refine r3.mono ?_
      rintro e w1 ⟨rfl, rfl⟩
      go_wp2_with fail
      refine (hI _).mono ?_
      rintro e w1 ⟨rfl, rfl⟩
      go_wp2_with fail
      refine (hB _).mono ?_
      rintro e w1 ⟨⟨a, rfl⟩, hb1⟩
      have HB := Lib.hid hb1
      clear hb1 hcell
      go_wp2
      go_ret2
      refine ⟨?_, HB.out⟩
      rw [HN.out]
      show _ = Ending.returned (.tuple #[.int .i64 (Rn : Int), .int .i64 ((3 : Nat) : Int)])
      rw [HR.out]
      rfl
    · have hlt := bytesN_lt ((((cc : Int) - 224) * 64 + x) * 64 + y) 3 (by omega)
      have HN : Hid (dec (l.drop k) = none) := Lib.hid (by rw [hdec]; unfold mk; rw [if_neg (fun hh => by have := hh.1; omega)])
      generalize bytesN ((((cc : Int) - 224) * 64 + x) * 64 + y) = bn at *
      have hbn : ((bn : Int) != 3) = true := by simp; omega
      clear hRn hdec HD his hbd hle hls hlt
      go_enter Tryz.func83, Tryz.ntmps83
      go_wp2_with fail
      refine r1.mono ?_
      rintro e w1 ⟨rfl, rfl⟩
      go_wp2_with fail
      refine r2.mono ?_
      rintro e w1 ⟨rfl, rfl⟩
      go_wp2_with fail
      refine r3.mono ?_
      rintro e w1 ⟨rfl, rfl⟩
      go_wp2_with fail
      refine (hI _).mono ?_
      rintro e w1 ⟨rfl, rfl⟩
      go_wp2_with fail
      refine (hB _).mono ?_
      rintro e w1 ⟨⟨a, rfl⟩, hb1⟩
      have HB := Lib.hid hb1
      clear hb1 hcell
      go_wp2
      go_ret2
      exact ⟨by rw [HN.out]; rfl, HB.out⟩
set_option maxRecDepth 100000 in
set_option maxHeartbeats 8000000 in
theorem refDec_f (A : Option Addr) (n cap : Nat) (l : List UInt8) (k : Nat) (w : World) (B : Nat) (h : Byt w B A n cap l) (hk : k < n) (hm : n ≤ 50000) (c : UInt8) (hc : l[k]? = some c) (hcl : 224 ≤ c.toNat ∧ c.toNat ≤ 239) (hx : restOf l (k + 1) < 0) :
    Calls Tryz.prog 83 #[.slice A n cap, .int .i64 k] w fun e w' => e = .returned (pairV (dec (l.drop k))) ∧ Below w.heap.size w w' := by
  have hdec : dec (l.drop k) = none := by rw [dec_3 l k c hc (by omega), if_neg (by omega)]
  obtain ⟨b, o, c', rfl, hb, hc', hcell⟩ := h.cell hk
  obtain rfl : c' = c := by rw [hc] at hc'; exact (Option.some.inj hc').symm
  have r1 := rest_c (some ⟨b, o, none⟩) n cap l (k + 1) w B h
  have r2 := rest_c (some ⟨b, o, none⟩) n cap l (k + 2) w B h
  have r3 := rest_c (some ⟨b, o, none⟩) n cap l (k + 3) w B h
  rw [show ((k + 1 : Nat) : Int) = (k : Int) + 1 by omega] at r1
  rw [show ((k + 2 : Nat) : Int) = (k : Int) + 2 by omega] at r2
  rw [show ((k + 3 : Nat) : Int) = (k : Int) + 3 by omega] at r3
  have b1 := restOf_lt l (k + 1)
  have b2 := restOf_lt l (k + 2)
  have b3 := restOf_lt l (k + 3)
  have hkn : (k : Int) < (n : Int) := by omega
  generalize restOf l (k + 1) = x at *
  generalize restOf l (k + 2) = y at *
  generalize restOf l (k + 3) = z at *
  have HD := Lib.hid hdec
  clear hdec h hc hc'
  generalize c'.toNat = cc at *
  have a0 : decide ((cc : Int) < 128) = false := by simp; omega
  have a1 : decide (192 ≤ (cc : Int)) = true := by simp; omega
  have a2 : decide ((cc : Int) < 224) = false := by simp; omega
  have a3 : decide (224 ≤ (cc : Int)) = true := by simp; omega
  have a4 : decide ((cc : Int) < 240) = true := by simp; omega
  have a5 : decide (240 ≤ (cc : Int)) = false := by simp; omega
  have a6 : decide ((cc : Int) < 248) = true := by simp; omega
  have px : decide (0 ≤ x) = false := by simp; omega
  go_enter Tryz.func83, Tryz.ntmps83
  go_wp2_with fail
  refine r1.mono ?_
  rintro e w1 ⟨rfl, rfl⟩
  go_wp2_with fail
  refine r2.mono ?_
  rintro e w1 ⟨rfl, rfl⟩
  go_wp2_with fail
  refine r3.mono ?_
  rintro e w1 ⟨rfl, rfl⟩
  go_wp2
  go_ret2
  exact ⟨by rw [HD.out]; rfl, Below.refl _ _⟩
set_option maxRecDepth 100000 in
set_option maxHeartbeats 8000000 in
theorem refDec_g (A : Option Addr) (n cap : Nat) (l : List UInt8) (k : Nat) (w : World) (B : Nat) (h : Byt w B A n cap l) (hk : k < n) (hm : n ≤ 50000) (c : UInt8) (hc : l[k]? = some c) (hcl : 224 ≤ c.toNat ∧ c.toNat ≤ 239) (hx : 0 ≤ restOf l (k + 1)) (hy : restOf l (k + 2) < 0) :
    Calls Tryz.prog 83 #[.slice A n cap, .int .i64 k] w fun e w' => e = .returned (pairV (dec (l.drop k))) ∧ Below w.heap.size w w' := by
  have hdec : dec (l.drop k) = none := by rw [dec_3 l k c hc (by omega), if_neg (by omega)]
  obtain ⟨b, o, c', rfl, hb, hc', hcell⟩ := h.cell hk
  obtain rfl : c' = c := by rw [hc] at hc'; exact (Option.some.inj hc').symm
  have r1 := rest_c (some ⟨b, o, none⟩) n cap l (k + 1) w B h
  have r2 := rest_c (some ⟨b, o, none⟩) n cap l (k + 2) w B h
  have r3 := rest_c (some ⟨b, o, none⟩) n cap l (k + 3) w B h
  rw [show ((k + 1 : Nat) : Int) = (k : Int) + 1 by omega] at r1
  rw [show ((k + 2 : Nat) : Int) = (k : Int) + 2 by omega] at r2
  rw [show ((k + 3 : Nat) : Int) = (k : Int) + 3 by omega] at r3
  have b1 := restOf_lt l (k + 1)
  have b2 := restOf_lt l (k + 2)
  have b3 := restOf_lt l (k + 3)
  have hkn : (k : Int) < (n : Int) := by omega
  generalize restOf l (k + 1) = x at *
  generalize restOf l (k + 2) = y at *
  generalize restOf l (k + 3) = z at *
  have HD := Lib.hid hdec
  clear hdec h hc hc'
  generalize c'.toNat = cc at *
  have a0 : decide ((cc : Int) < 128) = false := by simp; omega
  have a1 : decide (192 ≤ (cc : Int)) = true := by simp; omega
  have a2 : decide ((cc : Int) < 224) = false := by simp; omega
  have a3 : decide (224 ≤ (cc : Int)) = true := by simp; omega
  have a4 : decide ((cc : Int) < 240) = true := by simp; omega
  have a5 : decide (240 ≤ (cc : Int)) = false := by simp; omega
  have a6 : decide ((cc : Int) < 248) = true := by simp; omega
  have px : decide (0 ≤ x) = true := by simp; omega
  have py : decide (0 ≤ y) = false := by simp; omega
  go_enter Tryz.func83, Tryz.ntmps83
  go_wp2_with fail
  refine r1.mono ?_
  rintro e w1 ⟨rfl, rfl⟩
  go_wp2_with fail
  refine r2.mono ?_
  rintro e w1 ⟨rfl, rfl⟩
  go_wp2_with fail
  refine r3.mono ?_
  rintro e w1 ⟨rfl, rfl⟩
  go_wp2
  go_ret2
  exact ⟨by rw [HD.out]; rfl, Below.refl _ _⟩
set_option maxRecDepth 100000 in
set_option maxHeartbeats 8000000 in
theorem refDec_h (A : Option Addr) (n cap : Nat) (l : List UInt8) (k : Nat) (w : World) (B : Nat) (h : Byt w B A n cap l) (hk : k < n) (hm : n ≤ 50000) (c : UInt8) (hc : l[k]? = some c) (hcl : 240 ≤ c.toNat ∧ c.toNat ≤ 247) (hx : 0 ≤ restOf l (k + 1)) (hy : 0 ≤ restOf l (k + 2)) (hz : 0 ≤ restOf l (k + 3)) :
    Calls Tryz.prog 83 #[.slice A n cap, .int .i64 k] w fun e w' => e = .returned (pairV (dec (l.drop k))) ∧ Below w.heap.size w w' := by
  have hdec : dec (l.drop k) = mk 65536 4 ((((c.toNat - 240) * 64 + (restOf l (k + 1)).toNat) * 64 + (restOf l (k + 2)).toNat) * 64 + (restOf l (k + 3)).toNat) := by rw [dec_4 l k c hc (by omega), if_pos (by omega)]
  obtain ⟨b, o, c', rfl, hb, hc', hcell⟩ := h.cell hk
  obtain rfl : c' = c := by rw [hc] at hc'; exact (Option.some.inj hc').symm
  have r1 := rest_c (some ⟨b, o, none⟩) n cap l (k + 1) w B h
  have r2 := rest_c (some ⟨b, o, none⟩) n cap l (k + 2) w B h
  have r3 := rest_c (some ⟨b, o, none⟩) n cap l (k + 3) w B h
  rw [show ((k + 1 : Nat) : Int) = (k : Int) + 1 by omega] at r1
  rw [show ((k + 2 : Nat) : Int) = (k : Int) + 2 by omega] at r2
  rw [show ((k + 3 : Nat) : Int) = (k : Int) + 3 by omega] at r3
  have b1 := restOf_lt l (k + 1)
  have b2 := restOf_lt l (k + 2)
  have b3 := restOf_lt l (k + 3)
  have hkn : (k : Int) < (n : Int) := by omega
  generalize restOf l (k + 1) = x at *
  generalize restOf l (k + 2) = y at *
  generalize restOf l (k + 3) = z at *
  have HD := Lib.hid hdec
  clear hdec h hc hc'
  generalize c'.toNat = cc at *
  have a0 : decide ((cc : Int) < 128) = false := by simp; omega
  have a1 : decide (192 ≤ (cc : Int)) = true := by simp; omega
  have a2 : decide ((cc : Int) < 224) = false := by simp; omega
  have a3 : decide (224 ≤ (cc : Int)) = true := by simp; omega
  have a4 : decide ((cc : Int) < 240) = false := by simp; omega
  have a5 : decide (240 ≤ (cc : Int)) = true := by simp; omega
  have a6 : decide ((cc : Int) < 248) = true := by simp; omega
  have px : decide (0 ≤ x) = true := by simp; omega
  have py : decide (0 ≤ y) = true := by simp; omega
  have pz : decide (0 ≤ z) = true := by simp; omega
  have hR : ∃ Rn : Nat, (Rn : Int) = ((((cc : Int) - 240) * 64 + x) * 64 + y) * 64 + z ∧ dec (l.drop k) = mk 65536 4 Rn := ⟨_, by omega, HD.out⟩
  obtain ⟨Rn, hRn, hdec⟩ := hR
  have HR := Lib.hid hRn
  have hbd : 0 ≤ ((((cc : Int) - 240) * 64 + x) * 64 + y) * 64 + z ∧ ((((cc : Int) - 240) * 64 + x) * 64 + y) * 64 + z ≤ 2097151 := by omega
  cases his : isR (((((cc : Int) - 240) * 64 + x) * 64 + y) * 64 + z) with
  | false =>
    have hI : ∀ w0 : World, Calls Tryz.prog 131 #[.int .i64 (((((cc : Int) - 240) * 64 + x) * 64 + y) * 64 + z)] w0 fun e w' => e = .returned (.bool false) ∧ w0 = w' := fun w0 => by
      have := ref02Is_c (((((cc : Int) - 240) * 64 + x) * 64 + y) * 64 + z) w0
      rwa [his] at this
    have HN : Hid (dec (l.drop k) = none) := Lib.hid (by rw [hdec]; unfold mk; rw [if_neg (fun hh => by rw [hRn, his] at hh; cases hh.2)])
    clear hRn hdec HD his hbd
    go_enter Tryz.func83, Tryz.ntmps83
    go_wp2_with fail
    refine r1.mono ?_
    rintro e w1 ⟨rfl, rfl⟩
    go_wp2_with fail
    refine r2.mono ?_
    rintro e w1 ⟨rfl, rfl⟩
    go_wp2_with fail
    refine r3.mono ?_
    rintro e w1 ⟨rfl, rfl⟩
    go_wp2_with fail
    refine (hI _).mono ?_
    rintro e w1 ⟨rfl, rfl⟩
    go_wp2
    go_ret2
    exact ⟨by rw [HN.out]; rfl, Below.refl _ _⟩
  | true =>
    have hI : ∀ w0 : World, Calls Tryz.prog 131 #[.int .i64 (((((cc : Int) - 240) * 64 + x) * 64 + y) * 64 + z)] w0 fun e w' => e = .returned (.bool true) ∧ w0 = w' := fun w0 => by
      have := ref02Is_c (((((cc : Int) - 240) * 64 + x) * 64 + y) * 64 + z) w0
      rwa [his] at this
    have hle : ((((cc : Int) - 240) * 64 + x) * 64 + y) * 64 + z ≤ 1114111 := by rw [isR_iff] at his; omega
    have hB := fun w0 => bytes_c (((((cc : Int) - 240) * 64 + x) * 64 + y) * 64 + z) w0 hbd.1 hle
    by_cases hls : 65536 ≤ ((((cc : Int) - 240) * 64 + x) * 64 + y) * 64 + z
    · rw [bytesN_eq (((((cc : Int) - 240) * 64 + x) * 64 + y) * 64 + z) 4 (by omega)] at hB
      have HN : Hid (dec (l.drop k) = some (Rn, 4)) := Lib.hid (by rw [hdec]; unfold mk; rw [if_pos ⟨by omega, by rw [hRn]; exact his⟩])
      clear hRn hdec HD his hbd hle hls
      go_enter Tryz.func83, Tryz.ntmps83
      go_wp2_with fail
      refine r1.mono ?_
      rintro e w1 ⟨rfl, rfl⟩
      go_wp2_with fail
      refine r2.mono ?_
      rintro e w1 ⟨rfl, rfl⟩
      go_wp2_with fail
      refine r3.mono ?_
      rintro e w1 ⟨rfl, rfl⟩
      go_wp2_with fail
      refine (hI _).mono ?_
      rintro e w1 ⟨rfl, rfl⟩
      go_wp2_with fail
      refine (hB _).mono ?_
      rintro e w1 ⟨⟨a, rfl⟩, hb1⟩
      have HB := Lib.hid hb1
      clear hb1 hcell
      go_wp2
      go_ret2
      refine ⟨?_, HB.out⟩
      rw [HN.out]
      show _ = Ending.returned (.tuple #[.int .i64 (Rn : Int), .int .i64 ((4 : Nat) : Int)])
      rw [HR.out]
      rfl
    · have hlt := bytesN_lt (((((cc : Int) - 240) * 64 + x) * 64 + y) * 64 + z) 4 (by omega)
      have HN : Hid (dec (l.drop k) = none) := Lib.hid (by rw [hdec]; unfold mk; rw [if_neg (fun hh => by have := hh.1; omega)])
      generalize bytesN (((((cc : Int) - 240) * 64 + x) * 64 + y) * 64 + z) = bn at *
      have hbn : ((bn : Int) != 4) = true := by simp; omega
      clear hRn hdec HD his hbd hle hls hlt
      go_enter Tryz.func83, Tryz.ntmps83
      go_wp2_with fail
      refine r1.mono ?_
      rintro e w1 ⟨rfl, rfl⟩
      go_wp2_with fail
      refine r2.mono ?_
      rintro e w1 ⟨rfl, rfl⟩
      go_wp2_with fail
      refine r3.mono ?_
      rintro e w1 ⟨rfl, rfl⟩
      go_wp2_with fail
      refine (hI _).mono ?_
      rintro e w1 ⟨rfl, rfl⟩
      go_wp2_with fail
      refine (hB _).mono ?_
      rintro e w1 ⟨⟨a, rfl⟩, hb1⟩
      have HB := Lib.hid hb1
      clear hb1 hcell
      go_wp2
      go_ret2
      exact ⟨by rw [HN.out]; rfl, HB.out⟩
set_option maxRecDepth 100000 in
set_option maxHeartbeats 8000000 in
theorem refDec_i (A : Option Addr) (n cap : Nat) (l : List UInt8) (k : Nat) (w : World) (B : Nat) (h : Byt w B A n cap l) (hk : k < n) (hm : n ≤ 50000) (c : UInt8) (hc : l[k]? = some c) (hcl : 240 ≤ c.toNat ∧ c.toNat ≤ 247) (hx : restOf l (k + 1) < 0) :
    Calls Tryz.prog 83 #[.slice A n cap, .int .i64 k] w fun e w' => e = .returned (pairV (dec (l.drop k))) ∧ Below w.heap.size w w' := by
  have hdec : dec (l.drop k) = none := by rw [dec_4 l k c hc (by omega), if_neg (by omega)]
  obtain ⟨b, o, c', rfl, hb, hc', hcell⟩ := h.cell hk
  obtain rfl : c' = c := by rw [hc] at hc'; exact (Option.some.inj hc').symm
  have r1 := rest_c (some ⟨b, o, none⟩) n cap l (k + 1) w B h
  have r2 := rest_c (some ⟨b, o, none⟩) n cap l (k + 2) w B h
  have r3 := rest_c (some ⟨b, o, none⟩) n cap l (k + 3) w B h
  rw [show ((k + 1 : Nat) : Int) = (k : Int) + 1 by omega] at r1
  rw [show ((k + 2 : Nat) : Int) = (k : Int) + 2 by omega] at r2
  rw [show ((k + 3 : Nat) : Int) = (k : Int) + 3 by omega] at r3
  have b1 := restOf_lt l (k + 1)
  have b2 := restOf_lt l (k + 2)
  have b3 := restOf_lt l (k + 3)
  have hkn : (k : Int) < (n : Int) := by omega
  generalize restOf l (k + 1) = x at *
  generalize restOf l (k + 2) = y at *
  generalize restOf l (k + 3) = z at *
  have HD := Lib.hid hdec
  clear hdec h hc hc'
  generalize c'.toNat = cc at *
  have a0 : decide ((cc : Int) < 128) = false := by simp; omega
  have a1 : decide (192 ≤ (cc : Int)) = true := by simp; omega
  have a2 : decide ((cc : Int) < 224) = false := by simp; omega
  have a3 : decide (224 ≤ (cc : Int)) = true := by simp; omega
  have a4 : decide ((cc : Int) < 240) = false := by simp; omega
  have a5 : decide (240 ≤ (cc : Int)) = true := by simp; omega
  have a6 : decide ((cc : Int) < 248) = true := by simp; omega
  have px : decide (0 ≤ x) = false := by simp; omega
  go_enter Tryz.func83, Tryz.ntmps83
  go_wp2_with fail
  refine r1.mono ?_
  rintro e w1 ⟨rfl, rfl⟩
  go_wp2_with fail
  refine r2.mono ?_
  rintro e w1 ⟨rfl, rfl⟩
  go_wp2_with fail
  refine r3.mono ?_
  rintro e w1 ⟨rfl, rfl⟩
  go_wp2
  go_ret2
  exact ⟨by rw [HD.out]; rfl, Below.refl _ _⟩
set_option maxRecDepth 100000 in
set_option maxHeartbeats 8000000 in
theorem refDec_j (A : Option Addr) (n cap : Nat) (l : List UInt8) (k : Nat) (w : World) (B : Nat) (h : Byt w B A n cap l) (hk : k < n) (hm : n ≤ 50000) (c : UInt8) (hc : l[k]? = some c) (hcl : 240 ≤ c.toNat ∧ c.toNat ≤ 247) (hx : 0 ≤ restOf l (k + 1)) (hy : restOf l (k + 2) < 0) :
    Calls Tryz.prog 83 #[.slice A n cap, .int .i64 k] w fun e w' => e = .returned (pairV (dec (l.drop k))) ∧ Below w.heap.size w w' := by
  have hdec : dec (l.drop k) = none := by rw [dec_4 l k c hc (by omega), if_neg (by omega)]
  obtain ⟨b, o, c', rfl, hb, hc', hcell⟩ := h.cell hk
  obtain rfl : c' = c := by rw [hc] at hc'; exact (Option.some.inj hc').symm
  have r1 := rest_c (some ⟨b, o, none⟩) n cap l (k + 1) w B h
  have r2 := rest_c (some ⟨b, o, none⟩) n cap l (k + 2) w B h
  have r3 := rest_c (some ⟨b, o, none⟩) n cap l (k + 3) w B h
  rw [show ((k + 1 : Nat) : Int) = (k : Int) + 1 by omega] at r1
  rw [show ((k + 2 : Nat) : Int) = (k : Int) + 2 by omega] at r2
  rw [show ((k + 3 : Nat) : Int) = (k : Int) + 3 by omega] at r3
  have b1 := restOf_lt l (k + 1)
  have b2 := restOf_lt l (k + 2)
  have b3 := restOf_lt l (k + 3)
  have hkn : (k : Int) < (n : Int) := by omega
  generalize restOf l (k + 1) = x at *
  generalize restOf l (k + 2) = y at *
  generalize restOf l (k + 3) = z at *
  have HD := Lib.hid hdec
  clear hdec h hc hc'
  generalize c'.toNat = cc at *
  have a0 : decide ((cc : Int) < 128) = false := by simp; omega
  have a1 : decide (192 ≤ (cc : Int)) = true := by simp; omega
  have a2 : decide ((cc : Int) < 224) = false := by simp; omega
  have a3 : decide (224 ≤ (cc : Int)) = true := by simp; omega
  have a4 : decide ((cc : Int) < 240) = false := by simp; omega
  have a5 : decide (240 ≤ (cc : Int)) = true := by simp; omega
  have a6 : decide ((cc : Int) < 248) = true := by simp; omega
  have px : decide (0 ≤ x) = true := by simp; omega
  have py : decide (0 ≤ y) = false := by simp; omega
  go_enter Tryz.func83, Tryz.ntmps83
  go_wp2_with fail
  refine r1.mono ?_
  rintro e w1 ⟨rfl, rfl⟩
  go_wp2_with fail
  refine r2.mono ?_
  rintro e w1 ⟨rfl, rfl⟩
  go_wp2_with fail
  refine r3.mono ?_
  rintro e w1 ⟨rfl, rfl⟩
  go_wp2
  go_ret2
  exact ⟨by rw [HD.out]; rfl, Below.refl _ _⟩
set_option maxRecDepth 100000 in
set_option maxHeartbeats 8000000 in
theorem refDec_k (A : Option Addr) (n cap : Nat) (l : List UInt8) (k : Nat) (w : World) (B : Nat) (h : Byt w B A n cap l) (hk : k < n) (hm : n ≤ 50000) (c : UInt8) (hc : l[k]? = some c) (hcl : 240 ≤ c.toNat ∧ c.toNat ≤ 247) (hx : 0 ≤ restOf l (k + 1)) (hy : 0 ≤ restOf l (k + 2)) (hz : restOf l (k + 3) < 0) :
    Calls Tryz.prog 83 #[.slice A n cap, .int .i64 k] w fun e w' => e = .returned (pairV (dec (l.drop k))) ∧ Below w.heap.size w w' := by
  have hdec : dec (l.drop k) = none := by rw [dec_4 l k c hc (by omega), if_neg (by omega)]
  obtain ⟨b, o, c', rfl, hb, hc', hcell⟩ := h.cell hk
  obtain rfl : c' = c := by rw [hc] at hc'; exact (Option.some.inj hc').symm
  have r1 := rest_c (some ⟨b, o, none⟩) n cap l (k + 1) w B h
  have r2 := rest_c (some ⟨b, o, none⟩) n cap l (k + 2) w B h
  have r3 := rest_c (some ⟨b, o, none⟩) n cap l (k + 3) w B h
  rw [show ((k + 1 : Nat) : Int) = (k : Int) + 1 by omega] at r1
  rw [show ((k + 2 : Nat) : Int) = (k : Int) + 2 by omega] at r2
  rw [show ((k + 3 : Nat) : Int) = (k : Int) + 3 by omega] at r3
  have b1 := restOf_lt l (k + 1)
  have b2 := restOf_lt l (k + 2)
  have b3 := restOf_lt l (k + 3)
  have hkn : (k : Int) < (n : Int) := by omega
  generalize restOf l (k + 1) = x at *
  generalize restOf l (k + 2) = y at *
  generalize restOf l (k + 3) = z at *
  have HD := Lib.hid hdec
  clear hdec h hc hc'
  generalize c'.toNat = cc at *
  have a0 : decide ((cc : Int) < 128) = false := by simp; omega
  have a1 : decide (192 ≤ (cc : Int)) = true := by simp; omega
  have a2 : decide ((cc : Int) < 224) = false := by simp; omega
  have a3 : decide (224 ≤ (cc : Int)) = true := by simp; omega
  have a4 : decide ((cc : Int) < 240) = false := by simp; omega
  have a5 : decide (240 ≤ (cc : Int)) = true := by simp; omega
  have a6 : decide ((cc : Int) < 248) = true := by simp; omega
  have px : decide (0 ≤ x) = true := by simp; omega
  have py : decide (0 ≤ y) = true := by simp; omega
  have pz : decide (0 ≤ z) = false := by simp; omega
  go_enter Tryz.func83, Tryz.ntmps83
  go_wp2_with fail
  refine r1.mono ?_
  rintro e w1 ⟨rfl, rfl⟩
  go_wp2_with fail
  refine r2.mono ?_
  rintro e w1 ⟨rfl, rfl⟩
  go_wp2_with fail
  refine r3.mono ?_
  rintro e w1 ⟨rfl, rfl⟩
  go_wp2
  go_ret2
  exact ⟨by rw [HD.out]; rfl, Below.refl _ _⟩
set_option maxRecDepth 100000 in
set_option maxHeartbeats 8000000 in
theorem refDec_m (A : Option Addr) (n cap : Nat) (l : List UInt8) (k : Nat) (w : World) (B : Nat) (h : Byt w B A n cap l) (hk : k < n) (hm : n ≤ 50000) (c : UInt8) (hc : l[k]? = some c) (hcl : 248 ≤ c.toNat ∧ c.toNat ≤ 255) :
    Calls Tryz.prog 83 #[.slice A n cap, .int .i64 k] w fun e w' => e = .returned (pairV (dec (l.drop k))) ∧ Below w.heap.size w w' := by
  have hdec : dec (l.drop k) = none := dec_0 l k c hc (by omega)
  obtain ⟨b, o, c', rfl, hb, hc', hcell⟩ := h.cell hk
  obtain rfl : c' = c := by rw [hc] at hc'; exact (Option.some.inj hc').symm
  have r1 := rest_c (some ⟨b, o, none⟩) n cap l (k + 1) w B h
  have r2 := rest_c (some ⟨b, o, none⟩) n cap l (k + 2) w B h
  have r3 := rest_c (some ⟨b, o, none⟩) n cap l (k + 3) w B h
  rw [show ((k + 1 : Nat) : Int) = (k : Int) + 1 by omega] at r1
  rw [show ((k + 2 : Nat) : Int) = (k : Int) + 2 by omega] at r2
  rw [show ((k + 3 : Nat) : Int) = (k : Int) + 3 by omega] at r3
  have b1 := restOf_lt l (k + 1)
  have b2 := restOf_lt l (k + 2)
  have b3 := restOf_lt l (k + 3)
  have hkn : (k : Int) < (n : Int) := by omega
  generalize restOf l (k + 1) = x at *
  generalize restOf l (k + 2) = y at *
  generalize restOf l (k + 3) = z at *
  have HD := Lib.hid hdec
  clear hdec h hc hc'
  generalize c'.toNat = cc at *
  have a0 : decide ((cc : Int) < 128) = false := by simp; omega
  have a1 : decide (192 ≤ (cc : Int)) = true := by simp; omega
  have a2 : decide ((cc : Int) < 224) = false := by simp; omega
  have a3 : decide (224 ≤ (cc : Int)) = true := by simp; omega
  have a4 : decide ((cc : Int) < 240) = false := by simp; omega
  have a5 : decide (240 ≤ (cc : Int)) = true := by simp; omega
  have a6 : decide ((cc : Int) < 248) = false := by simp; omega
  go_enter Tryz.func83, Tryz.ntmps83
  go_wp2_with fail
  refine r1.mono ?_
  rintro e w1 ⟨rfl, rfl⟩
  go_wp2_with fail
  refine r2.mono ?_
  rintro e w1 ⟨rfl, rfl⟩
  go_wp2_with fail
  refine r3.mono ?_
  rintro e w1 ⟨rfl, rfl⟩
  go_wp2
  go_ret2
  exact ⟨by rw [HD.out]; rfl, Below.refl _ _⟩
theorem refDec_c (A : Option Addr) (n cap : Nat) (l : List UInt8) (k : Nat) (w : World) (B : Nat) (h : Byt w B A n cap l) (hk : k < n) (hm : n ≤ 50000) :
    Calls Tryz.prog 83 #[.slice A n cap, .int .i64 k] w fun e w' => e = .returned (pairV (dec (l.drop k))) ∧ Below w.heap.size w w' := by
  have hlen := h.length
  obtain ⟨c, hc⟩ : ∃ c, l[k]? = some c := ⟨_, List.getElem?_eq_getElem (by omega)⟩
  have hcl := c.toNat_lt
  rcases (show c.toNat ≤ 127 ∨ (128 ≤ c.toNat ∧ c.toNat ≤ 191) ∨ (192 ≤ c.toNat ∧ c.toNat ≤ 223) ∨ (224 ≤ c.toNat ∧ c.toNat ≤ 239) ∨ (240 ≤ c.toNat ∧ c.toNat ≤ 247) ∨ 248 ≤ c.toNat by omega) with g | g | g | g | g | g
  · exact refDec_a A n cap l k w B h hk hm c hc (by omega)
  · exact refDec_b A n cap l k w B h hk hm c hc (by omega)
  · by_cases hx : 0 ≤ restOf l (k + 1)
    · exact refDec_cc A n cap l k w B h hk hm c hc (by omega) hx
    · exact refDec_d A n cap l k w B h hk hm c hc (by omega) (by omega)
  · by_cases hx : 0 ≤ restOf l (k + 1)
    · by_cases hy : 0 ≤ restOf l (k + 2)
      · exact refDec_e A n cap l k w B h hk hm c hc (by omega) hx hy
      · exact refDec_g A n cap l k w B h hk hm c hc (by omega) hx (by omega)
    · exact refDec_f A n cap l k w B h hk hm c hc (by omega) (by omega)
  · by_cases hx : 0 ≤ restOf l (k + 1)
    · by_cases hy : 0 ≤ restOf l (k + 2)
      · by_cases hz : 0 ≤ restOf l (k + 3)
        · exact refDec_h A n cap l k w B h hk hm c hc (by omega) hx hy hz
        · exact refDec_k A n cap l k w B h hk hm c hc (by omega) hx hy (by omega)
      · exact refDec_j A n cap l k w B h hk hm c hc (by omega) hx (by omega)
    · exact refDec_i A n cap l k w B h hk hm c hc (by omega) (by omega)
  · exact refDec_m A n cap l k w B h hk hm c hc (by omega)
end Go.Proofs.YtgenpgfhjhcahaaGreatDoor
