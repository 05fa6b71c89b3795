/- Texts of ours, joined: Ref5, Ref7, Ref8, Ref9, Cref2, Dig, Num. -/
import Derived.Test.YtmclngahdklfkaaGreatDoorRows
import Derived.WalkKit
import Derived.ProofKit
import Derived.OpenShut
import Derived.ShutString
import Derived.ChangeOld
import Derived.Below
import Derived.BigQuiet
import Derived.Deep.QuietTactic
import Derived.Lib.Hide
import Derived.Deep.RegionHeld3
import Derived.Lib.SlBytesConst
import Derived.Laws.CopyOwn
import Derived.Laws.CopyRow
import Derived.Lib.Bytes
import Derived.Deep.LoopGhost
import Derived.Deep.DeepFit
import Derived.Deep.DeepMust
import Derived.WalkSpells
import Derived.WalkLawsBesides
import Derived.Laws.EntriesVeiled
import Derived.Laws.Rows
import Derived.Test.YtmclngahdklfkaaGreatDoorQ1
import Derived.Test.YtmclngahdklfkaaGreatDoorQ2
import Derived.Test.YtmclngahdklfkaaGreatDoorQ3
import Derived.Test.YtmclngahdklfkaaGreatDoorQ5
import Derived.Test.YtmclngahdklfkaaGreatDoorQ4
/- The document's character at a place: the walk. -/
namespace Go.Proofs.YtmclngahdklfkaaGreatDoor
open Go.ChangeShapes Go.WideShapes Go.ChangeAt Go.RowKit
set_option linter.unusedVariables false
def pairV : Option (Nat × Nat) → Value
  | some (r, n) => .tuple #[.int .i64 r, .int .i64 n]
  | none => .tuple #[.int .i64 0, .int .i64 0]
theorem bytesN_eq (r : Int) (N : Nat) (h : (N = 1 ∧ r < 128) ∨ (N = 2 ∧ 128 ≤ r ∧ r < 2048) ∨ (N = 3 ∧ 2048 ≤ r ∧ r < 65536) ∨ (N = 4 ∧ 65536 ≤ r)) : bytesN r = N := by
  unfold bytesN
  rcases h with ⟨rfl, h⟩ | ⟨rfl, h⟩ | ⟨rfl, h⟩ | ⟨rfl, h⟩
  · rw [if_pos h]
  · rw [if_neg (by omega), if_pos (by omega)]
  · rw [if_neg (by omega), if_neg (by omega), if_pos (by omega)]
  · rw [if_neg (by omega), if_neg (by omega), if_neg (by omega)]
theorem bytesN_lt (r : Int) (N : Nat) (h : (N = 2 ∧ r < 128) ∨ (N = 3 ∧ r < 2048) ∨ (N = 4 ∧ r < 65536)) : bytesN r < N := by
  have e : bytesN r ≤ 4 ∧ (r < 128 → bytesN r ≤ 1) ∧ (r < 2048 → bytesN r ≤ 2) ∧ (r < 65536 → bytesN r ≤ 3) := by
    unfold bytesN
    by_cases h1 : r < 128
    · simp [h1]
    · by_cases h2 : r < 2048
      · simp [h1, h2]
      · by_cases h3 : r < 65536
        · simp [h1, h2, h3]
        · simp [h1, h2, h3]
  omega
set_option maxRecDepth 100000 in
set_option maxHeartbeats 8000000 in
theorem refDec_a (A : Option Addr) (n cap : Nat) (l : List UInt8) (k : Nat) (w : World) (B : Nat) (h : Byt w B A n cap l) (hk : k < n) (hm : n ≤ 50000) (c : UInt8) (hc : l[k]? = some c) (hcl : 0 ≤ c.toNat ∧ c.toNat ≤ 127) :
    Calls Tryz.prog 123 #[.slice A n cap, .int .i64 k] w fun e w' => e = .returned (pairV (dec (l.drop k))) ∧ Below w.heap.size w w' := by
  have hdec : dec (l.drop k) = some (c.toNat, 1) := dec_1 l k c hc (by omega)
  obtain ⟨b, o, c', rfl, hb, hc', hcell⟩ := h.cell hk
  obtain rfl : c' = c := by rw [hc] at hc'; exact (Option.some.inj hc').symm
  have r1 := rest_c (some ⟨b, o, none⟩) n cap l (k + 1) w B h
  have r2 := rest_c (some ⟨b, o, none⟩) n cap l (k + 2) w B h
  have r3 := rest_c (some ⟨b, o, none⟩) n cap l (k + 3) w B h
  rw [show ((k + 1 : Nat) : Int) = (k : Int) + 1 by omega] at r1
  rw [show ((k + 2 : Nat) : Int) = (k : Int) + 2 by omega] at r2
  rw [show ((k + 3 : Nat) : Int) = (k : Int) + 3 by omega] at r3
  have b1 := restOf_lt l (k + 1)
  have b2 := restOf_lt l (k + 2)
  have b3 := restOf_lt l (k + 3)
  have hkn : (k : Int) < (n : Int) := by omega
  generalize restOf l (k + 1) = x at *
  generalize restOf l (k + 2) = y at *
  generalize restOf l (k + 3) = z at *
  have HD := Lib.hid hdec
  clear hdec h hc hc'
  generalize c'.toNat = cc at *
  have a0 : decide ((cc : Int) < 128) = true := by simp; omega
  have a1 : decide (192 ≤ (cc : Int)) = false := by simp; omega
  have a2 : decide ((cc : Int) < 224) = true := by simp; omega
  have a3 : decide (224 ≤ (cc : Int)) = false := by simp; omega
  have a4 : decide ((cc : Int) < 240) = true := by simp; omega
  have a5 : decide (240 ≤ (cc : Int)) = false := by simp; omega
  have a6 : decide ((cc : Int) < 248) = true := by simp; omega
  have hI : ∀ w0 : World, Calls Tryz.prog 158 #[.int .i64 (cc : Int)] w0 fun e w' => e = .returned (.bool true) ∧ w0 = w' := fun w0 => by
    have := ref02Is_c (cc : Int) w0
    rwa [show isR (cc : Int) = true by rw [isR_iff]; omega] at this
  have hB := fun w0 => bytes_c (cc : Int) w0 (by omega) (by omega)
  rw [bytesN_eq (cc : Int) 1 (by omega)] at hB
  go_enter Tryz.func123, Tryz.ntmps123
  go_wp2_with fail
  refine r1.mono ?_
  rintro e w1 ⟨rfl, rfl⟩
  go_wp2_with fail
  refine r2.mono ?_
  rintro e w1 ⟨rfl, rfl⟩
  go_wp2_with fail
  refine r3.mono ?_
  rintro e w1 ⟨rfl, rfl⟩
  go_wp2_with fail
  refine (hI _).mono ?_
  rintro e w1 ⟨rfl, rfl⟩
  go_wp2_with fail
  refine (hB _).mono ?_
  rintro e w1 ⟨⟨a, rfl⟩, hb1⟩
  have HB := Lib.hid hb1
  clear hb1 hcell
  go_wp2
  go_ret2
  exact ⟨by rw [HD.out]; rfl, HB.out⟩
set_option maxRecDepth 100000 in
set_option maxHeartbeats 8000000 in
theorem refDec_b (A : Option Addr) (n cap : Nat) (l : List UInt8) (k : Nat) (w : World) (B : Nat) (h : Byt w B A n cap l) (hk : k < n) (hm : n ≤ 50000) (c : UInt8) (hc : l[k]? = some c) (hcl : 128 ≤ c.toNat ∧ c.toNat ≤ 191) :
    Calls Tryz.prog 123 #[.slice A n cap, .int .i64 k] w fun e w' => e = .returned (pairV (dec (l.drop k))) ∧ Below w.heap.size w w' := by
  have hdec : dec (l.drop k) = none := dec_0 l k c hc (by omega)
  obtain ⟨b, o, c', rfl, hb, hc', hcell⟩ := h.cell hk
  obtain rfl : c' = c := by rw [hc] at hc'; exact (Option.some.inj hc').symm
  have r1 := rest_c (some ⟨b, o, none⟩) n cap l (k + 1) w B h
  have r2 := rest_c (some ⟨b, o, none⟩) n cap l (k + 2) w B h
  have r3 := rest_c (some ⟨b, o, none⟩) n cap l (k + 3) w B h
  rw [show ((k + 1 : Nat) : Int) = (k : Int) + 1 by omega] at r1
  rw [show ((k + 2 : Nat) : Int) = (k : Int) + 2 by omega] at r2
  rw [show ((k + 3 : Nat) : Int) = (k : Int) + 3 by omega] at r3
  have b1 := restOf_lt l (k + 1)
  have b2 := restOf_lt l (k + 2)
  have b3 := restOf_lt l (k + 3)
  have hkn : (k : Int) < (n : Int) := by omega
  generalize restOf l (k + 1) = x at *
  generalize restOf l (k + 2) = y at *
  generalize restOf l (k + 3) = z at *
  have HD := Lib.hid hdec
  clear hdec h hc hc'
  generalize c'.toNat = cc at *
  have a0 : decide ((cc : Int) < 128) = false := by simp; omega
  have a1 : decide (192 ≤ (cc : Int)) = false := by simp; omega
  have a2 : decide ((cc : Int) < 224) = true := by simp; omega
  have a3 : decide (224 ≤ (cc : Int)) = false := by simp; omega
  have a4 : decide ((cc : Int) < 240) = true := by simp; omega
  have a5 : decide (240 ≤ (cc : Int)) = false := by simp; omega
  have a6 : decide ((cc : Int) < 248) = true := by simp; omega
  go_enter Tryz.func123, Tryz.ntmps123
  go_wp2_with fail
  refine r1.mono ?_
  rintro e w1 ⟨rfl, rfl⟩
  go_wp2_with fail
  refine r2.mono ?_
  rintro e w1 ⟨rfl, rfl⟩
  go_wp2_with fail
  refine r3.mono ?_
  rintro e w1 ⟨rfl, rfl⟩
  go_wp2
  go_ret2
  exact ⟨by rw [HD.out]; rfl, Below.refl _ _⟩
set_option maxRecDepth 100000 in
set_option maxHeartbeats 8000000 in
theorem refDec_cc (A : Option Addr) (n cap : Nat) (l : List UInt8) (k : Nat) (w : World) (B : Nat) (h : Byt w B A n cap l) (hk : k < n) (hm : n ≤ 50000) (c : UInt8) (hc : l[k]? = some c) (hcl : 192 ≤ c.toNat ∧ c.toNat ≤ 223) (hx : 0 ≤ restOf l (k + 1)) :
    Calls Tryz.prog 123 #[.slice A n cap, .int .i64 k] w fun e w' => e = .returned (pairV (dec (l.drop k))) ∧ Below w.heap.size w w' := by
  have hdec : dec (l.drop k) = mk 128 2 ((c.toNat - 192) * 64 + (restOf l (k + 1)).toNat) := by rw [dec_2 l k c hc (by omega), if_pos (by omega)]
  obtain ⟨b, o, c', rfl, hb, hc', hcell⟩ := h.cell hk
  obtain rfl : c' = c := by rw [hc] at hc'; exact (Option.some.inj hc').symm
  have r1 := rest_c (some ⟨b, o, none⟩) n cap l (k + 1) w B h
  have r2 := rest_c (some ⟨b, o, none⟩) n cap l (k + 2) w B h
  have r3 := rest_c (some ⟨b, o, none⟩) n cap l (k + 3) w B h
  rw [show ((k + 1 : Nat) : Int) = (k : Int) + 1 by omega] at r1
  rw [show ((k + 2 : Nat) : Int) = (k : Int) + 2 by omega] at r2
  rw [show ((k + 3 : Nat) : Int) = (k : Int) + 3 by omega] at r3
  have b1 := restOf_lt l (k + 1)
  have b2 := restOf_lt l (k + 2)
  have b3 := restOf_lt l (k + 3)
  have hkn : (k : Int) < (n : Int) := by omega
  generalize restOf l (k + 1) = x at *
  generalize restOf l (k + 2) = y at *
  generalize restOf l (k + 3) = z at *
  have HD := Lib.hid hdec
  clear hdec h hc hc'
  generalize c'.toNat = cc at *
  have a0 : decide ((cc : Int) < 128) = false := by simp; omega
  have a1 : decide (192 ≤ (cc : Int)) = true := by simp; omega
  have a2 : decide ((cc : Int) < 224) = true := by simp; omega
  have a3 : decide (224 ≤ (cc : Int)) = false := by simp; omega
  have a4 : decide ((cc : Int) < 240) = true := by simp; omega
  have a5 : decide (240 ≤ (cc : Int)) = false := by simp; omega
  have a6 : decide ((cc : Int) < 248) = true := by simp; omega
  have px : decide (0 ≤ x) = true := by simp; omega
  have hR : ∃ Rn : Nat, (Rn : Int) = ((cc : Int) - 192) * 64 + x ∧ dec (l.drop k) = mk 128 2 Rn := ⟨_, by omega, HD.out⟩
  obtain ⟨Rn, hRn, hdec⟩ := hR
  have HR := Lib.hid hRn
  have hbd : 0 ≤ ((cc : Int) - 192) * 64 + x ∧ ((cc : Int) - 192) * 64 + x ≤ 2097151 := by omega
  cases his : isR (((cc : Int) - 192) * 64 + x) with
  | false =>
    have hI : ∀ w0 : World, Calls Tryz.prog 158 #[.int .i64 (((cc : Int) - 192) * 64 + x)] w0 fun e w' => e = .returned (.bool false) ∧ w0 = w' := fun w0 => by
      have := ref02Is_c (((cc : Int) - 192) * 64 + x) w0
      rwa [his] at this
    have HN : Hid (dec (l.drop k) = none) := Lib.hid (by rw [hdec]; unfold mk; rw [if_neg (fun hh => by rw [hRn, his] at hh; cases hh.2)])
    clear hRn hdec HD his hbd
    go_enter Tryz.func123, Tryz.ntmps123
    go_wp2_with fail
    refine r1.mono ?_
    rintro e w1 ⟨rfl, rfl⟩
    go_wp2_with fail
    refine r2.mono ?_
    rintro e w1 ⟨rfl, rfl⟩
    go_wp2_with fail
    refine r3.mono ?_
    rintro e w1 ⟨rfl, rfl⟩
    go_wp2_with fail
    refine (hI _).mono ?_
    rintro e w1 ⟨rfl, rfl⟩
    go_wp2
    go_ret2
    exact ⟨by rw [HN.out]; rfl, Below.refl _ _⟩
  | true =>
    have hI : ∀ w0 : World, Calls Tryz.prog 158 #[.int .i64 (((cc : Int) - 192) * 64 + x)] w0 fun e w' => e = .returned (.bool true) ∧ w0 = w' := fun w0 => by
      have := ref02Is_c (((cc : Int) - 192) * 64 + x) w0
      rwa [his] at this
    have hle : ((cc : Int) - 192) * 64 + x ≤ 1114111 := by rw [isR_iff] at his; omega
    have hB := fun w0 => bytes_c (((cc : Int) - 192) * 64 + x) w0 hbd.1 hle
    by_cases hls : 128 ≤ ((cc : Int) - 192) * 64 + x
    · rw [bytesN_eq (((cc : Int) - 192) * 64 + x) 2 (by omega)] at hB
      have HN : Hid (dec (l.drop k) = some (Rn, 2)) := Lib.hid (by rw [hdec]; unfold mk; rw [if_pos ⟨by omega, by rw [hRn]; exact his⟩])
      clear hRn hdec HD his hbd hle hls
      go_enter Tryz.func123, Tryz.ntmps123
      go_wp2_with fail
      refine r1.mono ?_
      rintro e w1 ⟨rfl, rfl⟩
      go_wp2_with fail
      refine r2.mono ?_
      rintro e w1 ⟨rfl, rfl⟩
      go_wp2_with fail
      refine r3.mono ?_
      rintro e w1 ⟨rfl, rfl⟩
      go_wp2_with fail
      refine (hI _).mono ?_
      rintro e w1 ⟨rfl, rfl⟩
      go_wp2_with fail
      refine (hB _).mono ?_
      rintro e w1 ⟨⟨a, rfl⟩, hb1⟩
      have HB := Lib.hid hb1
      clear hb1 hcell
      go_wp2
      go_ret2
      refine ⟨?_, HB.out⟩
      rw [HN.out]
      show _ = Ending.returned (.tuple #[.int .i64 (Rn : Int), .int .i64 ((2 : Nat) : Int)])
      rw [HR.out]
      rfl
    · have hlt := bytesN_lt (((cc : Int) - 192) * 64 + x) 2 (by omega)
      have HN : Hid (dec (l.drop k) = none) := Lib.hid (by rw [hdec]; unfold mk; rw [if_neg (fun hh => by have := hh.1; omega)])
      generalize bytesN (((cc : Int) - 192) * 64 + x) = bn at *
      have hbn : ((bn : Int) != 2) = true := by simp; omega
      clear hRn hdec HD his hbd hle hls hlt
      go_enter Tryz.func123, Tryz.ntmps123
      go_wp2_with fail
      refine r1.mono ?_
      rintro e w1 ⟨rfl, rfl⟩
      go_wp2_with fail
      refine r2.mono ?_
      rintro e w1 ⟨rfl, rfl⟩
      go_wp2_with fail
      refine r3.mono ?_
      rintro e w1 ⟨rfl, rfl⟩
      go_wp2_with fail
      refine (hI _).mono ?_
      rintro e w1 ⟨rfl, rfl⟩
      go_wp2_with fail
      refine (hB _).mono ?_
      rintro e w1 ⟨⟨a, rfl⟩, hb1⟩
      have HB := Lib.hid hb1
      clear hb1 hcell
      go_wp2
      go_ret2
      exact ⟨by rw [HN.out]; rfl, HB.out⟩
set_option maxRecDepth 100000 in
set_option maxHeartbeats 8000000 in
theorem refDec_d (A : Option Addr) (n cap : Nat) (l : List UInt8) (k : Nat) (w : World) (B : Nat) (h : Byt w B A n cap l) (hk : k < n) (hm : n ≤ 50000) (c : UInt8) (hc : l[k]? = some c) (hcl : 192 ≤ c.toNat ∧ c.toNat ≤ 223) (hx : restOf l (k + 1) < 0) :
    Calls Tryz.prog 123 #[.slice A n cap, .int .i64 k] w fun e w' => e = .returned (pairV (dec (l.drop k))) ∧ Below w.heap.size w w' := by
  have hdec : dec (l.drop k) = none := by rw [dec_2 l k c hc (by omega), if_neg (by omega)]
  obtain ⟨b, o, c', rfl, hb, hc', hcell⟩ := h.cell hk
  obtain rfl : c' = c := by rw [hc] at hc'; exact (Option.some.inj hc').symm
  have r1 := rest_c (some ⟨b, o, none⟩) n cap l (k + 1) w B h
  have r2 := rest_c (some ⟨b, o, none⟩) n cap l (k + 2) w B h
  have r3 := rest_c (some ⟨b, o, none⟩) n cap l (k + 3) w B h
  rw [show ((k + 1 : Nat) : Int) = (k : Int) + 1 by omega] at r1
  rw [show ((k + 2 : Nat) : Int) = (k : Int) + 2 by omega] at r2
  rw [show ((k + 3 : Nat) : Int) = (k : Int) + 3 by omega] at r3
  have b1 := restOf_lt l (k + 1)
  have b2 := restOf_lt l (k + 2)
  have b3 := restOf_lt l (k + 3)
  have hkn : (k : Int) < (n : Int) := by omega
  generalize restOf l (k + 1) = x at *
  generalize restOf l (k + 2) = y at *
  generalize restOf l (k + 3) = z at *
  have HD := Lib.hid hdec
  clear hdec h hc hc'
  generalize c'.toNat = cc at *
  have a0 : decide ((cc : Int) < 128) = false := by simp; omega
  have a1 : decide (192 ≤ (cc : Int)) = true := by simp; omega
  have a2 : decide ((cc : Int) < 224) = true := by simp; omega
  have a3 : decide (224 ≤ (cc : Int)) = false := by simp; omega
  have a4 : decide ((cc : Int) < 240) = true := by simp; omega
  have a5 : decide (240 ≤ (cc : Int)) = false := by simp; omega
  have a6 : decide ((cc : Int) < 248) = true := by simp; omega
  have px : decide (0 ≤ x) = false := by simp; omega
  go_enter Tryz.func123, Tryz.ntmps123
  go_wp2_with fail
  refine r1.mono ?_
  rintro e w1 ⟨rfl, rfl⟩
  go_wp2_with fail
  refine r2.mono ?_
  rintro e w1 ⟨rfl, rfl⟩
  go_wp2_with fail
  refine r3.mono ?_
  rintro e w1 ⟨rfl, rfl⟩
  go_wp2
  go_ret2
  exact ⟨by rw [HD.out]; rfl, Below.refl _ _⟩
set_option maxRecDepth 100000 in
set_option maxHeartbeats 8000000 in
theorem refDec_e (A : Option Addr) (n cap : Nat) (l : List UInt8) (k : Nat) (w : World) (B : Nat) (h : Byt w B A n cap l) (hk : k < n) (hm : n ≤ 50000) (c : UInt8) (hc : l[k]? = some c) (hcl : 224 ≤ c.toNat ∧ c.toNat ≤ 239) (hx : 0 ≤ restOf l (k + 1)) (hy : 0 ≤ restOf l (k + 2)) :
    Calls Tryz.prog 123 #[.slice A n cap, .int .i64 k] w fun e w' => e = .returned (pairV (dec (l.drop k))) ∧ Below w.heap.size w w' := by
  have hdec : dec (l.drop k) = mk 2048 3 (((c.toNat - 224) * 64 + (restOf l (k + 1)).toNat) * 64 + (restOf l (k + 2)).toNat) := by rw [dec_3 l k c hc (by omega), if_pos (by omega)]
  obtain ⟨b, o, c', rfl, hb, hc', hcell⟩ := h.cell hk
  obtain rfl : c' = c := by rw [hc] at hc'; exact (Option.some.inj hc').symm
  have r1 := rest_c (some ⟨b, o, none⟩) n cap l (k + 1) w B h
  have r2 := rest_c (some ⟨b, o, none⟩) n cap l (k + 2) w B h
  have r3 := rest_c (some ⟨b, o, none⟩) n cap l (k + 3) w B h
  rw [show ((k + 1 : Nat) : Int) = (k : Int) + 1 by omega] at r1
  rw [show ((k + 2 : Nat) : Int) = (k : Int) + 2 by omega] at r2
  rw [show ((k + 3 : Nat) : Int) = (k : Int) + 3 by omega] at r3
  have b1 := restOf_lt l (k + 1)
  have b2 := restOf_lt l (k + 2)
  have b3 := restOf_lt l (k + 3)
  have hkn : (k : Int) < (n : Int) := by omega
  generalize restOf l (k + 1) = x at *
  generalize restOf l (k + 2) = y at *
  generalize restOf l (k + 3) = z at *
  have HD := Lib.hid hdec
  clear hdec h hc hc'
  generalize c'.toNat = cc at *
  have a0 : decide ((cc : Int) < 128) = false := by simp; omega
  have a1 : decide (192 ≤ (cc : Int)) = true := by simp; omega
  have a2 : decide ((cc : Int) < 224) = false := by simp; omega
  have a3 : decide (224 ≤ (cc : Int)) = true := by simp; omega
  have a4 : decide ((cc : Int) < 240) = true := by simp; omega
  have a5 : decide (240 ≤ (cc : Int)) = false := by simp; omega
  have a6 : decide ((cc : Int) < 248) = true := by simp; omega
  have px : decide (0 ≤ x) = true := by simp; omega
  have py : decide (0 ≤ y) = true := by simp; omega
  have hR : ∃ Rn : Nat, (Rn : Int) = (((cc : Int) - 224) * 64 + x) * 64 + y ∧ dec (l.drop k) = mk 2048 3 Rn := ⟨_, by omega, HD.out⟩
  obtain ⟨Rn, hRn, hdec⟩ := hR
  have HR := Lib.hid hRn
  have hbd : 0 ≤ (((cc : Int) - 224) * 64 + x) * 64 + y ∧ (((cc : Int) - 224) * 64 + x) * 64 + y ≤ 2097151 := by omega
  cases his : isR ((((cc : Int) - 224) * 64 + x) * 64 + y) with
  | false =>
    have hI : ∀ w0 : World, Calls Tryz.prog 158 #[.int .i64 ((((cc : Int) - 224) * 64 + x) * 64 + y)] w0 fun e w' => e = .returned (.bool false) ∧ w0 = w' := fun w0 => by
      have := ref02Is_c ((((cc : Int) - 224) * 64 + x) * 64 + y) w0
      rwa [his] at this
    have HN : Hid (dec (l.drop k) = none) := Lib.hid (by rw [hdec]; unfold mk; rw [if_neg (fun hh => by rw [hRn, his] at hh; cases hh.2)])
    clear hRn hdec HD his hbd
    go_enter Tryz.func123, Tryz.ntmps123
    go_wp2_with fail
    refine r1.mono ?_
    rintro e w1 ⟨rfl, rfl⟩
    go_wp2_with fail
    refine r2.mono ?_
    rintro e w1 ⟨rfl, rfl⟩
    go_wp2_with fail
    refine r3.mono ?_
    rintro e w1 ⟨rfl, rfl⟩
    go_wp2_with fail
    refine (hI _).mono ?_
    rintro e w1 ⟨rfl, rfl⟩
    go_wp2
    go_ret2
    exact ⟨by rw [HN.out]; rfl, Below.refl _ _⟩
  | true =>
    have hI : ∀ w0 : World, Calls Tryz.prog 158 #[.int .i64 ((((cc : Int) - 224) * 64 + x) * 64 + y)] w0 fun e w' => e = .returned (.bool true) ∧ w0 = w' := fun w0 => by
      have := ref02Is_c ((((cc : Int) - 224) * 64 + x) * 64 + y) w0
      rwa [his] at this
    have hle : (((cc : Int) - 224) * 64 + x) * 64 + y ≤ 1114111 := by rw [isR_iff] at his; omega
    have hB := fun w0 => bytes_c ((((cc : Int) - 224) * 64 + x) * 64 + y) w0 hbd.1 hle
    by_cases hls : 2048 ≤ (((cc : Int) - 224) * 64 + x) * 64 + y
    · rw [bytesN_eq ((((cc : Int) - 224) * 64 + x) * 64 + y) 3 (by omega)] at hB
      have HN : Hid (dec (l.drop k) = some (Rn, 3)) := Lib.hid (by rw [hdec]; unfold mk; rw [if_pos ⟨by omega, by rw [hRn]; exact his⟩])
      clear hRn hdec HD his hbd hle hls
      go_enter Tryz.func123, Tryz.ntmps123
      go_wp2_with fail
      refine r1.mono ?_
      rintro e w1 ⟨rfl, rfl⟩
      go_wp2_with fail
      refine r2.mono ?_
      rintro e w1 ⟨rfl, rfl⟩
      go_wp2_with fail
      refine r3.mono ?_
      rintro e w1 ⟨rfl, rfl⟩
      go_wp2_with fail
      refine (hI _).mono ?_
      rintro e w1 ⟨rfl, rfl⟩
      go_wp2_with fail
      refine (hB _).mono ?_
      rintro e w1 ⟨⟨a, rfl⟩, hb1⟩
      have HB := Lib.hid hb1
      clear hb1 hcell
      go_wp2
      go_ret2
      refine ⟨?_, HB.out⟩
      rw [HN.out]
      show _ = Ending.returned (.tuple #[.int .i64 (Rn : Int), .int .i64 ((3 : Nat) : Int)])
      rw [HR.out]
      rfl
    · have hlt := bytesN_lt ((((cc : Int) - 224) * 64 + x) * 64 + y) 3 (by omega)
      have HN : Hid (dec (l.drop k) = none) := Lib.hid (by rw [hdec]; unfold mk; rw [if_neg (fun hh => by have := hh.1; omega)])
      generalize bytesN ((((cc : Int) - 224) * 64 + x) * 64 + y) = bn at *
      have hbn : ((bn : Int) != 3) = true := by simp; omega
      clear hRn hdec HD his hbd hle hls hlt
      go_enter Tryz.func123, Tryz.ntmps123
      go_wp2_with fail
      refine r1.mono ?_
      rintro e w1 ⟨rfl, rfl⟩
      go_wp2_with fail
      refine r2.mono ?_
      rintro e w1 ⟨rfl, rfl⟩
      go_wp2_with fail
      refine r3.mono ?_
      rintro e w1 ⟨rfl, rfl⟩
      go_wp2_with fail
      refine (hI _).mono ?_
      rintro e w1 ⟨rfl, rfl⟩
      go_wp2_with fail
      refine (hB _).mono ?_
      rintro e w1 ⟨⟨a, rfl⟩, hb1⟩
      have HB := Lib.hid hb1
      clear hb1 hcell
      go_wp2
      go_ret2
      exact ⟨by rw [HN.out]; rfl, HB.out⟩
set_option maxRecDepth 100000 in
set_option maxHeartbeats 8000000 in
theorem refDec_f (A : Option Addr) (n cap : Nat) (l : List UInt8) (k : Nat) (w : World) (B : Nat) (h : Byt w B A n cap l) (hk : k < n) (hm : n ≤ 50000) (c : UInt8) (hc : l[k]? = some c) (hcl : 224 ≤ c.toNat ∧ c.toNat ≤ 239) (hx : restOf l (k + 1) < 0) :
    Calls Tryz.prog 123 #[.slice A n cap, .int .i64 k] w fun e w' => e = .returned (pairV (dec (l.drop k))) ∧ Below w.heap.size w w' := by
  have hdec : dec (l.drop k) = none := by rw [dec_3 l k c hc (by omega), if_neg (by omega)]
  obtain ⟨b, o, c', rfl, hb, hc', hcell⟩ := h.cell hk
  obtain rfl : c' = c := by rw [hc] at hc'; exact (Option.some.inj hc').symm
  have r1 := rest_c (some ⟨b, o, none⟩) n cap l (k + 1) w B h
  have r2 := rest_c (some ⟨b, o, none⟩) n cap l (k + 2) w B h
  have r3 := rest_c (some ⟨b, o, none⟩) n cap l (k + 3) w B h
  rw [show ((k + 1 : Nat) : Int) = (k : Int) + 1 by omega] at r1
  rw [show ((k + 2 : Nat) : Int) = (k : Int) + 2 by omega] at r2
  rw [show ((k + 3 : Nat) : Int) = (k : Int) + 3 by omega] at r3
  have b1 := restOf_lt l (k + 1)
  have b2 := restOf_lt l (k + 2)
  have b3 := restOf_lt l (k + 3)
  have hkn : (k : Int) < (n : Int) := by omega
  generalize restOf l (k + 1) = x at *
  generalize restOf l (k + 2) = y at *
  generalize restOf l (k + 3) = z at *
  have HD := Lib.hid hdec
  clear hdec h hc hc'
  generalize c'.toNat = cc at *
  have a0 : decide ((cc : Int) < 128) = false := by simp; omega
  have a1 : decide (192 ≤ (cc : Int)) = true := by simp; omega
  have a2 : decide ((cc : Int) < 224) = false := by simp; omega
  have a3 : decide (224 ≤ (cc : Int)) = true := by simp; omega
  have a4 : decide ((cc : Int) < 240) = true := by simp; omega
  have a5 : decide (240 ≤ (cc : Int)) = false := by simp; omega
  have a6 : decide ((cc : Int) < 248) = true := by simp; omega
  have px : decide (0 ≤ x) = false := by simp; omega
  go_enter Tryz.func123, Tryz.ntmps123
  go_wp2_with fail
  refine r1.mono ?_
  rintro e w1 ⟨rfl, rfl⟩
  go_wp2_with fail
  refine r2.mono ?_
  rintro e w1 ⟨rfl, rfl⟩
  go_wp2_with fail
  refine r3.mono ?_
  rintro e w1 ⟨rfl, rfl⟩
  go_wp2
  go_ret2
  exact ⟨by rw [HD.out]; rfl, Below.refl _ _⟩
set_option maxRecDepth 100000 in
set_option maxHeartbeats 8000000 in
theorem refDec_g (A : Option Addr) (n cap : Nat) (l : List UInt8) (k : Nat) (w : World) (B : Nat) (h : Byt w B A n cap l) (hk : k < n) (hm : n ≤ 50000) (c : UInt8) (hc : l[k]? = some c) (hcl : 224 ≤ c.toNat ∧ c.toNat ≤ 239) (hx : 0 ≤ restOf l (k + 1)) (hy : restOf l (k + 2) < 0) :
    Calls Tryz.prog 123 #[.slice A n cap, .int .i64 k] w fun e w' => e = .returned (pairV (dec (l.drop k))) ∧ Below w.heap.size w w' := by
  have hdec : dec (l.drop k) = none := by rw [dec_3 l k c hc (by omega), if_neg (by omega)]
  obtain ⟨b, o, c', rfl, hb, hc', hcell⟩ := h.cell hk
  obtain rfl : c' = c := by rw [hc] at hc'; exact (Option.some.inj hc').symm
  have r1 := rest_c (some ⟨b, o, none⟩) n cap l (k + 1) w B h
  have r2 := rest_c (some ⟨b, o, none⟩) n cap l (k + 2) w B h
  have r3 := rest_c (some ⟨b, o, none⟩) n cap l (k + 3) w B h
  rw [show ((k + 1 : Nat) : Int) = (k : Int) + 1 by omega] at r1
  rw [show ((k + 2 : Nat) : Int) = (k : Int) + 2 by omega] at r2
  rw [show ((k + 3 : Nat) : Int) = (k : Int) + 3 by omega] at r3
  have b1 := restOf_lt l (k + 1)
  have b2 := restOf_lt l (k + 2)
  have b3 := restOf_lt l (k + 3)
  have hkn : (k : Int) < (n : Int) := by omega
  generalize restOf l (k + 1) = x at *
  generalize restOf l (k + 2) = y at *
  generalize restOf l (k + 3) = z at *
  have HD := Lib.hid hdec
  clear hdec h hc hc'
  generalize c'.toNat = cc at *
  have a0 : decide ((cc : Int) < 128) = false := by simp; omega
  have a1 : decide (192 ≤ (cc : Int)) = true := by simp; omega
  have a2 : decide ((cc : Int) < 224) = false := by simp; omega
  have a3 : decide (224 ≤ (cc : Int)) = true := by simp; omega
  have a4 : decide ((cc : Int) < 240) = true := by simp; omega
  have a5 : decide (240 ≤ (cc : Int)) = false := by simp; omega
  have a6 : decide ((cc : Int) < 248) = true := by simp; omega
  have px : decide (0 ≤ x) = true := by simp; omega
  have py : decide (0 ≤ y) = false := by simp; omega
  go_enter Tryz.func123, Tryz.ntmps123
  go_wp2_with fail
  refine r1.mono ?_
  rintro e w1 ⟨rfl, rfl⟩
  go_wp2_with fail
  refine r2.mono ?_
  rintro e w1 ⟨rfl, rfl⟩
  go_wp2_with fail
  refine r3.mono ?_
  rintro e w1 ⟨rfl, rfl⟩
  go_wp2
  go_ret2
  exact ⟨by rw [HD.out]; rfl, Below.refl _ _⟩
set_option maxRecDepth 100000 in
set_option maxHeartbeats 8000000 in
theorem refDec_h (A : Option Addr) (n cap : Nat) (l : List UInt8) (k : Nat) (w : World) (B : Nat) (h : Byt w B A n cap l) (hk : k < n) (hm : n ≤ 50000) (c : UInt8) (hc : l[k]? = some c) (hcl : 240 ≤ c.toNat ∧ c.toNat ≤ 247) (hx : 0 ≤ restOf l (k + 1)) (hy : 0 ≤ restOf l (k + 2)) (hz : 0 ≤ restOf l (k + 3)) :
    Calls Tryz.prog 123 #[.slice A n cap, .int .i64 k] w fun e w' => e = .returned (pairV (dec (l.drop k))) ∧ Below w.heap.size w w' := by
  have hdec : dec (l.drop k) = mk 65536 4 ((((c.toNat - 240) * 64 + (restOf l (k + 1)).toNat) * 64 + (restOf l (k + 2)).toNat) * 64 + (restOf l (k + 3)).toNat) := by rw [dec_4 l k c hc (by omega), if_pos (by omega)]
  obtain ⟨b, o, c', rfl, hb, hc', hcell⟩ := h.cell hk
  obtain rfl : c' = c := by rw [hc] at hc'; exact (Option.some.inj hc').symm
  have r1 := rest_c (some ⟨b, o, none⟩) n cap l (k + 1) w B h
  have r2 := rest_c (some ⟨b, o, none⟩) n cap l (k + 2) w B h
  have r3 := rest_c (some ⟨b, o, none⟩) n cap l (k + 3) w B h
  rw [show ((k + 1 : Nat) : Int) = (k : Int) + 1 by omega] at r1
  rw [show ((k + 2 : Nat) : Int) = (k : Int) + 2 by omega] at r2
  rw [show ((k + 3 : Nat) : Int) = (k : Int) + 3 by omega] at r3
  have b1 := restOf_lt l (k + 1)
  have b2 := restOf_lt l (k + 2)
  have b3 := restOf_lt l (k + 3)
  have hkn : (k : Int) < (n : Int) := by omega
  generalize restOf l (k + 1) = x at *
  generalize restOf l (k + 2) = y at *
  generalize restOf l (k + 3) = z at *
  have HD := Lib.hid hdec
  clear hdec h hc hc'
  generalize c'.toNat = cc at *
  have a0 : decide ((cc : Int) < 128) = false := by simp; omega
  have a1 : decide (192 ≤ (cc : Int)) = true := by simp; omega
  have a2 : decide ((cc : Int) < 224) = false := by simp; omega
  have a3 : decide (224 ≤ (cc : Int)) = true := by simp; omega
  have a4 : decide ((cc : Int) < 240) = false := by simp; omega
  have a5 : decide (240 ≤ (cc : Int)) = true := by simp; omega
  have a6 : decide ((cc : Int) < 248) = true := by simp; omega
  have px : decide (0 ≤ x) = true := by simp; omega
  have py : decide (0 ≤ y) = true := by simp; omega
  have pz : decide (0 ≤ z) = true := by simp; omega
  have hR : ∃ Rn : Nat, (Rn : Int) = ((((cc : Int) - 240) * 64 + x) * 64 + y) * 64 + z ∧ dec (l.drop k) = mk 65536 4 Rn := ⟨_, by omega, HD.out⟩
  obtain ⟨Rn, hRn, hdec⟩ := hR
  have HR := Lib.hid hRn
  have hbd : 0 ≤ ((((cc : Int) - 240) * 64 + x) * 64 + y) * 64 + z ∧ ((((cc : Int) - 240) * 64 + x) * 64 + y) * 64 + z ≤ 2097151 := by omega
  cases his : isR (((((cc : Int) - 240) * 64 + x) * 64 + y) * 64 + z) with
  | false =>
    have hI : ∀ w0 : World, Calls Tryz.prog 158 #[.int .i64 (((((cc : Int) - 240) * 64 + x) * 64 + y) * 64 + z)] w0 fun e w' => e = .returned (.bool false) ∧ w0 = w' := fun w0 => by
      have := ref02Is_c (((((cc : Int) - 240) * 64 + x) * 64 + y) * 64 + z) w0
      rwa [his] at this
    have HN : Hid (dec (l.drop k) = none) := Lib.hid (by rw [hdec]; unfold mk; rw [if_neg (fun hh => by rw [hRn, his] at hh; cases hh.2)])
    clear hRn hdec HD his hbd
    go_enter Tryz.func123, Tryz.ntmps123
    go_wp2_with fail
    refine r1.mono ?_
    rintro e w1 ⟨rfl, rfl⟩
    go_wp2_with fail
    refine r2.mono ?_
    rintro e w1 ⟨rfl, rfl⟩
    go_wp2_with fail
    refine r3.mono ?_
    rintro e w1 ⟨rfl, rfl⟩
    go_wp2_with fail
    refine (hI _).mono ?_
    rintro e w1 ⟨rfl, rfl⟩
    go_wp2
    go_ret2
    exact ⟨by rw [HN.out]; rfl, Below.refl _ _⟩
  | true =>
    have hI : ∀ w0 : World, Calls Tryz.prog 158 #[.int .i64 (((((cc : Int) - 240) * 64 + x) * 64 + y) * 64 + z)] w0 fun e w' => e = .returned (.bool true) ∧ w0 = w' := fun w0 => by
      have := ref02Is_c (((((cc : Int) - 240) * 64 + x) * 64 + y) * 64 + z) w0
      rwa [his] at this
    have hle : ((((cc : Int) - 240) * 64 + x) * 64 + y) * 64 + z ≤ 1114111 := by rw [isR_iff] at his; omega
    have hB := fun w0 => bytes_c (((((cc : Int) - 240) * 64 + x) * 64 + y) * 64 + z) w0 hbd.1 hle
    by_cases hls : 65536 ≤ ((((cc : Int) - 240) * 64 + x) * 64 + y) * 64 + z
    · rw [bytesN_eq (((((cc : Int) - 240) * 64 + x) * 64 + y) * 64 + z) 4 (by omega)] at hB
      have HN : Hid (dec (l.drop k) = some (Rn, 4)) := Lib.hid (by rw [hdec]; unfold mk; rw [if_pos ⟨by omega, by rw [hRn]; exact his⟩])
      clear hRn hdec HD his hbd hle hls
      go_enter Tryz.func123, Tryz.ntmps123
      go_wp2_with fail
      refine r1.mono ?_
      rintro e w1 ⟨rfl, rfl⟩
      go_wp2_with fail
      refine r2.mono ?_
      rintro e w1 ⟨rfl, rfl⟩
      go_wp2_with fail
      refine r3.mono ?_
      rintro e w1 ⟨rfl, rfl⟩
      go_wp2_with fail
      refine (hI _).mono ?_
      rintro e w1 ⟨rfl, rfl⟩
      go_wp2_with fail
      refine (hB _).mono ?_
      rintro e w1 ⟨⟨a, rfl⟩, hb1⟩
      have HB := Lib.hid hb1
      clear hb1 hcell
      go_wp2
      go_ret2
      refine ⟨?_, HB.out⟩
      rw [HN.out]
      show _ = Ending.returned (.tuple #[.int .i64 (Rn : Int), .int .i64 ((4 : Nat) : Int)])
      rw [HR.out]
      rfl
    · have hlt := bytesN_lt (((((cc : Int) - 240) * 64 + x) * 64 + y) * 64 + z) 4 (by omega)
      have HN : Hid (dec (l.drop k) = none) := Lib.hid (by rw [hdec]; unfold mk; rw [if_neg (fun hh => by have := hh.1; omega)])
      generalize bytesN (((((cc : Int) - 240) * 64 + x) * 64 + y) * 64 + z) = bn at *
      have hbn : ((bn : Int) != 4) = true := by simp; omega
      clear hRn hdec HD his hbd hle hls hlt
      go_enter Tryz.func123, Tryz.ntmps123
      go_wp2_with fail
      refine r1.mono ?_
      rintro e w1 ⟨rfl, rfl⟩
      go_wp2_with fail
      refine r2.mono ?_
      rintro e w1 ⟨rfl, rfl⟩
      go_wp2_with fail
      refine r3.mono ?_
      rintro e w1 ⟨rfl, rfl⟩
      go_wp2_with fail
      refine (hI _).mono ?_
      rintro e w1 ⟨rfl, rfl⟩
      go_wp2_with fail
      refine (hB _).mono ?_
      rintro e w1 ⟨⟨a, rfl⟩, hb1⟩
      have HB := Lib.hid hb1
      clear hb1 hcell
      go_wp2
      go_ret2
      exact ⟨by rw [HN.out]; rfl, HB.out⟩
set_option maxRecDepth 100000 in
set_option maxHeartbeats 8000000 in
theorem refDec_i (A : Option Addr) (n cap : Nat) (l : List UInt8) (k : Nat) (w : World) (B : Nat) (h : Byt w B A n cap l) (hk : k < n) (hm : n ≤ 50000) (c : UInt8) (hc : l[k]? = some c) (hcl : 240 ≤ c.toNat ∧ c.toNat ≤ 247) (hx : restOf l (k + 1) < 0) :
    Calls Tryz.prog 123 #[.slice A n cap, .int .i64 k] w fun e w' => e = .returned (pairV (dec (l.drop k))) ∧ Below w.heap.size w w' := by
  have hdec : dec (l.drop k) = none := by rw [dec_4 l k c hc (by omega), if_neg (by omega)]
  obtain ⟨b, o, c', rfl, hb, hc', hcell⟩ := h.cell hk
  obtain rfl : c' = c := by rw [hc] at hc'; exact (Option.some.inj hc').symm
  have r1 := rest_c (some ⟨b, o, none⟩) n cap l (k + 1) w B h
  have r2 := rest_c (some ⟨b, o, none⟩) n cap l (k + 2) w B h
  have r3 := rest_c (some ⟨b, o, none⟩) n cap l (k + 3) w B h
  rw [show ((k + 1 : Nat) : Int) = (k : Int) + 1 by omega] at r1
  rw [show ((k + 2 : Nat) : Int) = (k : Int) + 2 by omega] at r2
  rw [show ((k + 3 : Nat) : Int) = (k : Int) + 3 by omega] at r3
  have b1 := restOf_lt l (k + 1)
  have b2 := restOf_lt l (k + 2)
  have b3 := restOf_lt l (k + 3)
  have hkn : (k : Int) < (n : Int) := by omega
  generalize restOf l (k + 1) = x at *
  generalize restOf l (k + 2) = y at *
  generalize restOf l (k + 3) = z at *
  have HD := Lib.hid hdec
  clear hdec h hc hc'
  generalize c'.toNat = cc at *
  have a0 : decide ((cc : Int) < 128) = false := by simp; omega
  have a1 : decide (192 ≤ (cc : Int)) = true := by simp; omega
  have a2 : decide ((cc : Int) < 224) = false := by simp; omega
  have a3 : decide (224 ≤ (cc : Int)) = true := by simp; omega
  have a4 : decide ((cc : Int) < 240) = false := by simp; omega
  have a5 : decide (240 ≤ (cc : Int)) = true := by simp; omega
  have a6 : decide ((cc : Int) < 248) = true := by simp; omega
  have px : decide (0 ≤ x) = false := by simp; omega
  go_enter Tryz.func123, Tryz.ntmps123
  go_wp2_with fail
  refine r1.mono ?_
  rintro e w1 ⟨rfl, rfl⟩
  go_wp2_with fail
  refine r2.mono ?_
  rintro e w1 ⟨rfl, rfl⟩
  go_wp2_with fail
  refine r3.mono ?_
  rintro e w1 ⟨rfl, rfl⟩
  go_wp2
  go_ret2
  exact ⟨by rw [HD.out]; rfl, Below.refl _ _⟩
set_option maxRecDepth 100000 in
set_option maxHeartbeats 8000000 in
theorem refDec_j (A : Option Addr) (n cap : Nat) (l : List UInt8) (k : Nat) (w : World) (B : Nat) (h : Byt w B A n cap l) (hk : k < n) (hm : n ≤ 50000) (c : UInt8) (hc : l[k]? = some c) (hcl : 240 ≤ c.toNat ∧ c.toNat ≤ 247) (hx : 0 ≤ restOf l (k + 1)) (hy : restOf l (k + 2) < 0) :
    Calls Tryz.prog 123 #[.slice A n cap, .int .i64 k] w fun e w' => e = .returned (pairV (dec (l.drop k))) ∧ Below w.heap.size w w' := by
  have hdec : dec (l.drop k) = none := by rw [dec_4 l k c hc (by omega), if_neg (by omega)]
  obtain ⟨b, o, c', rfl, hb, hc', hcell⟩ := h.cell hk
  obtain rfl : c' = c := by rw [hc] at hc'; exact (Option.some.inj hc').symm
  have r1 := rest_c (some ⟨b, o, none⟩) n cap l (k + 1) w B h
  have r2 := rest_c (some ⟨b, o, none⟩) n cap l (k + 2) w B h
  have r3 := rest_c (some ⟨b, o, none⟩) n cap l (k + 3) w B h
  rw [show ((k + 1 : Nat) : Int) = (k : Int) + 1 by omega] at r1
  rw [show ((k + 2 : Nat) : Int) = (k : Int) + 2 by omega] at r2
  rw [show ((k + 3 : Nat) : Int) = (k : Int) + 3 by omega] at r3
  have b1 := restOf_lt l (k + 1)
  have b2 := restOf_lt l (k + 2)
  have b3 := restOf_lt l (k + 3)
  have hkn : (k : Int) < (n : Int) := by omega
  generalize restOf l (k + 1) = x at *
  generalize restOf l (k + 2) = y at *
  generalize restOf l (k + 3) = z at *
  have HD := Lib.hid hdec
  clear hdec h hc hc'
  generalize c'.toNat = cc at *
  have a0 : decide ((cc : Int) < 128) = false := by simp; omega
  have a1 : decide (192 ≤ (cc : Int)) = true := by simp; omega
  have a2 : decide ((cc : Int) < 224) = false := by simp; omega
  have a3 : decide (224 ≤ (cc : Int)) = true := by simp; omega
  have a4 : decide ((cc : Int) < 240) = false := by simp; omega
  have a5 : decide (240 ≤ (cc : Int)) = true := by simp; omega
  have a6 : decide ((cc : Int) < 248) = true := by simp; omega
  have px : decide (0 ≤ x) = true := by simp; omega
  have py : decide (0 ≤ y) = false := by simp; omega
  go_enter Tryz.func123, Tryz.ntmps123
  go_wp2_with fail
  refine r1.mono ?_
  rintro e w1 ⟨rfl, rfl⟩
  go_wp2_with fail
  refine r2.mono ?_
  rintro e w1 ⟨rfl, rfl⟩
  go_wp2_with fail
  refine r3.mono ?_
  rintro e w1 ⟨rfl, rfl⟩
  go_wp2
  go_ret2
  exact ⟨by rw [HD.out]; rfl, Below.refl _ _⟩
set_option maxRecDepth 100000 in
set_option maxHeartbeats 8000000 in
theorem refDec_k (A : Option Addr) (n cap : Nat) (l : List UInt8) (k : Nat) (w : World) (B : Nat) (h : Byt w B A n cap l) (hk : k < n) (hm : n ≤ 50000) (c : UInt8) (hc : l[k]? = some c) (hcl : 240 ≤ c.toNat ∧ c.toNat ≤ 247) (hx : 0 ≤ restOf l (k + 1)) (hy : 0 ≤ restOf l (k + 2)) (hz : restOf l (k + 3) < 0) :
    Calls Tryz.prog 123 #[.slice A n cap, .int .i64 k] w fun e w' => e = .returned (pairV (dec (l.drop k))) ∧ Below w.heap.size w w' := by
  have hdec : dec (l.drop k) = none := by rw [dec_4 l k c hc (by omega), if_neg (by omega)]
  obtain ⟨b, o, c', rfl, hb, hc', hcell⟩ := h.cell hk
  obtain rfl : c' = c := by rw [hc] at hc'; exact (Option.some.inj hc').symm
  have r1 := rest_c (some ⟨b, o, none⟩) n cap l (k + 1) w B h
  have r2 := rest_c (some ⟨b, o, none⟩) n cap l (k + 2) w B h
  have r3 := rest_c (some ⟨b, o, none⟩) n cap l (k + 3) w B h
  rw [show ((k + 1 : Nat) : Int) = (k : Int) + 1 by omega] at r1
  rw [show ((k + 2 : Nat) : Int) = (k : Int) + 2 by omega] at r2
  rw [show ((k + 3 : Nat) : Int) = (k : Int) + 3 by omega] at r3
  have b1 := restOf_lt l (k + 1)
  have b2 := restOf_lt l (k + 2)
  have b3 := restOf_lt l (k + 3)
  have hkn : (k : Int) < (n : Int) := by omega
  generalize restOf l (k + 1) = x at *
  generalize restOf l (k + 2) = y at *
  generalize restOf l (k + 3) = z at *
  have HD := Lib.hid hdec
  clear hdec h hc hc'
  generalize c'.toNat = cc at *
  have a0 : decide ((cc : Int) < 128) = false := by simp; omega
  have a1 : decide (192 ≤ (cc : Int)) = true := by simp; omega
  have a2 : decide ((cc : Int) < 224) = false := by simp; omega
  have a3 : decide (224 ≤ (cc : Int)) = true := by simp; omega
  have a4 : decide ((cc : Int) < 240) = false := by simp; omega
  have a5 : decide (240 ≤ (cc : Int)) = true := by simp; omega
  have a6 : decide ((cc : Int) < 248) = true := by simp; omega
  have px : decide (0 ≤ x) = true := by simp; omega
  have py : decide (0 ≤ y) = true := by simp; omega
  have pz : decide (0 ≤ z) = false := by simp; omega
  go_enter Tryz.func123, Tryz.ntmps123
  go_wp2_with fail
  refine r1.mono ?_
  rintro e w1 ⟨rfl, rfl⟩
  go_wp2_with fail
  refine r2.mono ?_
  rintro e w1 ⟨rfl, rfl⟩
  go_wp2_with fail
  refine r3.mono ?_
  rintro e w1 ⟨rfl, rfl⟩
  go_wp2
  go_ret2
  exact ⟨by rw [HD.out]; rfl, Below.refl _ _⟩
set_option maxRecDepth 100000 in
set_option maxHeartbeats 8000000 in
theorem refDec_m (A : Option Addr) (n cap : Nat) (l : List UInt8) (k : Nat) (w : World) (B : Nat) (h : Byt w B A n cap l) (hk : k < n) (hm : n ≤ 50000) (c : UInt8) (hc : l[k]? = some c) (hcl : 248 ≤ c.toNat ∧ c.toNat ≤ 255) :
    Calls Tryz.prog 123 #[.slice A n cap, .int .i64 k] w fun e w' => e = .returned (pairV (dec (l.drop k))) ∧ Below w.heap.size w w' := by
  have hdec : dec (l.drop k) = none := dec_0 l k c hc (by omega)
  obtain ⟨b, o, c', rfl, hb, hc', hcell⟩ := h.cell hk
  obtain rfl : c' = c := by rw [hc] at hc'; exact (Option.some.inj hc').symm
  have r1 := rest_c (some ⟨b, o, none⟩) n cap l (k + 1) w B h
  have r2 := rest_c (some ⟨b, o, none⟩) n cap l (k + 2) w B h
  have r3 := rest_c (some ⟨b, o, none⟩) n cap l (k + 3) w B h
  rw [show ((k + 1 : Nat) : Int) = (k : Int) + 1 by omega] at r1
  rw [show ((k + 2 : Nat) : Int) = (k : Int) + 2 by omega] at r2
  rw [show ((k + 3 : Nat) : Int) = (k : Int) + 3 by omega] at r3
  have b1 := restOf_lt l (k + 1)
  have b2 := restOf_lt l (k + 2)
  have b3 := restOf_lt l (k + 3)
  have hkn : (k : Int) < (n : Int) := by omega
  generalize restOf l (k + 1) = x at *
  generalize restOf l (k + 2) = y at *
  generalize restOf l (k + 3) = z at *
  have HD := Lib.hid hdec
  clear hdec h hc hc'
  generalize c'.toNat = cc at *
  have a0 : decide ((cc : Int) < 128) = false := by simp; omega
  have a1 : decide (192 ≤ (cc : Int)) = true := by simp; omega
  have a2 : decide ((cc : Int) < 224) = false := by simp; omega
  have a3 : decide (224 ≤ (cc : Int)) = true := by simp; omega
  have a4 : decide ((cc : Int) < 240) = false := by simp; omega
  have a5 : decide (240 ≤ (cc : Int)) = true := by simp; omega
  have a6 : decide ((cc : Int) < 248) = false := by simp; omega
  go_enter Tryz.func123, Tryz.ntmps123
  go_wp2_with fail
  refine r1.mono ?_
  rintro e w1 ⟨rfl, rfl⟩
  go_wp2_with fail
  refine r2.mono ?_
  rintro e w1 ⟨rfl, rfl⟩
  go_wp2_with fail
  refine r3.mono ?_
  rintro e w1 ⟨rfl, rfl⟩
  go_wp2
  go_ret2
  exact ⟨by rw [HD.out]; rfl, Below.refl _ _⟩
theorem refDec_c (A : Option Addr) (n cap : Nat) (l : List UInt8) (k : Nat) (w : World) (B : Nat) (h : Byt w B A n cap l) (hk : k < n) (hm : n ≤ 50000) :
    Calls Tryz.prog 123 #[.slice A n cap, .int .i64 k] w fun e w' => e = .returned (pairV (dec (l.drop k))) ∧ Below w.heap.size w w' := by
  have hlen := h.length
  obtain ⟨c, hc⟩ : ∃ c, l[k]? = some c := ⟨_, List.getElem?_eq_getElem (by omega)⟩
  have hcl := c.toNat_lt
  rcases (show c.toNat ≤ 127 ∨ (128 ≤ c.toNat ∧ c.toNat ≤ 191) ∨ (192 ≤ c.toNat ∧ c.toNat ≤ 223) ∨ (224 ≤ c.toNat ∧ c.toNat ≤ 239) ∨ (240 ≤ c.toNat ∧ c.toNat ≤ 247) ∨ 248 ≤ c.toNat by omega) with g | g | g | g | g | g
  · exact refDec_a A n cap l k w B h hk hm c hc (by omega)
  · exact refDec_b A n cap l k w B h hk hm c hc (by omega)
  · by_cases hx : 0 ≤ restOf l (k + 1)
    · exact refDec_cc A n cap l k w B h hk hm c hc (by omega) hx
    · exact refDec_d A n cap l k w B h hk hm c hc (by omega) (by omega)
  · by_cases hx : 0 ≤ restOf l (k + 1)
    · by_cases hy : 0 ≤ restOf l (k + 2)
      · exact refDec_e A n cap l k w B h hk hm c hc (by omega) hx hy
      · exact refDec_g A n cap l k w B h hk hm c hc (by omega) hx (by omega)
    · exact refDec_f A n cap l k w B h hk hm c hc (by omega) (by omega)
  · by_cases hx : 0 ≤ restOf l (k + 1)
    · by_cases hy : 0 ≤ restOf l (k + 2)
      · by_cases hz : 0 ≤ restOf l (k + 3)
        · exact refDec_h A n cap l k w B h hk hm c hc (by omega) hx hy hz
        · exact refDec_k A n cap l k w B h hk hm c hc (by omega) hx hy (by omega)
      · exact refDec_j A n cap l k w B h hk hm c hc (by omega) hx (by omega)
    · exact refDec_i A n cap l k w B h hk hm c hc (by omega) (by omega)
  · exact refDec_m A n cap l k w B h hk hm c hc (by omega)
end Go.Proofs.YtmclngahdklfkaaGreatDoor
/- The document's names: the end. -/
namespace Go.Proofs.YtmclngahdklfkaaGreatDoor
open Go.ChangeShapes Go.WideShapes Go.ChangeAt Go.RowKit
set_option linter.unusedVariables false
/-- What may stand in a name, or in a plain one. -/
def okName (pl : Bool) (f : Int → Bool) (r : Int) : Bool := if pl then noColon f r else f r
set_option maxRecDepth 100000 in
set_option maxHeartbeats 8000000 in
theorem refEnd_c (pl : Bool) (A : Option Addr) (n cap : Nat) (l : List UInt8) (at_ : Nat) (w : World) (h : Byt w w.heap.size A n cap l) (hm : n ≤ 50000) (hat : at_ ≤ n) :
    Calls Tryz.prog 89 #[.slice A n cap, .int .i64 at_, .bool pl] w fun e w' => e = .returned (.int .i64 ((at_ + endL (okName pl isStart) (okName pl isMore) n (l.drop at_) : Nat))) ∧ Below w.heap.size w w' := by
  have HB0 := Lib.hid h
  have hln := Lib.hid h.length
  have HM := Lib.hid hm
  clear h
  go_enter Tryz.func89, Tryz.ntmps89
  go_wp2
  go_loopg [1, 7] (n - at_) (fun kx s1 s7 wr => ∃ (p K : Nat) (first : Bool), s1 = .int .i64 p ∧ s7 = .bool first ∧ p ≤ n ∧ kx = n - p ∧ n - p ≤ K ∧
    Hid (at_ + endL (okName pl isStart) (okName pl isMore) n (l.drop at_) = p + endL (okName pl (if first then isStart else isMore)) (okName pl isMore) K (l.drop p)) ∧ Hid (Below w.heap.size w wr))
  case atStart => exact ⟨at_, n, true, rfl, rfl, hat, rfl, by omega, Lib.hid rfl, Lib.hid (Below.refl _ _)⟩
  case round =>
    obtain ⟨p, K, first, rfl, rfl, hp, hk, hK, HE, HB⟩ := hrel
    by_cases hlt : p < n
    · have hlt' : (p : Int) < (n : Int) := by omega
      have hd := refDec_c A n cap l p wr w.heap.size (HB0.out.below HB.out) hlt hm
      cases hdec : dec (l.drop p) with
      | none =>
        rw [hdec] at hd
        have HD := Lib.hid hdec
        clear hdec
        cases first with
        | true =>
          go_wp2_with fail
          refine hd.mono ?_
          rintro e w1 ⟨rfl, hb1⟩
          have HB1 := Lib.hid (HB.out.trans (hb1.mono HB.out.size))
          clear hb1
          simp only [pairV]
          go_wp2_with fail
          refine (refMore_c _ _).mono ?_
          rintro e w2 ⟨rfl, rfl⟩
          go_wp2_with fail
          refine (refStart_c _ _).mono ?_
          rintro e w2 ⟨rfl, rfl⟩
          go_wp2
          go_ret
          exact ⟨by rw [HE.out, endL_none _ _ _ _ HD.out]; rfl, HB1.out⟩
        | false =>
          go_wp2_with fail
          refine hd.mono ?_
          rintro e w1 ⟨rfl, hb1⟩
          have HB1 := Lib.hid (HB.out.trans (hb1.mono HB.out.size))
          clear hb1
          simp only [pairV]
          go_wp2_with fail
          refine (refMore_c _ _).mono ?_
          rintro e w2 ⟨rfl, rfl⟩
          go_wp2
          go_ret
          exact ⟨by rw [HE.out, endL_none _ _ _ _ HD.out]; rfl, HB1.out⟩
      | some v =>
        obtain ⟨r, m⟩ := v
        rw [hdec] at hd
        have hle := dec_le _ r m hdec
        rw [List.length_drop, hln.out] at hle
        have HD := Lib.hid hdec
        clear hdec
        have hmz : ((m : Int) == 0) = false := by simp; omega
        cases first with
        | true =>
          have HE2 : Hid (at_ + endL (okName pl isStart) (okName pl isMore) n (l.drop at_) = p + endL (okName pl isStart) (okName pl isMore) K (l.drop p)) := Lib.hid (by simpa using HE.out)
          cases hf : isStart r with
          | false =>
            have HNO : Hid (okName pl isStart r = false) := Lib.hid (by unfold okName noColon; rw [hf]; simp)
            have hcs : ∀ w0 : World, Calls Tryz.prog 125 #[.int .i64 (r : Int)] w0 fun e w' => e = .returned (.bool false) ∧ w0 = w' := fun w0 => by
              have := refStart_c (r : Int) w0
              rwa [hf] at this
            clear hf
            go_wp2_with fail
            refine hd.mono ?_
            rintro e w1 ⟨rfl, hb1⟩
            have HB1 := Lib.hid (HB.out.trans (hb1.mono HB.out.size))
            clear hb1
            simp only [pairV]
            go_wp2_with fail
            refine (refMore_c _ _).mono ?_
            rintro e w2 ⟨rfl, rfl⟩
            go_wp2_with fail
            refine (hcs _).mono ?_
            rintro e w2 ⟨rfl, rfl⟩
            go_wp2
            go_ret
            exact ⟨by rw [HE2.out, endL_no _ _ _ _ _ _ HD.out HNO.out]; rfl, HB1.out⟩
          | true =>
            have hcs : ∀ w0 : World, Calls Tryz.prog 125 #[.int .i64 (r : Int)] w0 fun e w' => e = .returned (.bool true) ∧ w0 = w' := fun w0 => by
              have := refStart_c (r : Int) w0
              rwa [hf] at this
            cases pl with
            | false =>
              have HNO : Hid (okName false isStart r = true) := Lib.hid hf
              clear hf
              go_wp2_with fail
              refine hd.mono ?_
              rintro e w1 ⟨rfl, hb1⟩
              have HB1 := Lib.hid (HB.out.trans (hb1.mono HB.out.size))
              clear hb1
              simp only [pairV]
              go_wp2_with fail
              refine (refMore_c _ _).mono ?_
              rintro e w2 ⟨rfl, rfl⟩
              go_wp2_with fail
              refine (hcs _).mono ?_
              rintro e w2 ⟨rfl, rfl⟩
              go_wp2
              go_roundg (n - (p + m))
              case measure => omega
              case rel =>
                refine ⟨p + m, K - 1, false, rfl, rfl, by omega, rfl, by omega, Lib.hid ?_, HB1⟩
                have := endL_yes (okName false isStart) (okName false isMore) (K - 1) _ r m HD.out HNO.out
                rw [show K - 1 + 1 = K by omega, List.drop_drop] at this
                rw [HE2.out, this]
                show _ = p + m + endL (okName false isMore) (okName false isMore) (K - 1) (l.drop (p + m))
                omega
            | true =>
              by_cases h58 : r = 58
              · subst h58
                have HNO : Hid (okName true isStart (58 : Nat) = false) := Lib.hid (by unfold okName noColon; simp)
                clear hf
                go_wp2_with fail
                refine hd.mono ?_
                rintro e w1 ⟨rfl, hb1⟩
                have HB1 := Lib.hid (HB.out.trans (hb1.mono HB.out.size))
                clear hb1
                simp only [pairV]
                go_wp2_with fail
                refine (refMore_c _ _).mono ?_
                rintro e w2 ⟨rfl, rfl⟩
                go_wp2_with fail
                refine (hcs _).mono ?_
                rintro e w2 ⟨rfl, rfl⟩
                go_wp2
                go_ret
                exact ⟨by rw [HE2.out, endL_no _ _ _ _ _ _ HD.out HNO.out]; rfl, HB1.out⟩
              · have h5 : ((r : Int) == 58) = false := by simp; omega
                have HNO : Hid (okName true isStart r = true) := Lib.hid (by unfold okName noColon; rw [hf]; simp; omega)
                clear hf
                go_wp2_with fail
                refine hd.mono ?_
                rintro e w1 ⟨rfl, hb1⟩
                have HB1 := Lib.hid (HB.out.trans (hb1.mono HB.out.size))
                clear hb1
                simp only [pairV]
                go_wp2_with fail
                refine (refMore_c _ _).mono ?_
                rintro e w2 ⟨rfl, rfl⟩
                go_wp2_with fail
                refine (hcs _).mono ?_
                rintro e w2 ⟨rfl, rfl⟩
                go_wp2
                go_roundg (n - (p + m))
                case measure => omega
                case rel =>
                  refine ⟨p + m, K - 1, false, rfl, rfl, by omega, rfl, by omega, Lib.hid ?_, HB1⟩
                  have := endL_yes (okName true isStart) (okName true isMore) (K - 1) _ r m HD.out HNO.out
                  rw [show K - 1 + 1 = K by omega, List.drop_drop] at this
                  rw [HE2.out, this]
                  show _ = p + m + endL (okName true isMore) (okName true isMore) (K - 1) (l.drop (p + m))
                  omega
        | false =>
          have HE2 : Hid (at_ + endL (okName pl isStart) (okName pl isMore) n (l.drop at_) = p + endL (okName pl isMore) (okName pl isMore) K (l.drop p)) := Lib.hid (by simpa using HE.out)
          cases hf : isMore r with
          | false =>
            have HNO : Hid (okName pl isMore r = false) := Lib.hid (by unfold okName noColon; rw [hf]; simp)
            have hcs : ∀ w0 : World, Calls Tryz.prog 124 #[.int .i64 (r : Int)] w0 fun e w' => e = .returned (.bool false) ∧ w0 = w' := fun w0 => by
              have := refMore_c (r : Int) w0
              rwa [hf] at this
            clear hf
            go_wp2_with fail
            refine hd.mono ?_
            rintro e w1 ⟨rfl, hb1⟩
            have HB1 := Lib.hid (HB.out.trans (hb1.mono HB.out.size))
            clear hb1
            simp only [pairV]
            go_wp2_with fail
            refine (hcs _).mono ?_
            rintro e w2 ⟨rfl, rfl⟩
            go_wp2
            go_ret
            exact ⟨by rw [HE2.out, endL_no _ _ _ _ _ _ HD.out HNO.out]; rfl, HB1.out⟩
          | true =>
            have hcs : ∀ w0 : World, Calls Tryz.prog 124 #[.int .i64 (r : Int)] w0 fun e w' => e = .returned (.bool true) ∧ w0 = w' := fun w0 => by
              have := refMore_c (r : Int) w0
              rwa [hf] at this
            cases pl with
            | false =>
              have HNO : Hid (okName false isMore r = true) := Lib.hid hf
              clear hf
              go_wp2_with fail
              refine hd.mono ?_
              rintro e w1 ⟨rfl, hb1⟩
              have HB1 := Lib.hid (HB.out.trans (hb1.mono HB.out.size))
              clear hb1
              simp only [pairV]
              go_wp2_with fail
              refine (hcs _).mono ?_
              rintro e w2 ⟨rfl, rfl⟩
              go_wp2
              go_roundg (n - (p + m))
              case measure => omega
              case rel =>
                refine ⟨p + m, K - 1, false, rfl, rfl, by omega, rfl, by omega, Lib.hid ?_, HB1⟩
                have := endL_yes (okName false isMore) (okName false isMore) (K - 1) _ r m HD.out HNO.out
                rw [show K - 1 + 1 = K by omega, List.drop_drop] at this
                rw [HE2.out, this]
                show _ = p + m + endL (okName false isMore) (okName false isMore) (K - 1) (l.drop (p + m))
                omega
            | true =>
              by_cases h58 : r = 58
              · subst h58
                have HNO : Hid (okName true isMore (58 : Nat) = false) := Lib.hid (by unfold okName noColon; simp)
                clear hf
                go_wp2_with fail
                refine hd.mono ?_
                rintro e w1 ⟨rfl, hb1⟩
                have HB1 := Lib.hid (HB.out.trans (hb1.mono HB.out.size))
                clear hb1
                simp only [pairV]
                go_wp2_with fail
                refine (hcs _).mono ?_
                rintro e w2 ⟨rfl, rfl⟩
                go_wp2
                go_ret
                exact ⟨by rw [HE2.out, endL_no _ _ _ _ _ _ HD.out HNO.out]; rfl, HB1.out⟩
              · have h5 : ((r : Int) == 58) = false := by simp; omega
                have HNO : Hid (okName true isMore r = true) := Lib.hid (by unfold okName noColon; rw [hf]; simp; omega)
                clear hf
                go_wp2_with fail
                refine hd.mono ?_
                rintro e w1 ⟨rfl, hb1⟩
                have HB1 := Lib.hid (HB.out.trans (hb1.mono HB.out.size))
                clear hb1
                simp only [pairV]
                go_wp2_with fail
                refine (hcs _).mono ?_
                rintro e w2 ⟨rfl, rfl⟩
                go_wp2
                go_roundg (n - (p + m))
                case measure => omega
                case rel =>
                  refine ⟨p + m, K - 1, false, rfl, rfl, by omega, rfl, by omega, Lib.hid ?_, HB1⟩
                  have := endL_yes (okName true isMore) (okName true isMore) (K - 1) _ r m HD.out HNO.out
                  rw [show K - 1 + 1 = K by omega, List.drop_drop] at this
                  rw [HE2.out, this]
                  show _ = p + m + endL (okName true isMore) (okName true isMore) (K - 1) (l.drop (p + m))
                  omega
    · obtain rfl : p = n := by omega
      go_wp2
      go_ret
      refine ⟨?_, HB.out⟩
      rw [HE.out, List.drop_of_length_le (by rw [hln.out]; exact Nat.le_refl _), endL_none _ _ _ _ (by rfl)]
      rfl
end Go.Proofs.YtmclngahdklfkaaGreatDoor
/- The document's names: read. -/
namespace Go.Proofs.YtmclngahdklfkaaGreatDoor
open Go.ChangeShapes Go.WideShapes Go.ChangeAt Go.RowKit
set_option linter.unusedVariables false
theorem okTrue (f : Int → Bool) : okName true f = noColon f := by funext r; simp [okName]
set_option maxRecDepth 100000 in
set_option maxHeartbeats 2000000 in
theorem refRead_c (A : Option Addr) (n cap : Nat) (l : List UInt8) (at_ : Nat) (w : World) (h : Byt w w.heap.size A n cap l) (hm : n ≤ 50000) (hat : at_ ≤ n) :
    Calls Tryz.prog 69 #[.slice A n cap, .int .i64 at_, .bool true] w fun e w' => e = .returned (outV (plainOut l at_)) ∧ Below w.heap.size w w' := by
  have hln := h.length
  have hend := refEnd_c true A n cap l at_ w h hm hat
  rw [okTrue, okTrue] at hend
  have hkl : at_ + endL (noColon isStart) (noColon isMore) n (l.drop at_) ≤ n := by
    have := endL_le n (noColon isStart) (noColon isMore) (l.drop at_)
    rw [List.length_drop, hln] at this
    omega
  have HB := Lib.hid h
  have HE : Hid (endL (noColon isStart) (noColon isMore) l.length (l.drop at_) = endL (noColon isStart) (noColon isMore) n (l.drop at_)) := Lib.hid (by rw [hln])
  clear h hln
  unfold plainOut
  simp only [HE.out]
  generalize endL (noColon isStart) (noColon isMore) n (l.drop at_) = k at *
  have hat' : ¬ (n : Int) < (at_ : Int) := by omega
  have HM := Lib.hid (And.intro hm hat)
  have HN := Lib.hid hend
  clear hm hend
  generalize hres : (if k = 0 then ([], 0, 7) else if 1024 < k then ([], 0, 11) else ((l.drop at_).take k, at_ + k, 0)) = res
  have HR := Lib.hid hres
  clear hres
  go_enter Tryz.func69, Tryz.ntmps69
  go_wp2_with fail
  refine HN.out.mono ?_
  rintro e w1 ⟨rfl, hb1⟩
  have HB1 := Lib.hid hb1
  clear hb1
  rcases (show k = 0 ∨ 1024 < k ∨ (0 < k ∧ k ≤ 1024) by omega) with h0 | h0 | h0
  · subst h0
    have hre := HR.out
    simp only [if_true] at hre
    subst hre
    go_wp2
    go_ret3
    exact ⟨rfl, HB1.out⟩
  · have hre := HR.out
    rw [if_neg (by omega), if_pos h0] at hre
    subst hre
    have hne : (((at_ + k : Nat) : Int) == (at_ : Int)) = false := by simp; omega
    have hne2 : ((at_ : Int) + (k : Int) == (at_ : Int)) = false := by simp; omega
    have h0' : (1024 : Int) < (k : Int) := by omega
    have hsb : ((at_ : Int) + (k : Int)) - (at_ : Int) = (k : Int) := by omega
    have hw : IntKind.i64.wrap (k : Int) = (k : Int) := by rw [IntKind.wrap_i64]; have := HM.out; omega
    go_wp2
    go_ret3
    exact ⟨rfl, HB1.out⟩
  · have hre := HR.out
    rw [if_neg (by omega), if_neg (by omega)] at hre
    subst hre
    have hne : (((at_ + k : Nat) : Int) == (at_ : Int)) = false := by simp; omega
    have hne2 : ((at_ : Int) + (k : Int) == (at_ : Int)) = false := by simp; omega
    have h0' : ¬ (1024 : Int) < (k : Int) := by omega
    have hsb : ((at_ : Int) + (k : Int)) - (at_ : Int) = (k : Int) := by omega
    have hw : IntKind.i64.wrap (k : Int) = (k : Int) := by rw [IntKind.wrap_i64]; have := HM.out; omega
    have hy := ((HB.out.below HB1.out).drop hat).take (k := k) (by omega)
    have hstr := hy.str
    have hcap := HB.out.le
    have hrf : ∀ w2 : World, (Instr.slice 22 (.slice A n cap) (some (.int .i64 (at_ : Int))) (some (.int .i64 ((at_ : Int) + (k : Int)))) none).run Tryz.prog w2 = .ok (.slice (cutA A cap at_) k (cap - at_)) w2 := fun w2 => by
      have := run_fromTo (w := w2) A n cap at_ (at_ + k) (by omega) (by omega)
      rw [show at_ + k - at_ = k by omega, show ((at_ + k : Nat) : Int) = (at_ : Int) + (k : Int) by omega] at this
      exact this
    have HY := Lib.hid hy
    clear hy hcap h0
    go_wp2
    go_ret3
    exact ⟨rfl, HB1.out⟩
end Go.Proofs.YtmclngahdklfkaaGreatDoor
/- The document's references by a mark. -/
namespace Go.Proofs.YtmclngahdklfkaaGreatDoor
open Go.ChangeShapes Go.WideShapes Go.ChangeAt Go.RowKit
set_option linter.unusedVariables false
set_option maxRecDepth 100000 in
set_option maxHeartbeats 2000000 in
theorem refEntity_range (A : Option Addr) (n cap : Nat) (at_ : Int) (mark : Int) (w : World) (ha : at_ < 0 ∨ (n : Int) < at_) :
    Calls Tryz.prog 37 #[.slice A n cap, .int .i64 at_, .int .u8 mark] w fun e w' => e = .returned (outV ([], 0, 3)) ∧ Below w.heap.size w w' := by
  by_cases h0 : at_ < 0
  · have hd : decide (at_ < 0) = true := by simpa using h0
    clear ha
    go_enter Tryz.func37, Tryz.ntmps37
    go_wp2
    go_ret3
    exact ⟨rfl, Below.refl _ _⟩
  · have h1 : (n : Int) < at_ := by omega
    clear ha
    go_enter Tryz.func37, Tryz.ntmps37
    go_wp2
    go_ret3
    exact ⟨rfl, Below.refl _ _⟩
set_option maxRecDepth 100000 in
set_option maxHeartbeats 2000000 in
theorem refEntity_c (A : Option Addr) (n cap : Nat) (l : List UInt8) (at_ : Nat) (mark : UInt8) (w : World) (h : Byt w w.heap.size A n cap l) (hm : n ≤ 50000) (hat : at_ ≤ n) :
    Calls Tryz.prog 37 #[.slice A n cap, .int .i64 at_, .int .u8 mark.toNat] w fun e w' => e = .returned (outV (refOut mark l at_)) ∧ Below w.heap.size w w' := by
  have hln := h.length
  have hat' : ¬ (n : Int) < (at_ : Int) := by omega
  have hap : IntKind.i64.wrap ((at_ : Int) + 1) = (at_ : Int) + 1 := by rw [IntKind.wrap_i64]; omega
  by_cases he : at_ = n
  · subst he
    have hr : refOut mark l at_ = ([], 0, 7) := by unfold refOut; rw [List.getElem?_eq_none (by omega)]
    rw [hr]
    clear h hm hr hat hat'
    go_enter Tryz.func37, Tryz.ntmps37
    go_wp2
    go_ret3
    exact ⟨rfl, Below.refl _ _⟩
  · have hlt : at_ < n := by omega
    obtain ⟨b, o, c, rfl, hb, hc, hcell⟩ := h.cell hlt
    have hne : ((at_ : Int) == (n : Int)) = false := by simp; omega
    have hli : (at_ : Int) < (n : Int) := by omega
    by_cases hcm : c = mark
    · subst hcm
      have hp := refRead_c (some ⟨b, o, none⟩) n cap l (at_ + 1) w h (by omega) (by omega)
      rw [show ((at_ + 1 : Nat) : Int) = (at_ : Int) + 1 by omega] at hp
      have hle := plainOut_le l (at_ + 1) (by omega)
      have HR : Hid (refOut c l at_ = if (plainOut l (at_ + 1)).2.2 ≠ 0 then ([], 0, (plainOut l (at_ + 1)).2.2)
       else match l[(plainOut l (at_ + 1)).2.1]? with
        | some d => if d = 59 then ((plainOut l (at_ + 1)).1, (plainOut l (at_ + 1)).2.1 + 1, 0) else ([], 0, 7)
        | none => ([], 0, 7)) := Lib.hid (by unfold refOut; rw [hc]; exact if_pos rfl)
      have HH := Lib.hid (And.intro h (And.intro hm hln))
      clear hm hat hat' he hc hb
      generalize plainOut l (at_ + 1) = res at *
      obtain ⟨s, k, f⟩ := res
      simp only at hle HR
      have HP := Lib.hid hp
      have hp' := hp
      unfold outV at hp' ⊢
      simp only at hp'
      clear hp
      have hcm : ((c.toNat : Int) != (c.toNat : Int)) = false := by simp
      by_cases hf : f = 0
      · subst hf
        have hle := hle rfl
        by_cases hk : k = n
        · subst hk
          have hre : refOut c l at_ = ([], 0, 7) := by rw [HR.out, if_neg (by simp), List.getElem?_eq_none (by rw [HH.out.2.2]; exact Nat.le_refl _)]
          rw [hre]
          clear hre h
          go_enter Tryz.func37, Tryz.ntmps37
          go_wp2_with fail
          refine hp'.mono ?_
          rintro e w1 ⟨rfl, hb1⟩
          have HB := Lib.hid hb1
          clear hb1 hcell hp'
          go_wp2
          go_ret3
          exact ⟨rfl, HB.out⟩
        · obtain ⟨b', o', d, e, hb', hd, hcd⟩ := h.cell (i := k) (by omega)
          cases e
          have hkn : (k : Int) < (n : Int) := by omega
          have hkne : ((k : Int) == (n : Int)) = false := by simp; omega
          have hre : refOut c l at_ = if d = 59 then (s, k + 1, 0) else ([], 0, 7) := by rw [HR.out, if_neg (by simp), hd]
          have hkp : IntKind.i64.wrap ((k : Int) + 1) = (k : Int) + 1 := by rw [IntKind.wrap_i64]; have := HH.out; omega
          by_cases hd59 : d = 59
          · subst hd59
            rw [hre, if_pos rfl]
            have hcd' : ∀ w1, Below w.heap.size w w1 → w1.cell? ⟨b, o + k, none⟩ = some (.int .u8 59) := fun w1 hb1 => by rw [hb1.cell hb']; exact hcd
            have HCD := Lib.hid hcd'
            clear hre h hcd hcd' hd
            go_enter Tryz.func37, Tryz.ntmps37
            go_wp2_with fail
            refine hp'.mono ?_
            rintro e w1 ⟨rfl, hb1⟩
            have hcz := HCD.out w1 hb1
            have HB := Lib.hid hb1
            clear hb1 hcell hp'
            go_wp2
            go_ret3
            exact ⟨rfl, HB.out⟩
          · rw [hre, if_neg hd59]
            have hcd' : ∀ w1, Below w.heap.size w w1 → w1.cell? ⟨b, o + k, none⟩ = some (.int .u8 d.toNat) := fun w1 hb1 => by rw [hb1.cell hb']; exact hcd
            have HCD := Lib.hid hcd'
            have hdn : ((d.toNat : Int) != 59) = true := by
              have := toNat_eq d 59
              simp only [show ((59 : UInt8).toNat : Int) = 59 from rfl] at this
              simp [bne, this, hd59]
            generalize d.toNat = dn at *
            clear hre h hcd hcd' hd
            go_enter Tryz.func37, Tryz.ntmps37
            go_wp2_with fail
            refine hp'.mono ?_
            rintro e w1 ⟨rfl, hb1⟩
            have hcz := HCD.out w1 hb1
            have HB := Lib.hid hb1
            clear hb1 hcell hp'
            go_wp2
            go_ret3
            exact ⟨rfl, HB.out⟩
      · have hre : refOut c l at_ = ([], 0, f) := by rw [HR.out, if_pos hf]
        rw [hre]
        have hfz : ((f : Int) != 0) = true := by simp; omega
        have hfz2 : ((f : Int) == 0) = false := by simp; omega
        clear hre h hle
        go_enter Tryz.func37, Tryz.ntmps37
        go_wp2_with fail
        refine hp'.mono ?_
        rintro e w1 ⟨rfl, hb1⟩
        have HB := Lib.hid hb1
        clear hb1 hcell hp'
        go_wp2
        go_ret3
        exact ⟨rfl, HB.out⟩
    · have hr : refOut mark l at_ = ([], 0, 7) := by unfold refOut; rw [hc]; simp [hcm]
      rw [hr]
      have hcm' : ((c.toNat : Int) != (mark.toNat : Int)) = true := by rw [bne, toNat_eq]; simp [hcm]
      generalize c.toNat = cn at *
      generalize mark.toNat = mn at *
      clear h hm hr hat hat'
      go_enter Tryz.func37, Tryz.ntmps37
      go_wp2
      go_ret3
      exact ⟨rfl, Below.refl _ _⟩
end Go.Proofs.YtmclngahdklfkaaGreatDoor
/- References to entities at any place. -/
namespace Go.Proofs.YtmclngahdklfkaaGreatDoor
open Go.ChangeShapes Go.WideShapes Go.ChangeAt Go.RowKit
set_option linter.unusedVariables false
set_option maxHeartbeats 2000000 in
theorem crefEntity_call (A : Option Addr) (n cap : Nat) (at_ : Int) (w : World) (v : List UInt8 × Nat × Nat)
    (h : Calls Tryz.prog 101 #[.slice A n cap, .int .i64 at_, .int .u8 38] w fun e w' => e = .returned (outV v) ∧ Below w.heap.size w w') :
    Calls Tryz.prog 67 #[.slice A n cap, .int .i64 at_] w fun e w' => e = .returned (outV v) ∧ Below w.heap.size w w' := by
  unfold outV at *
  go_enter Tryz.func67, Tryz.ntmps67
  go_wp2_with fail
  refine h.mono ?_
  rintro e w1 ⟨rfl, hb⟩
  have HB := Lib.hid hb
  clear hb h
  go_wp2
  go_ret3
  exact ⟨rfl, HB.out⟩
/-- What is read of a reference at any place. -/
def refAt (mark : UInt8) (l : List UInt8) (at_ : Int) : List UInt8 × Nat × Nat := if at_ < 0 ∨ (l.length : Int) < at_ then ([], 0, 3) else refOut mark l at_.toNat
theorem crefEntity_c (A : Option Addr) (n cap : Nat) (l : List UInt8) (at_ : Int) (w : World) (h : Byt w w.heap.size A n cap l) (hF : Forms w) (hT : Tabs w) (hm : n ≤ 50000) :
    Calls Tryz.prog 67 #[.slice A n cap, .int .i64 at_] w fun e w' => e = .returned (outV (refAt 38 l at_)) ∧ Below w.heap.size w w' := by
  refine crefEntity_call A n cap at_ w _ ?_
  have hl := h.length
  unfold refAt
  rw [hl]
  by_cases ha : at_ < 0 ∨ (n : Int) < at_
  · rw [if_pos ha]; exact crefRead_range A n cap at_ 38 w ha
  · rw [if_neg ha]
    have := crefRead_c A n cap l at_.toNat 38 w h hF hT hm (by omega)
    rwa [show ((at_.toNat : Nat) : Int) = at_ by omega] at this
theorem refEntityAt_c (A : Option Addr) (n cap : Nat) (l : List UInt8) (at_ : Int) (mark : UInt8) (w : World) (h : Byt w w.heap.size A n cap l) (hm : n ≤ 50000) :
    Calls Tryz.prog 37 #[.slice A n cap, .int .i64 at_, .int .u8 mark.toNat] w fun e w' => e = .returned (outV (refAt mark l at_)) ∧ Below w.heap.size w w' := by
  have hl := h.length
  unfold refAt
  rw [hl]
  by_cases ha : at_ < 0 ∨ (n : Int) < at_
  · rw [if_pos ha]; exact refEntity_range A n cap at_ mark.toNat w ha
  · rw [if_neg ha]
    have := refEntity_c A n cap l at_.toNat mark w h hm (by omega)
    rwa [show ((at_.toNat : Nat) : Int) = at_ by omega] at this
end Go.Proofs.YtmclngahdklfkaaGreatDoor
/- Digits. -/
namespace Go.Proofs.YtmclngahdklfkaaGreatDoor
open Go.ChangeShapes Go.WideShapes Go.ChangeAt Go.RowKit
set_option linter.unusedVariables false
/-- What a digit says to a base. -/
def digit (b : Int) (r : Int) : Int :=
  if 48 ≤ r ∧ r ≤ 57 then r - 48 else if 97 ≤ r ∧ r ≤ 102 then (if b = 16 then r - 87 else -1) else if 65 ≤ r ∧ r ≤ 70 then (if b = 16 then r - 55 else -1) else -1
set_option maxRecDepth 100000 in
set_option maxHeartbeats 4000000 in
theorem digit10_c (r : Int) (w : World) : Calls Tryz.prog 100 #[.int .i64 r, .int .i64 10] w fun e w' => e = .returned (.int .i64 (digit 10 r)) ∧ w = w' := by
  rcases (show r ≤ 47 ∨ (48 ≤ r ∧ r ≤ 57) ∨ (58 ≤ r ∧ r ≤ 64) ∨ (65 ≤ r ∧ r ≤ 70) ∨ (71 ≤ r ∧ r ≤ 96) ∨ (97 ≤ r ∧ r ≤ 102) ∨ 103 ≤ r by omega) with h | h | h | h | h | h | h
  · have e : digit 10 r = -1 := by unfold digit; (repeat' split) <;> omega
    rw [e]
    have a0 : decide (48 ≤ r) = false := by simp; omega
    have a1 : decide (r ≤ 57) = true := by simp; omega
    have a2 : decide (97 ≤ r) = false := by simp; omega
    have a3 : decide (r ≤ 102) = true := by simp; omega
    have a4 : decide (65 ≤ r) = false := by simp; omega
    have a5 : decide (r ≤ 70) = true := by simp; omega
    clear e h
    go_enter Tryz.func100, Tryz.ntmps100
    go_wp2
    go_ret
    exact ⟨rfl, rfl⟩
  · have e : digit 10 r = r - 48 := by unfold digit; (repeat' split) <;> omega
    rw [e]
    have a0 : decide (48 ≤ r) = true := by simp; omega
    have a1 : decide (r ≤ 57) = true := by simp; omega
    have a2 : decide (97 ≤ r) = false := by simp; omega
    have a3 : decide (r ≤ 102) = true := by simp; omega
    have a4 : decide (65 ≤ r) = false := by simp; omega
    have a5 : decide (r ≤ 70) = true := by simp; omega
    have b0 : decide (10 ≤ r - 48) = false := by simp; omega
    have c0 : -1000 ≤ r ∧ r ≤ 1000 := by omega
    obtain ⟨c1, c2⟩ := c0
    clear e h
    go_enter Tryz.func100, Tryz.ntmps100
    go_wp2
    go_ret
    exact ⟨rfl, rfl⟩
  · have e : digit 10 r = -1 := by unfold digit; (repeat' split) <;> omega
    rw [e]
    have a0 : decide (48 ≤ r) = true := by simp; omega
    have a1 : decide (r ≤ 57) = false := by simp; omega
    have a2 : decide (97 ≤ r) = false := by simp; omega
    have a3 : decide (r ≤ 102) = true := by simp; omega
    have a4 : decide (65 ≤ r) = false := by simp; omega
    have a5 : decide (r ≤ 70) = true := by simp; omega
    clear e h
    go_enter Tryz.func100, Tryz.ntmps100
    go_wp2
    go_ret
    exact ⟨rfl, rfl⟩
  · have e : digit 10 r = -1 := by unfold digit; (repeat' split) <;> omega
    rw [e]
    have a0 : decide (48 ≤ r) = true := by simp; omega
    have a1 : decide (r ≤ 57) = false := by simp; omega
    have a2 : decide (97 ≤ r) = false := by simp; omega
    have a3 : decide (r ≤ 102) = true := by simp; omega
    have a4 : decide (65 ≤ r) = true := by simp; omega
    have a5 : decide (r ≤ 70) = true := by simp; omega
    have b0 : decide (10 ≤ r - 65 + 10) = true := by simp; omega
    have c0 : -1000 ≤ r ∧ r ≤ 1000 := by omega
    obtain ⟨c1, c2⟩ := c0
    clear e h
    go_enter Tryz.func100, Tryz.ntmps100
    go_wp2
    go_ret
    exact ⟨rfl, rfl⟩
  · have e : digit 10 r = -1 := by unfold digit; (repeat' split) <;> omega
    rw [e]
    have a0 : decide (48 ≤ r) = true := by simp; omega
    have a1 : decide (r ≤ 57) = false := by simp; omega
    have a2 : decide (97 ≤ r) = false := by simp; omega
    have a3 : decide (r ≤ 102) = true := by simp; omega
    have a4 : decide (65 ≤ r) = true := by simp; omega
    have a5 : decide (r ≤ 70) = false := by simp; omega
    clear e h
    go_enter Tryz.func100, Tryz.ntmps100
    go_wp2
    go_ret
    exact ⟨rfl, rfl⟩
  · have e : digit 10 r = -1 := by unfold digit; (repeat' split) <;> omega
    rw [e]
    have a0 : decide (48 ≤ r) = true := by simp; omega
    have a1 : decide (r ≤ 57) = false := by simp; omega
    have a2 : decide (97 ≤ r) = true := by simp; omega
    have a3 : decide (r ≤ 102) = true := by simp; omega
    have a4 : decide (65 ≤ r) = true := by simp; omega
    have a5 : decide (r ≤ 70) = false := by simp; omega
    have b0 : decide (10 ≤ r - 97 + 10) = true := by simp; omega
    have c0 : -1000 ≤ r ∧ r ≤ 1000 := by omega
    obtain ⟨c1, c2⟩ := c0
    clear e h
    go_enter Tryz.func100, Tryz.ntmps100
    go_wp2
    go_ret
    exact ⟨rfl, rfl⟩
  · have e : digit 10 r = -1 := by unfold digit; (repeat' split) <;> omega
    rw [e]
    have a0 : decide (48 ≤ r) = true := by simp; omega
    have a1 : decide (r ≤ 57) = false := by simp; omega
    have a2 : decide (97 ≤ r) = true := by simp; omega
    have a3 : decide (r ≤ 102) = false := by simp; omega
    have a4 : decide (65 ≤ r) = true := by simp; omega
    have a5 : decide (r ≤ 70) = false := by simp; omega
    clear e h
    go_enter Tryz.func100, Tryz.ntmps100
    go_wp2
    go_ret
    exact ⟨rfl, rfl⟩
set_option maxRecDepth 100000 in
set_option maxHeartbeats 4000000 in
theorem digit16_c (r : Int) (w : World) : Calls Tryz.prog 100 #[.int .i64 r, .int .i64 16] w fun e w' => e = .returned (.int .i64 (digit 16 r)) ∧ w = w' := by
  rcases (show r ≤ 47 ∨ (48 ≤ r ∧ r ≤ 57) ∨ (58 ≤ r ∧ r ≤ 64) ∨ (65 ≤ r ∧ r ≤ 70) ∨ (71 ≤ r ∧ r ≤ 96) ∨ (97 ≤ r ∧ r ≤ 102) ∨ 103 ≤ r by omega) with h | h | h | h | h | h | h
  · have e : digit 16 r = -1 := by unfold digit; (repeat' split) <;> omega
    rw [e]
    have a0 : decide (48 ≤ r) = false := by simp; omega
    have a1 : decide (r ≤ 57) = true := by simp; omega
    have a2 : decide (97 ≤ r) = false := by simp; omega
    have a3 : decide (r ≤ 102) = true := by simp; omega
    have a4 : decide (65 ≤ r) = false := by simp; omega
    have a5 : decide (r ≤ 70) = true := by simp; omega
    clear e h
    go_enter Tryz.func100, Tryz.ntmps100
    go_wp2
    go_ret
    exact ⟨rfl, rfl⟩
  · have e : digit 16 r = r - 48 := by unfold digit; (repeat' split) <;> omega
    rw [e]
    have a0 : decide (48 ≤ r) = true := by simp; omega
    have a1 : decide (r ≤ 57) = true := by simp; omega
    have a2 : decide (97 ≤ r) = false := by simp; omega
    have a3 : decide (r ≤ 102) = true := by simp; omega
    have a4 : decide (65 ≤ r) = false := by simp; omega
    have a5 : decide (r ≤ 70) = true := by simp; omega
    have b0 : decide (16 ≤ r - 48) = false := by simp; omega
    have c0 : -1000 ≤ r ∧ r ≤ 1000 := by omega
    obtain ⟨c1, c2⟩ := c0
    clear e h
    go_enter Tryz.func100, Tryz.ntmps100
    go_wp2
    go_ret
    exact ⟨rfl, rfl⟩
  · have e : digit 16 r = -1 := by unfold digit; (repeat' split) <;> omega
    rw [e]
    have a0 : decide (48 ≤ r) = true := by simp; omega
    have a1 : decide (r ≤ 57) = false := by simp; omega
    have a2 : decide (97 ≤ r) = false := by simp; omega
    have a3 : decide (r ≤ 102) = true := by simp; omega
    have a4 : decide (65 ≤ r) = false := by simp; omega
    have a5 : decide (r ≤ 70) = true := by simp; omega
    clear e h
    go_enter Tryz.func100, Tryz.ntmps100
    go_wp2
    go_ret
    exact ⟨rfl, rfl⟩
  · have e : digit 16 r = r - 55 := by unfold digit; (repeat' split) <;> omega
    rw [e]
    have a0 : decide (48 ≤ r) = true := by simp; omega
    have a1 : decide (r ≤ 57) = false := by simp; omega
    have a2 : decide (97 ≤ r) = false := by simp; omega
    have a3 : decide (r ≤ 102) = true := by simp; omega
    have a4 : decide (65 ≤ r) = true := by simp; omega
    have a5 : decide (r ≤ 70) = true := by simp; omega
    have b0 : decide (16 ≤ r - 65 + 10) = false := by simp; omega
    have c0 : -1000 ≤ r ∧ r ≤ 1000 := by omega
    obtain ⟨c1, c2⟩ := c0
    clear e h
    go_enter Tryz.func100, Tryz.ntmps100
    go_wp2
    go_ret
    exact ⟨by rw [show r - 55 = r - 65 + 10 by omega]; rfl, rfl⟩
  · have e : digit 16 r = -1 := by unfold digit; (repeat' split) <;> omega
    rw [e]
    have a0 : decide (48 ≤ r) = true := by simp; omega
    have a1 : decide (r ≤ 57) = false := by simp; omega
    have a2 : decide (97 ≤ r) = false := by simp; omega
    have a3 : decide (r ≤ 102) = true := by simp; omega
    have a4 : decide (65 ≤ r) = true := by simp; omega
    have a5 : decide (r ≤ 70) = false := by simp; omega
    clear e h
    go_enter Tryz.func100, Tryz.ntmps100
    go_wp2
    go_ret
    exact ⟨rfl, rfl⟩
  · have e : digit 16 r = r - 87 := by unfold digit; (repeat' split) <;> omega
    rw [e]
    have a0 : decide (48 ≤ r) = true := by simp; omega
    have a1 : decide (r ≤ 57) = false := by simp; omega
    have a2 : decide (97 ≤ r) = true := by simp; omega
    have a3 : decide (r ≤ 102) = true := by simp; omega
    have a4 : decide (65 ≤ r) = true := by simp; omega
    have a5 : decide (r ≤ 70) = false := by simp; omega
    have b0 : decide (16 ≤ r - 97 + 10) = false := by simp; omega
    have c0 : -1000 ≤ r ∧ r ≤ 1000 := by omega
    obtain ⟨c1, c2⟩ := c0
    clear e h
    go_enter Tryz.func100, Tryz.ntmps100
    go_wp2
    go_ret
    exact ⟨by rw [show r - 87 = r - 97 + 10 by omega]; rfl, rfl⟩
  · have e : digit 16 r = -1 := by unfold digit; (repeat' split) <;> omega
    rw [e]
    have a0 : decide (48 ≤ r) = true := by simp; omega
    have a1 : decide (r ≤ 57) = false := by simp; omega
    have a2 : decide (97 ≤ r) = true := by simp; omega
    have a3 : decide (r ≤ 102) = false := by simp; omega
    have a4 : decide (65 ≤ r) = true := by simp; omega
    have a5 : decide (r ≤ 70) = false := by simp; omega
    clear e h
    go_enter Tryz.func100, Tryz.ntmps100
    go_wp2
    go_ret
    exact ⟨rfl, rfl⟩
end Go.Proofs.YtmclngahdklfkaaGreatDoor
/- Numbers in references to characters: plain law. -/
namespace Go.Proofs.YtmclngahdklfkaaGreatDoor
open Go.ChangeShapes Go.WideShapes Go.ChangeAt Go.RowKit
set_option linter.unusedVariables false
theorem digit_lt (b : Int) (hb : b = 10 ∨ b = 16) (r : Int) : digit b r < b ∧ -1 ≤ digit b r := by
  unfold digit
  rcases hb with rfl | rfl <;> (repeat' split) <;> omega
/-- The digits that bytes begin with. -/
def digs (b : Int) : List UInt8 → List UInt8
  | [] => []
  | c :: t => if 0 ≤ digit b c.toNat then c :: digs b t else []
theorem digs_le (b : Int) (l : List UInt8) : (digs b l).length ≤ l.length := by
  induction l with
  | nil => simp [digs]
  | cons c t ih => unfold digs; split <;> simp <;> omega
theorem digs_mem (b : Int) (l : List UInt8) : ∀ c ∈ digs b l, 0 ≤ digit b c.toNat := by
  induction l with
  | nil => simp [digs]
  | cons c t ih => 
    intro d hd
    unfold digs at hd
    split at hd
    · rcases List.mem_cons.1 hd with rfl | hd
      · assumption
      · exact ih d hd
    · simp at hd
/-- The byte at a place among the digits is one; the one behind them is none. -/
theorem digs_at (b : Int) (l : List UInt8) (k : Nat) (c : UInt8) (hk : k ≤ (digs b l).length) (hc : l[k]? = some c) : k < (digs b l).length ↔ 0 ≤ digit b c.toNat := by
  induction l generalizing k with
  | nil => simp at hc
  | cons d t ih =>
    unfold digs at hk ⊢
    cases k with
    | zero =>
      simp at hc
      subst hc
      split <;> simp_all
    | succ k =>
      split at hk
      · rename_i h
        rw [if_pos h]
        simp only [List.length_cons, Nat.add_lt_add_iff_right]
        exact ih k (by simpa using hk) (by simpa using hc)
      · simp at hk
theorem digs_take (b : Int) (l : List UInt8) : digs b l = l.take (digs b l).length := by
  induction l with
  | nil => simp [digs]
  | cons c t ih =>
    unfold digs
    split
    · simp only [List.length_cons, List.take_succ_cons]; rw [← ih]
    · simp
/-- The number of digits, no more than cap. -/
def numC (b cap : Int) (l : List UInt8) : Int := l.foldl (fun r c => min (r * b + digit b c.toNat) cap) 0
theorem numC_snoc (b cap : Int) (l : List UInt8) (c : UInt8) : numC b cap (l ++ [c]) = min (numC b cap l * b + digit b c.toNat) cap := by simp [numC]
/-- The number of digits. -/
def numU (b : Int) (l : List UInt8) : Int := l.foldl (fun r c => r * b + digit b c.toNat) 0
theorem numU_snoc (b : Int) (l : List UInt8) (c : UInt8) : numU b (l ++ [c]) = numU b l * b + digit b c.toNat := by simp [numU]
theorem numU_nonneg (b : Int) (hb : 1 ≤ b) (l : List UInt8) : (∀ c ∈ l, 0 ≤ digit b c.toNat) → 0 ≤ numU b l := by
  refine snoc_induction (P := fun l => (∀ c ∈ l, 0 ≤ digit b c.toNat) → 0 ≤ numU b l) ?_ ?_ l
  · intro _; simp [numU]
  · intro l x ih h
    rw [numU_snoc]
    have h1 := ih fun c hc => h c (List.mem_append_left _ hc)
    have h2 := h x (by simp)
    have h3 : 0 ≤ numU b l * b := Int.mul_nonneg h1 (by omega)
    omega
theorem numC_eq (b cap : Int) (hb : 1 ≤ b) (hc : 0 ≤ cap) (l : List UInt8) : (∀ c ∈ l, 0 ≤ digit b c.toNat) → numC b cap l = min (numU b l) cap := by
  refine snoc_induction (P := fun l => (∀ c ∈ l, 0 ≤ digit b c.toNat) → numC b cap l = min (numU b l) cap) ?_ ?_ l
  · intro _; simp only [numC, numU, List.foldl_nil]; omega
  · intro l x ih h
    have h1 := ih fun c hc => h c (List.mem_append_left _ hc)
    have h2 := h x (by simp)
    have h3 := numU_nonneg b hb l fun c hc => h c (List.mem_append_left _ hc)
    rw [numC_snoc, numU_snoc, h1]
    by_cases hle : numU b l ≤ cap
    · rw [Int.min_eq_left hle]
    · rw [Int.min_eq_right (by omega : cap ≤ numU b l)]
      have e1 : cap * 1 ≤ cap * b := Int.mul_le_mul_of_nonneg_left hb hc
      have e2 : numU b l * 1 ≤ numU b l * b := Int.mul_le_mul_of_nonneg_left hb h3
      rw [Int.min_eq_right (by omega : cap ≤ cap * b + _), Int.min_eq_right (by omega : cap ≤ numU b l * b + _)]
theorem numC_le (b cap : Int) (hc : 0 ≤ cap) (l : List UInt8) : numC b cap l ≤ cap := by
  refine snoc_induction (P := fun l => numC b cap l ≤ cap) (by simpa [numC] using hc) (fun l x ih => ?_) l
  rw [numC_snoc]; exact Int.min_le_right _ _
theorem numC_nonneg (b cap : Int) (hb : 1 ≤ b) (hc : 0 ≤ cap) (l : List UInt8) (h : ∀ c ∈ l, 0 ≤ digit b c.toNat) : 0 ≤ numC b cap l := by
  rw [numC_eq b cap hb hc l h]
  have := numU_nonneg b hb l h
  omega
/-- A cap above all characters changes neither which number is a character nor the character. -/
theorem cap_doc (b cap : Int) (hb : 1 ≤ b) (hc : 1114111 < cap) (l : List UInt8) (h : ∀ c ∈ l, 0 ≤ digit b c.toNat) : isDoc (numC b cap l) = isDoc (numU b l) ∧ (isDoc (numU b l) = true → numC b cap l = numU b l) := by
  rw [numC_eq b cap hb (by omega) l h]
  by_cases hle : numU b l ≤ cap
  · rw [Int.min_eq_left hle]; exact ⟨rfl, fun _ => rfl⟩
  · rw [Int.min_eq_right (by omega : cap ≤ numU b l)]
    have e1 : isDoc cap = false := by rw [Bool.eq_false_iff, Ne, isDoc_iff]; omega
    have e2 : isDoc (numU b l) = false := by rw [Bool.eq_false_iff, Ne, isDoc_iff]; omega
    exact ⟨by rw [e1, e2], fun h => by rw [e2] at h; cases h⟩
/-- What is read of a reference to a character: the number, the place behind, the fault. -/
def charBody (b : Int) (cap : Int) (l : List UInt8) (from_ : Nat) : Int × Nat × Nat :=
  let ds := digs b (l.drop from_)
  if ds.length = 0 ∨ l[from_ + ds.length]? ≠ some 59 then (0, 0, 7)
  else if isDoc (numC b cap ds) = true then (numC b cap ds, from_ + ds.length + 1, 0) else (0, 0, 6)
def charOut (l : List UInt8) (at_ : Nat) : Int × Nat × Nat :=
  if l[at_]? = some 38 ∧ l[at_ + 1]? = some 35 then
    (if l[at_ + 2]? = some 120 then charBody 16 2097152 l (at_ + 3) else charBody 10 2097152 l (at_ + 2))
  else (0, 0, 7)
theorem charBody_cap (b : Int) (hb : b = 10 ∨ b = 16) (c1 c2 : Int) (h1 : 1114111 < c1) (h2 : 1114111 < c2) (l : List UInt8) (k : Nat) : charBody b c1 l k = charBody b c2 l k := by
  unfold charBody
  have hm := digs_mem b (l.drop k)
  have a1 := cap_doc b c1 (by omega) h1 _ hm
  have a2 := cap_doc b c2 (by omega) h2 _ hm
  simp only [a1.1, a2.1]
  split
  · rfl
  · split
    · rename_i hd; rw [a1.2 hd, a2.2 hd]
    · rfl
end Go.Proofs.YtmclngahdklfkaaGreatDoor
