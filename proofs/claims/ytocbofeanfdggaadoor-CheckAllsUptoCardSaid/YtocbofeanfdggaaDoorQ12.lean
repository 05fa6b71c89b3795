/- Texts of ours, joined: Pub. -/
import Derived.Test.YtocbofeanfdggaaDoorRows
import Derived.WalkKit
import Derived.ProofKit
import Derived.OpenShut
import Derived.ShutString
import Derived.ChangeOld
import Derived.Below
import Derived.BigQuiet
import Derived.Deep.QuietTactic
import Derived.Lib.Hide
import Derived.Deep.RegionHeld3
import Derived.Lib.SlBytesConst
import Derived.Laws.CopyOwn
import Derived.Laws.CopyRow
import Derived.Lib.Bytes
import Derived.Deep.LoopGhost
import Derived.Deep.DeepFit
import Derived.Deep.DeepMust
import Derived.WalkSpells
import Derived.WalkLawsBesides
import Derived.Test.YtocbofeanfdggaaDoorQ2
import Derived.Test.YtocbofeanfdggaaDoorQ1
import Derived.Test.YtocbofeanfdggaaDoorQ3
import Derived.Test.YtocbofeanfdggaaDoorQ4
import Derived.Test.YtocbofeanfdggaaDoorQ5
import Derived.Test.YtocbofeanfdggaaDoorQ6
import Derived.Test.YtocbofeanfdggaaDoorQ7
import Derived.Test.YtocbofeanfdggaaDoorQ10
import Derived.Test.YtocbofeanfdggaaDoorQ11
/- Characters of public identifiers; classes. -/
namespace Go.Proofs.YtocbofeanfdggaaDoor
open Go.ChangeShapes Go.WideShapes Go.ChangeAt Go.RowKit
set_option linter.unusedVariables false
/-- The signs of a public identifier. -/
def signs : List UInt8 := [45, 39, 40, 41, 43, 44, 46, 47, 58, 61, 63, 59, 33, 42, 35, 64, 36, 95, 37]
def letterB (r : Int) : Bool := decide (97 ≤ r ∧ r ≤ 122) || decide (65 ≤ r ∧ r ≤ 90) || decide (48 ≤ r ∧ r ≤ 57)
/-- May it stand in a public identifier? -/
def isPub (r : Int) : Bool := letterB r || r == 32 || r == 13 || r == 10 || (decide (32 < r) && decide (r < 128) && decide (0 ≤ Lib.indexByte signs r.toNat.toUInt8))
def isBlank (r : Int) : Bool := r == 32 || r == 9 || r == 13 || r == 10
theorem signs_range : ∀ c ∈ signs, 32 < c.toNat ∧ c.toNat < 128 := by decide
theorem pub_sign (r : Int) (t : Nat) (c : UInt8) (h : signs[t]? = some c) (hr : (c.toNat : Int) = r) : isPub r = true := by
  have hc := signs_range c (List.mem_of_getElem? h)
  have e : r.toNat.toUInt8 = c := by rw [← hr, Int.toNat_natCast]; simp
  have hix : 0 ≤ Lib.indexByte signs r.toNat.toUInt8 := by
    rcases Int.lt_or_le (Lib.indexByte signs r.toNat.toUInt8) 0 with g | g
    · rw [e] at g; exact absurd h (ix_none c signs g t)
    · exact g
  have h1 : decide (32 < r) = true := by simp; omega
  have h2 : decide (r < 128) = true := by simp; omega
  have h3 : decide (0 ≤ Lib.indexByte signs r.toNat.toUInt8) = true := by simpa using hix
  unfold isPub
  rw [h1, h2, h3]
  simp
theorem pub_none (r : Int) (h0 : letterB r = false) (h1 : (r == 32) = false) (h2 : (r == 13) = false) (h3 : (r == 10) = false) (hn : ∀ j : Nat, ∀ c, signs[j]? = some c → ¬ (c.toNat : Int) = r) : isPub r = false := by
  unfold isPub
  rw [h0, h1, h2, h3]
  simp only [Bool.or_self, Bool.false_or]
  by_cases a : 32 < r ∧ r < 128
  · have hx : Lib.indexByte signs r.toNat.toUInt8 < 0 := by
      rcases Int.lt_or_le (Lib.indexByte signs r.toNat.toUInt8) 0 with g | g
      · exact g
      · have := (ix_at _ signs g).1
        refine absurd ?_ (hn _ _ this)
        have e : (r.toNat.toUInt8).toNat = r.toNat := UInt8.toNat_ofNat_of_lt' (by show r.toNat < 256; omega)
        rw [e]; omega
    have : decide (0 ≤ Lib.indexByte signs r.toNat.toUInt8) = false := by simp; omega
    rw [this]; simp
  · have : (decide (32 < r) && decide (r < 128)) = false := by simp; omega
    rw [this]; rfl
set_option maxRecDepth 100000 in
set_option maxHeartbeats 8000000 in
theorem refPubid_c (r : Int) (w : World) (hr0 : -9223372036854775808 ≤ r) (hr1 : r ≤ 9223372036854775807) : Calls Tryd.prog 110 #[.int .i64 r] w fun e w' => e = .returned (.bool (isPub r)) ∧ w = w' := by
  clear hr0 hr1
  rcases (show (r = 32) ∨ (r = 13) ∨ (r = 10) ∨ (97 ≤ r ∧ r ≤ 122) ∨ (65 ≤ r ∧ r ≤ 90) ∨ (48 ≤ r ∧ r ≤ 57) ∨ (r ≤ 9) ∨ (11 ≤ r ∧ r ≤ 12) ∨ (14 ≤ r ∧ r ≤ 31) ∨ (33 ≤ r ∧ r ≤ 47) ∨ (58 ≤ r ∧ r ≤ 64) ∨ (91 ≤ r ∧ r ≤ 96) ∨ (123 ≤ r) by omega) with h | h | h | h | h | h | h | h | h | h | h | h | h
  · have el : letterB r = false := by unfold letterB; simp; omega
    have a0 : (r == 32) = true := by simp; omega
    have a1 : (r == 13) = false := by simp; omega
    have a2 : (r == 10) = false := by simp; omega
    have a3 : decide ((97 : Int) ≤ r) = false := by simp; omega
    have a4 : decide (r ≤ 122) = true := by simp; omega
    have a5 : decide ((65 : Int) ≤ r) = false := by simp; omega
    have a6 : decide (r ≤ 90) = true := by simp; omega
    have a7 : decide ((48 : Int) ≤ r) = false := by simp; omega
    have a8 : decide (r ≤ 57) = true := by simp; omega
    have e : isPub r = true := by unfold isPub; rw [el, a0, a1, a2]; simp
    rw [e]
    clear e el h
    go_enter Tryd.func110, Tryd.ntmps110
    go_wp2
    go_ret
    exact ⟨rfl, rfl⟩
  · have el : letterB r = false := by unfold letterB; simp; omega
    have a0 : (r == 32) = false := by simp; omega
    have a1 : (r == 13) = true := by simp; omega
    have a2 : (r == 10) = false := by simp; omega
    have a3 : decide ((97 : Int) ≤ r) = false := by simp; omega
    have a4 : decide (r ≤ 122) = true := by simp; omega
    have a5 : decide ((65 : Int) ≤ r) = false := by simp; omega
    have a6 : decide (r ≤ 90) = true := by simp; omega
    have a7 : decide ((48 : Int) ≤ r) = false := by simp; omega
    have a8 : decide (r ≤ 57) = true := by simp; omega
    have e : isPub r = true := by unfold isPub; rw [el, a0, a1, a2]; simp
    rw [e]
    clear e el h
    go_enter Tryd.func110, Tryd.ntmps110
    go_wp2
    go_ret
    exact ⟨rfl, rfl⟩
  · have el : letterB r = false := by unfold letterB; simp; omega
    have a0 : (r == 32) = false := by simp; omega
    have a1 : (r == 13) = false := by simp; omega
    have a2 : (r == 10) = true := by simp; omega
    have a3 : decide ((97 : Int) ≤ r) = false := by simp; omega
    have a4 : decide (r ≤ 122) = true := by simp; omega
    have a5 : decide ((65 : Int) ≤ r) = false := by simp; omega
    have a6 : decide (r ≤ 90) = true := by simp; omega
    have a7 : decide ((48 : Int) ≤ r) = false := by simp; omega
    have a8 : decide (r ≤ 57) = true := by simp; omega
    have e : isPub r = true := by unfold isPub; rw [el, a0, a1, a2]; simp
    rw [e]
    clear e el h
    go_enter Tryd.func110, Tryd.ntmps110
    go_wp2
    go_ret
    exact ⟨rfl, rfl⟩
  · have el : letterB r = true := by unfold letterB; simp; omega
    have a0 : (r == 32) = false := by simp; omega
    have a1 : (r == 13) = false := by simp; omega
    have a2 : (r == 10) = false := by simp; omega
    have a3 : decide ((97 : Int) ≤ r) = true := by simp; omega
    have a4 : decide (r ≤ 122) = true := by simp; omega
    have a5 : decide ((65 : Int) ≤ r) = true := by simp; omega
    have a6 : decide (r ≤ 90) = false := by simp; omega
    have a7 : decide ((48 : Int) ≤ r) = true := by simp; omega
    have a8 : decide (r ≤ 57) = false := by simp; omega
    have e : isPub r = true := by unfold isPub; rw [el, a0, a1, a2]; simp
    rw [e]
    clear e el h
    go_enter Tryd.func110, Tryd.ntmps110
    go_wp2
    go_ret
    exact ⟨rfl, rfl⟩
  · have el : letterB r = true := by unfold letterB; simp; omega
    have a0 : (r == 32) = false := by simp; omega
    have a1 : (r == 13) = false := by simp; omega
    have a2 : (r == 10) = false := by simp; omega
    have a3 : decide ((97 : Int) ≤ r) = false := by simp; omega
    have a4 : decide (r ≤ 122) = true := by simp; omega
    have a5 : decide ((65 : Int) ≤ r) = true := by simp; omega
    have a6 : decide (r ≤ 90) = true := by simp; omega
    have a7 : decide ((48 : Int) ≤ r) = true := by simp; omega
    have a8 : decide (r ≤ 57) = false := by simp; omega
    have e : isPub r = true := by unfold isPub; rw [el, a0, a1, a2]; simp
    rw [e]
    clear e el h
    go_enter Tryd.func110, Tryd.ntmps110
    go_wp2
    go_ret
    exact ⟨rfl, rfl⟩
  · have el : letterB r = true := by unfold letterB; simp; omega
    have a0 : (r == 32) = false := by simp; omega
    have a1 : (r == 13) = false := by simp; omega
    have a2 : (r == 10) = false := by simp; omega
    have a3 : decide ((97 : Int) ≤ r) = false := by simp; omega
    have a4 : decide (r ≤ 122) = true := by simp; omega
    have a5 : decide ((65 : Int) ≤ r) = false := by simp; omega
    have a6 : decide (r ≤ 90) = true := by simp; omega
    have a7 : decide ((48 : Int) ≤ r) = true := by simp; omega
    have a8 : decide (r ≤ 57) = true := by simp; omega
    have e : isPub r = true := by unfold isPub; rw [el, a0, a1, a2]; simp
    rw [e]
    clear e el h
    go_enter Tryd.func110, Tryd.ntmps110
    go_wp2
    go_ret
    exact ⟨rfl, rfl⟩
  · have el : letterB r = false := by unfold letterB; simp; omega
    have a0 : (r == 32) = false := by simp; omega
    have a1 : (r == 13) = false := by simp; omega
    have a2 : (r == 10) = false := by simp; omega
    have a3 : decide ((97 : Int) ≤ r) = false := by simp; omega
    have a4 : decide (r ≤ 122) = true := by simp; omega
    have a5 : decide ((65 : Int) ≤ r) = false := by simp; omega
    have a6 : decide (r ≤ 90) = true := by simp; omega
    have a7 : decide ((48 : Int) ≤ r) = false := by simp; omega
    have a8 : decide (r ≤ 57) = true := by simp; omega
    have HP : Hid ((∀ j : Nat, ∀ c, signs[j]? = some c → ¬ (c.toNat : Int) = r) → isPub r = false) := Lib.hid (pub_none r el a0 a1 a2)
    have HS : Hid (∀ (t : Nat) (c : UInt8), signs[t]? = some c → (c.toNat : Int) = r → isPub r = true) := Lib.hid (pub_sign r)
    clear el h
    generalize isPub r = res at *
    go_enter Tryd.func110, Tryd.ntmps110
    go_wp2
    go_loopg [4] (19) (fun g i wr => ∃ t : Nat, t ≤ 19 ∧ Hid (g + t = 19) ∧ i = .int .i64 (t : Int) ∧ w = wr ∧ Hid (∀ j < t, ∀ c, signs[j]? = some c → ¬ (c.toNat : Int) = r))
    case atStart => exact ⟨0, Nat.zero_le _, Lib.hid rfl, rfl, rfl, Lib.hid (fun j hj => absurd hj (Nat.not_lt_zero _))⟩
    case round =>
      obtain ⟨t, ht, hg, rfl, rfl, HN⟩ := hrel
      have ht0 : (0 : Int) ≤ (t : Int) := by omega
      by_cases htn : t < 19
      · have htni : (t : Int) < 19 := by omega
        have hix : (Instr.index 9 (.string ⟨#[45, 39, 40, 41, 43, 44, 46, 47, 58, 61, 63, 59, 33, 42, 35, 64, 36, 95, 37]⟩) (.int .i64 (t : Int))).run Tryd.prog w = .ok (.int .u8 (UInt8.toNat (signs.getD t 0) : Int)) w := run_strIndex signs t (by simpa [signs] using htn) w
        have HD : Hid (signs[t]? = some (signs.getD t 0)) := Lib.hid (by rw [List.getElem?_eq_getElem (by simpa [signs] using htn)]; simp [show t < signs.length by simpa [signs] using htn])
        generalize signs.getD t 0 = d at *
        have hd0 : (0 : Int) ≤ (d.toNat : Int) := by omega
        have hd1 : (d.toNat : Int) ≤ 255 := by have := d.toNat_lt; omega
        by_cases hdr : (d.toNat : Int) = r
        · have HE : Hid (res = true) := Lib.hid (HS.out t d HD.out hdr)
          have hb : ((d.toNat : Int) == r) = true := by simp [hdr]
          clear hdr
          generalize (d.toNat : Int) = dn at *
          go_wp2
          go_ret
          rw [HE.out]
          exact ⟨rfl, rfl⟩
        · have hb : ((d.toNat : Int) == r) = false := by simp [hdr]
          have HN2 : Hid (∀ j < t + 1, ∀ c, signs[j]? = some c → ¬ (c.toNat : Int) = r) := Lib.hid (fun j hj c hc => by
            rcases (show j < t ∨ j = t by omega) with h | rfl
            · exact HN.out j h c hc
            · rw [HD.out] at hc; cases hc; exact hdr)
          clear hdr
          generalize (d.toNat : Int) = dn at *
          go_wp2
          go_roundg (19 - (t + 1))
          case measure => have := hg.out; omega
          case rel => exact ⟨t + 1, by omega, Lib.hid (by omega), by go_num, rfl, HN2⟩
      · have htni : ¬ (t : Int) < 19 := by omega
        have HE : Hid (res = false) := Lib.hid (HP.out (fun j c hc => by
          rcases Nat.lt_or_ge j t with h | h
          · exact HN.out j h c hc
          · rw [List.getElem?_eq_none (by simp [signs]; omega)] at hc; cases hc))
        go_wp2
        go_ret
        rw [HE.out]
        exact ⟨rfl, rfl⟩
  · have el : letterB r = false := by unfold letterB; simp; omega
    have a0 : (r == 32) = false := by simp; omega
    have a1 : (r == 13) = false := by simp; omega
    have a2 : (r == 10) = false := by simp; omega
    have a3 : decide ((97 : Int) ≤ r) = false := by simp; omega
    have a4 : decide (r ≤ 122) = true := by simp; omega
    have a5 : decide ((65 : Int) ≤ r) = false := by simp; omega
    have a6 : decide (r ≤ 90) = true := by simp; omega
    have a7 : decide ((48 : Int) ≤ r) = false := by simp; omega
    have a8 : decide (r ≤ 57) = true := by simp; omega
    have HP : Hid ((∀ j : Nat, ∀ c, signs[j]? = some c → ¬ (c.toNat : Int) = r) → isPub r = false) := Lib.hid (pub_none r el a0 a1 a2)
    have HS : Hid (∀ (t : Nat) (c : UInt8), signs[t]? = some c → (c.toNat : Int) = r → isPub r = true) := Lib.hid (pub_sign r)
    clear el h
    generalize isPub r = res at *
    go_enter Tryd.func110, Tryd.ntmps110
    go_wp2
    go_loopg [4] (19) (fun g i wr => ∃ t : Nat, t ≤ 19 ∧ Hid (g + t = 19) ∧ i = .int .i64 (t : Int) ∧ w = wr ∧ Hid (∀ j < t, ∀ c, signs[j]? = some c → ¬ (c.toNat : Int) = r))
    case atStart => exact ⟨0, Nat.zero_le _, Lib.hid rfl, rfl, rfl, Lib.hid (fun j hj => absurd hj (Nat.not_lt_zero _))⟩
    case round =>
      obtain ⟨t, ht, hg, rfl, rfl, HN⟩ := hrel
      have ht0 : (0 : Int) ≤ (t : Int) := by omega
      by_cases htn : t < 19
      · have htni : (t : Int) < 19 := by omega
        have hix : (Instr.index 9 (.string ⟨#[45, 39, 40, 41, 43, 44, 46, 47, 58, 61, 63, 59, 33, 42, 35, 64, 36, 95, 37]⟩) (.int .i64 (t : Int))).run Tryd.prog w = .ok (.int .u8 (UInt8.toNat (signs.getD t 0) : Int)) w := run_strIndex signs t (by simpa [signs] using htn) w
        have HD : Hid (signs[t]? = some (signs.getD t 0)) := Lib.hid (by rw [List.getElem?_eq_getElem (by simpa [signs] using htn)]; simp [show t < signs.length by simpa [signs] using htn])
        generalize signs.getD t 0 = d at *
        have hd0 : (0 : Int) ≤ (d.toNat : Int) := by omega
        have hd1 : (d.toNat : Int) ≤ 255 := by have := d.toNat_lt; omega
        by_cases hdr : (d.toNat : Int) = r
        · have HE : Hid (res = true) := Lib.hid (HS.out t d HD.out hdr)
          have hb : ((d.toNat : Int) == r) = true := by simp [hdr]
          clear hdr
          generalize (d.toNat : Int) = dn at *
          go_wp2
          go_ret
          rw [HE.out]
          exact ⟨rfl, rfl⟩
        · have hb : ((d.toNat : Int) == r) = false := by simp [hdr]
          have HN2 : Hid (∀ j < t + 1, ∀ c, signs[j]? = some c → ¬ (c.toNat : Int) = r) := Lib.hid (fun j hj c hc => by
            rcases (show j < t ∨ j = t by omega) with h | rfl
            · exact HN.out j h c hc
            · rw [HD.out] at hc; cases hc; exact hdr)
          clear hdr
          generalize (d.toNat : Int) = dn at *
          go_wp2
          go_roundg (19 - (t + 1))
          case measure => have := hg.out; omega
          case rel => exact ⟨t + 1, by omega, Lib.hid (by omega), by go_num, rfl, HN2⟩
      · have htni : ¬ (t : Int) < 19 := by omega
        have HE : Hid (res = false) := Lib.hid (HP.out (fun j c hc => by
          rcases Nat.lt_or_ge j t with h | h
          · exact HN.out j h c hc
          · rw [List.getElem?_eq_none (by simp [signs]; omega)] at hc; cases hc))
        go_wp2
        go_ret
        rw [HE.out]
        exact ⟨rfl, rfl⟩
  · have el : letterB r = false := by unfold letterB; simp; omega
    have a0 : (r == 32) = false := by simp; omega
    have a1 : (r == 13) = false := by simp; omega
    have a2 : (r == 10) = false := by simp; omega
    have a3 : decide ((97 : Int) ≤ r) = false := by simp; omega
    have a4 : decide (r ≤ 122) = true := by simp; omega
    have a5 : decide ((65 : Int) ≤ r) = false := by simp; omega
    have a6 : decide (r ≤ 90) = true := by simp; omega
    have a7 : decide ((48 : Int) ≤ r) = false := by simp; omega
    have a8 : decide (r ≤ 57) = true := by simp; omega
    have HP : Hid ((∀ j : Nat, ∀ c, signs[j]? = some c → ¬ (c.toNat : Int) = r) → isPub r = false) := Lib.hid (pub_none r el a0 a1 a2)
    have HS : Hid (∀ (t : Nat) (c : UInt8), signs[t]? = some c → (c.toNat : Int) = r → isPub r = true) := Lib.hid (pub_sign r)
    clear el h
    generalize isPub r = res at *
    go_enter Tryd.func110, Tryd.ntmps110
    go_wp2
    go_loopg [4] (19) (fun g i wr => ∃ t : Nat, t ≤ 19 ∧ Hid (g + t = 19) ∧ i = .int .i64 (t : Int) ∧ w = wr ∧ Hid (∀ j < t, ∀ c, signs[j]? = some c → ¬ (c.toNat : Int) = r))
    case atStart => exact ⟨0, Nat.zero_le _, Lib.hid rfl, rfl, rfl, Lib.hid (fun j hj => absurd hj (Nat.not_lt_zero _))⟩
    case round =>
      obtain ⟨t, ht, hg, rfl, rfl, HN⟩ := hrel
      have ht0 : (0 : Int) ≤ (t : Int) := by omega
      by_cases htn : t < 19
      · have htni : (t : Int) < 19 := by omega
        have hix : (Instr.index 9 (.string ⟨#[45, 39, 40, 41, 43, 44, 46, 47, 58, 61, 63, 59, 33, 42, 35, 64, 36, 95, 37]⟩) (.int .i64 (t : Int))).run Tryd.prog w = .ok (.int .u8 (UInt8.toNat (signs.getD t 0) : Int)) w := run_strIndex signs t (by simpa [signs] using htn) w
        have HD : Hid (signs[t]? = some (signs.getD t 0)) := Lib.hid (by rw [List.getElem?_eq_getElem (by simpa [signs] using htn)]; simp [show t < signs.length by simpa [signs] using htn])
        generalize signs.getD t 0 = d at *
        have hd0 : (0 : Int) ≤ (d.toNat : Int) := by omega
        have hd1 : (d.toNat : Int) ≤ 255 := by have := d.toNat_lt; omega
        by_cases hdr : (d.toNat : Int) = r
        · have HE : Hid (res = true) := Lib.hid (HS.out t d HD.out hdr)
          have hb : ((d.toNat : Int) == r) = true := by simp [hdr]
          clear hdr
          generalize (d.toNat : Int) = dn at *
          go_wp2
          go_ret
          rw [HE.out]
          exact ⟨rfl, rfl⟩
        · have hb : ((d.toNat : Int) == r) = false := by simp [hdr]
          have HN2 : Hid (∀ j < t + 1, ∀ c, signs[j]? = some c → ¬ (c.toNat : Int) = r) := Lib.hid (fun j hj c hc => by
            rcases (show j < t ∨ j = t by omega) with h | rfl
            · exact HN.out j h c hc
            · rw [HD.out] at hc; cases hc; exact hdr)
          clear hdr
          generalize (d.toNat : Int) = dn at *
          go_wp2
          go_roundg (19 - (t + 1))
          case measure => have := hg.out; omega
          case rel => exact ⟨t + 1, by omega, Lib.hid (by omega), by go_num, rfl, HN2⟩
      · have htni : ¬ (t : Int) < 19 := by omega
        have HE : Hid (res = false) := Lib.hid (HP.out (fun j c hc => by
          rcases Nat.lt_or_ge j t with h | h
          · exact HN.out j h c hc
          · rw [List.getElem?_eq_none (by simp [signs]; omega)] at hc; cases hc))
        go_wp2
        go_ret
        rw [HE.out]
        exact ⟨rfl, rfl⟩
  · have el : letterB r = false := by unfold letterB; simp; omega
    have a0 : (r == 32) = false := by simp; omega
    have a1 : (r == 13) = false := by simp; omega
    have a2 : (r == 10) = false := by simp; omega
    have a3 : decide ((97 : Int) ≤ r) = false := by simp; omega
    have a4 : decide (r ≤ 122) = true := by simp; omega
    have a5 : decide ((65 : Int) ≤ r) = false := by simp; omega
    have a6 : decide (r ≤ 90) = true := by simp; omega
    have a7 : decide ((48 : Int) ≤ r) = false := by simp; omega
    have a8 : decide (r ≤ 57) = true := by simp; omega
    have HP : Hid ((∀ j : Nat, ∀ c, signs[j]? = some c → ¬ (c.toNat : Int) = r) → isPub r = false) := Lib.hid (pub_none r el a0 a1 a2)
    have HS : Hid (∀ (t : Nat) (c : UInt8), signs[t]? = some c → (c.toNat : Int) = r → isPub r = true) := Lib.hid (pub_sign r)
    clear el h
    generalize isPub r = res at *
    go_enter Tryd.func110, Tryd.ntmps110
    go_wp2
    go_loopg [4] (19) (fun g i wr => ∃ t : Nat, t ≤ 19 ∧ Hid (g + t = 19) ∧ i = .int .i64 (t : Int) ∧ w = wr ∧ Hid (∀ j < t, ∀ c, signs[j]? = some c → ¬ (c.toNat : Int) = r))
    case atStart => exact ⟨0, Nat.zero_le _, Lib.hid rfl, rfl, rfl, Lib.hid (fun j hj => absurd hj (Nat.not_lt_zero _))⟩
    case round =>
      obtain ⟨t, ht, hg, rfl, rfl, HN⟩ := hrel
      have ht0 : (0 : Int) ≤ (t : Int) := by omega
      by_cases htn : t < 19
      · have htni : (t : Int) < 19 := by omega
        have hix : (Instr.index 9 (.string ⟨#[45, 39, 40, 41, 43, 44, 46, 47, 58, 61, 63, 59, 33, 42, 35, 64, 36, 95, 37]⟩) (.int .i64 (t : Int))).run Tryd.prog w = .ok (.int .u8 (UInt8.toNat (signs.getD t 0) : Int)) w := run_strIndex signs t (by simpa [signs] using htn) w
        have HD : Hid (signs[t]? = some (signs.getD t 0)) := Lib.hid (by rw [List.getElem?_eq_getElem (by simpa [signs] using htn)]; simp [show t < signs.length by simpa [signs] using htn])
        generalize signs.getD t 0 = d at *
        have hd0 : (0 : Int) ≤ (d.toNat : Int) := by omega
        have hd1 : (d.toNat : Int) ≤ 255 := by have := d.toNat_lt; omega
        by_cases hdr : (d.toNat : Int) = r
        · have HE : Hid (res = true) := Lib.hid (HS.out t d HD.out hdr)
          have hb : ((d.toNat : Int) == r) = true := by simp [hdr]
          clear hdr
          generalize (d.toNat : Int) = dn at *
          go_wp2
          go_ret
          rw [HE.out]
          exact ⟨rfl, rfl⟩
        · have hb : ((d.toNat : Int) == r) = false := by simp [hdr]
          have HN2 : Hid (∀ j < t + 1, ∀ c, signs[j]? = some c → ¬ (c.toNat : Int) = r) := Lib.hid (fun j hj c hc => by
            rcases (show j < t ∨ j = t by omega) with h | rfl
            · exact HN.out j h c hc
            · rw [HD.out] at hc; cases hc; exact hdr)
          clear hdr
          generalize (d.toNat : Int) = dn at *
          go_wp2
          go_roundg (19 - (t + 1))
          case measure => have := hg.out; omega
          case rel => exact ⟨t + 1, by omega, Lib.hid (by omega), by go_num, rfl, HN2⟩
      · have htni : ¬ (t : Int) < 19 := by omega
        have HE : Hid (res = false) := Lib.hid (HP.out (fun j c hc => by
          rcases Nat.lt_or_ge j t with h | h
          · exact HN.out j h c hc
          · rw [List.getElem?_eq_none (by simp [signs]; omega)] at hc; cases hc))
        go_wp2
        go_ret
        rw [HE.out]
        exact ⟨rfl, rfl⟩
  · have el : letterB r = false := by unfold letterB; simp; omega
    have a0 : (r == 32) = false := by simp; omega
    have a1 : (r == 13) = false := by simp; omega
    have a2 : (r == 10) = false := by simp; omega
    have a3 : decide ((97 : Int) ≤ r) = false := by simp; omega
    have a4 : decide (r ≤ 122) = true := by simp; omega
    have a5 : decide ((65 : Int) ≤ r) = false := by simp; omega
    have a6 : decide (r ≤ 90) = true := by simp; omega
    have a7 : decide ((48 : Int) ≤ r) = true := by simp; omega
    have a8 : decide (r ≤ 57) = false := by simp; omega
    have HP : Hid ((∀ j : Nat, ∀ c, signs[j]? = some c → ¬ (c.toNat : Int) = r) → isPub r = false) := Lib.hid (pub_none r el a0 a1 a2)
    have HS : Hid (∀ (t : Nat) (c : UInt8), signs[t]? = some c → (c.toNat : Int) = r → isPub r = true) := Lib.hid (pub_sign r)
    clear el h
    generalize isPub r = res at *
    go_enter Tryd.func110, Tryd.ntmps110
    go_wp2
    go_loopg [4] (19) (fun g i wr => ∃ t : Nat, t ≤ 19 ∧ Hid (g + t = 19) ∧ i = .int .i64 (t : Int) ∧ w = wr ∧ Hid (∀ j < t, ∀ c, signs[j]? = some c → ¬ (c.toNat : Int) = r))
    case atStart => exact ⟨0, Nat.zero_le _, Lib.hid rfl, rfl, rfl, Lib.hid (fun j hj => absurd hj (Nat.not_lt_zero _))⟩
    case round =>
      obtain ⟨t, ht, hg, rfl, rfl, HN⟩ := hrel
      have ht0 : (0 : Int) ≤ (t : Int) := by omega
      by_cases htn : t < 19
      · have htni : (t : Int) < 19 := by omega
        have hix : (Instr.index 9 (.string ⟨#[45, 39, 40, 41, 43, 44, 46, 47, 58, 61, 63, 59, 33, 42, 35, 64, 36, 95, 37]⟩) (.int .i64 (t : Int))).run Tryd.prog w = .ok (.int .u8 (UInt8.toNat (signs.getD t 0) : Int)) w := run_strIndex signs t (by simpa [signs] using htn) w
        have HD : Hid (signs[t]? = some (signs.getD t 0)) := Lib.hid (by rw [List.getElem?_eq_getElem (by simpa [signs] using htn)]; simp [show t < signs.length by simpa [signs] using htn])
        generalize signs.getD t 0 = d at *
        have hd0 : (0 : Int) ≤ (d.toNat : Int) := by omega
        have hd1 : (d.toNat : Int) ≤ 255 := by have := d.toNat_lt; omega
        by_cases hdr : (d.toNat : Int) = r
        · have HE : Hid (res = true) := Lib.hid (HS.out t d HD.out hdr)
          have hb : ((d.toNat : Int) == r) = true := by simp [hdr]
          clear hdr
          generalize (d.toNat : Int) = dn at *
          go_wp2
          go_ret
          rw [HE.out]
          exact ⟨rfl, rfl⟩
        · have hb : ((d.toNat : Int) == r) = false := by simp [hdr]
          have HN2 : Hid (∀ j < t + 1, ∀ c, signs[j]? = some c → ¬ (c.toNat : Int) = r) := Lib.hid (fun j hj c hc => by
            rcases (show j < t ∨ j = t by omega) with h | rfl
            · exact HN.out j h c hc
            · rw [HD.out] at hc; cases hc; exact hdr)
          clear hdr
          generalize (d.toNat : Int) = dn at *
          go_wp2
          go_roundg (19 - (t + 1))
          case measure => have := hg.out; omega
          case rel => exact ⟨t + 1, by omega, Lib.hid (by omega), by go_num, rfl, HN2⟩
      · have htni : ¬ (t : Int) < 19 := by omega
        have HE : Hid (res = false) := Lib.hid (HP.out (fun j c hc => by
          rcases Nat.lt_or_ge j t with h | h
          · exact HN.out j h c hc
          · rw [List.getElem?_eq_none (by simp [signs]; omega)] at hc; cases hc))
        go_wp2
        go_ret
        rw [HE.out]
        exact ⟨rfl, rfl⟩
  · have el : letterB r = false := by unfold letterB; simp; omega
    have a0 : (r == 32) = false := by simp; omega
    have a1 : (r == 13) = false := by simp; omega
    have a2 : (r == 10) = false := by simp; omega
    have a3 : decide ((97 : Int) ≤ r) = false := by simp; omega
    have a4 : decide (r ≤ 122) = true := by simp; omega
    have a5 : decide ((65 : Int) ≤ r) = true := by simp; omega
    have a6 : decide (r ≤ 90) = false := by simp; omega
    have a7 : decide ((48 : Int) ≤ r) = true := by simp; omega
    have a8 : decide (r ≤ 57) = false := by simp; omega
    have HP : Hid ((∀ j : Nat, ∀ c, signs[j]? = some c → ¬ (c.toNat : Int) = r) → isPub r = false) := Lib.hid (pub_none r el a0 a1 a2)
    have HS : Hid (∀ (t : Nat) (c : UInt8), signs[t]? = some c → (c.toNat : Int) = r → isPub r = true) := Lib.hid (pub_sign r)
    clear el h
    generalize isPub r = res at *
    go_enter Tryd.func110, Tryd.ntmps110
    go_wp2
    go_loopg [4] (19) (fun g i wr => ∃ t : Nat, t ≤ 19 ∧ Hid (g + t = 19) ∧ i = .int .i64 (t : Int) ∧ w = wr ∧ Hid (∀ j < t, ∀ c, signs[j]? = some c → ¬ (c.toNat : Int) = r))
    case atStart => exact ⟨0, Nat.zero_le _, Lib.hid rfl, rfl, rfl, Lib.hid (fun j hj => absurd hj (Nat.not_lt_zero _))⟩
    case round =>
      obtain ⟨t, ht, hg, rfl, rfl, HN⟩ := hrel
      have ht0 : (0 : Int) ≤ (t : Int) := by omega
      by_cases htn : t < 19
      · have htni : (t : Int) < 19 := by omega
        have hix : (Instr.index 9 (.string ⟨#[45, 39, 40, 41, 43, 44, 46, 47, 58, 61, 63, 59, 33, 42, 35, 64, 36, 95, 37]⟩) (.int .i64 (t : Int))).run Tryd.prog w = .ok (.int .u8 (UInt8.toNat (signs.getD t 0) : Int)) w := run_strIndex signs t (by simpa [signs] using htn) w
        have HD : Hid (signs[t]? = some (signs.getD t 0)) := Lib.hid (by rw [List.getElem?_eq_getElem (by simpa [signs] using htn)]; simp [show t < signs.length by simpa [signs] using htn])
        generalize signs.getD t 0 = d at *
        have hd0 : (0 : Int) ≤ (d.toNat : Int) := by omega
        have hd1 : (d.toNat : Int) ≤ 255 := by have := d.toNat_lt; omega
        by_cases hdr : (d.toNat : Int) = r
        · have HE : Hid (res = true) := Lib.hid (HS.out t d HD.out hdr)
          have hb : ((d.toNat : Int) == r) = true := by simp [hdr]
          clear hdr
          generalize (d.toNat : Int) = dn at *
          go_wp2
          go_ret
          rw [HE.out]
          exact ⟨rfl, rfl⟩
        · have hb : ((d.toNat : Int) == r) = false := by simp [hdr]
          have HN2 : Hid (∀ j < t + 1, ∀ c, signs[j]? = some c → ¬ (c.toNat : Int) = r) := Lib.hid (fun j hj c hc => by
            rcases (show j < t ∨ j = t by omega) with h | rfl
            · exact HN.out j h c hc
            · rw [HD.out] at hc; cases hc; exact hdr)
          clear hdr
          generalize (d.toNat : Int) = dn at *
          go_wp2
          go_roundg (19 - (t + 1))
          case measure => have := hg.out; omega
          case rel => exact ⟨t + 1, by omega, Lib.hid (by omega), by go_num, rfl, HN2⟩
      · have htni : ¬ (t : Int) < 19 := by omega
        have HE : Hid (res = false) := Lib.hid (HP.out (fun j c hc => by
          rcases Nat.lt_or_ge j t with h | h
          · exact HN.out j h c hc
          · rw [List.getElem?_eq_none (by simp [signs]; omega)] at hc; cases hc))
        go_wp2
        go_ret
        rw [HE.out]
        exact ⟨rfl, rfl⟩
  · have el : letterB r = false := by unfold letterB; simp; omega
    have a0 : (r == 32) = false := by simp; omega
    have a1 : (r == 13) = false := by simp; omega
    have a2 : (r == 10) = false := by simp; omega
    have a3 : decide ((97 : Int) ≤ r) = true := by simp; omega
    have a4 : decide (r ≤ 122) = false := by simp; omega
    have a5 : decide ((65 : Int) ≤ r) = true := by simp; omega
    have a6 : decide (r ≤ 90) = false := by simp; omega
    have a7 : decide ((48 : Int) ≤ r) = true := by simp; omega
    have a8 : decide (r ≤ 57) = false := by simp; omega
    have HP : Hid ((∀ j : Nat, ∀ c, signs[j]? = some c → ¬ (c.toNat : Int) = r) → isPub r = false) := Lib.hid (pub_none r el a0 a1 a2)
    have HS : Hid (∀ (t : Nat) (c : UInt8), signs[t]? = some c → (c.toNat : Int) = r → isPub r = true) := Lib.hid (pub_sign r)
    clear el h
    generalize isPub r = res at *
    go_enter Tryd.func110, Tryd.ntmps110
    go_wp2
    go_loopg [4] (19) (fun g i wr => ∃ t : Nat, t ≤ 19 ∧ Hid (g + t = 19) ∧ i = .int .i64 (t : Int) ∧ w = wr ∧ Hid (∀ j < t, ∀ c, signs[j]? = some c → ¬ (c.toNat : Int) = r))
    case atStart => exact ⟨0, Nat.zero_le _, Lib.hid rfl, rfl, rfl, Lib.hid (fun j hj => absurd hj (Nat.not_lt_zero _))⟩
    case round =>
      obtain ⟨t, ht, hg, rfl, rfl, HN⟩ := hrel
      have ht0 : (0 : Int) ≤ (t : Int) := by omega
      by_cases htn : t < 19
      · have htni : (t : Int) < 19 := by omega
        have hix : (Instr.index 9 (.string ⟨#[45, 39, 40, 41, 43, 44, 46, 47, 58, 61, 63, 59, 33, 42, 35, 64, 36, 95, 37]⟩) (.int .i64 (t : Int))).run Tryd.prog w = .ok (.int .u8 (UInt8.toNat (signs.getD t 0) : Int)) w := run_strIndex signs t (by simpa [signs] using htn) w
        have HD : Hid (signs[t]? = some (signs.getD t 0)) := Lib.hid (by rw [List.getElem?_eq_getElem (by simpa [signs] using htn)]; simp [show t < signs.length by simpa [signs] using htn])
        generalize signs.getD t 0 = d at *
        have hd0 : (0 : Int) ≤ (d.toNat : Int) := by omega
        have hd1 : (d.toNat : Int) ≤ 255 := by have := d.toNat_lt; omega
        by_cases hdr : (d.toNat : Int) = r
        · have HE : Hid (res = true) := Lib.hid (HS.out t d HD.out hdr)
          have hb : ((d.toNat : Int) == r) = true := by simp [hdr]
          clear hdr
          generalize (d.toNat : Int) = dn at *
          go_wp2
          go_ret
          rw [HE.out]
          exact ⟨rfl, rfl⟩
        · have hb : ((d.toNat : Int) == r) = false := by simp [hdr]
          have HN2 : Hid (∀ j < t + 1, ∀ c, signs[j]? = some c → ¬ (c.toNat : Int) = r) := Lib.hid (fun j hj c hc => by
            rcases (show j < t ∨ j = t by omega) with h | rfl
            · exact HN.out j h c hc
            · rw [HD.out] at hc; cases hc; exact hdr)
          clear hdr
          generalize (d.toNat : Int) = dn at *
          go_wp2
          go_roundg (19 - (t + 1))
          case measure => have := hg.out; omega
          case rel => exact ⟨t + 1, by omega, Lib.hid (by omega), by go_num, rfl, HN2⟩
      · have htni : ¬ (t : Int) < 19 := by omega
        have HE : Hid (res = false) := Lib.hid (HP.out (fun j c hc => by
          rcases Nat.lt_or_ge j t with h | h
          · exact HN.out j h c hc
          · rw [List.getElem?_eq_none (by simp [signs]; omega)] at hc; cases hc))
        go_wp2
        go_ret
        rw [HE.out]
        exact ⟨rfl, rfl⟩
set_option maxRecDepth 100000 in
set_option maxHeartbeats 4000000 in
theorem refBlank_c (r : Int) (w : World) : Calls Tryd.prog 73 #[.int .i64 r] w fun e w' => e = .returned (.bool (isBlank r)) ∧ w = w' := by
  rcases (show (r = 32) ∨ (r = 9) ∨ (r = 13) ∨ (r = 10) ∨ (r ≤ 8) ∨ (11 ≤ r ∧ r ≤ 12) ∨ (14 ≤ r ∧ r ≤ 31) ∨ (33 ≤ r) by omega) with h | h | h | h | h | h | h | h
  · have a0 : (r == 32) = true := by simp; omega
    have a1 : (r == 9) = false := by simp; omega
    have a2 : (r == 13) = false := by simp; omega
    have a3 : (r == 10) = false := by simp; omega
    have e : isBlank r = true := by unfold isBlank; rw [a0, a1, a2, a3]; rfl
    rw [e]
    clear e h
    go_enter Tryd.func73, Tryd.ntmps73
    go_wp2
    go_ret
    exact ⟨rfl, rfl⟩
  · have a0 : (r == 32) = false := by simp; omega
    have a1 : (r == 9) = true := by simp; omega
    have a2 : (r == 13) = false := by simp; omega
    have a3 : (r == 10) = false := by simp; omega
    have e : isBlank r = true := by unfold isBlank; rw [a0, a1, a2, a3]; rfl
    rw [e]
    clear e h
    go_enter Tryd.func73, Tryd.ntmps73
    go_wp2
    go_ret
    exact ⟨rfl, rfl⟩
  · have a0 : (r == 32) = false := by simp; omega
    have a1 : (r == 9) = false := by simp; omega
    have a2 : (r == 13) = true := by simp; omega
    have a3 : (r == 10) = false := by simp; omega
    have e : isBlank r = true := by unfold isBlank; rw [a0, a1, a2, a3]; rfl
    rw [e]
    clear e h
    go_enter Tryd.func73, Tryd.ntmps73
    go_wp2
    go_ret
    exact ⟨rfl, rfl⟩
  · have a0 : (r == 32) = false := by simp; omega
    have a1 : (r == 9) = false := by simp; omega
    have a2 : (r == 13) = false := by simp; omega
    have a3 : (r == 10) = true := by simp; omega
    have e : isBlank r = true := by unfold isBlank; rw [a0, a1, a2, a3]; rfl
    rw [e]
    clear e h
    go_enter Tryd.func73, Tryd.ntmps73
    go_wp2
    go_ret
    exact ⟨rfl, rfl⟩
  · have a0 : (r == 32) = false := by simp; omega
    have a1 : (r == 9) = false := by simp; omega
    have a2 : (r == 13) = false := by simp; omega
    have a3 : (r == 10) = false := by simp; omega
    have e : isBlank r = false := by unfold isBlank; rw [a0, a1, a2, a3]; rfl
    rw [e]
    clear e h
    go_enter Tryd.func73, Tryd.ntmps73
    go_wp2
    go_ret
    exact ⟨rfl, rfl⟩
  · have a0 : (r == 32) = false := by simp; omega
    have a1 : (r == 9) = false := by simp; omega
    have a2 : (r == 13) = false := by simp; omega
    have a3 : (r == 10) = false := by simp; omega
    have e : isBlank r = false := by unfold isBlank; rw [a0, a1, a2, a3]; rfl
    rw [e]
    clear e h
    go_enter Tryd.func73, Tryd.ntmps73
    go_wp2
    go_ret
    exact ⟨rfl, rfl⟩
  · have a0 : (r == 32) = false := by simp; omega
    have a1 : (r == 9) = false := by simp; omega
    have a2 : (r == 13) = false := by simp; omega
    have a3 : (r == 10) = false := by simp; omega
    have e : isBlank r = false := by unfold isBlank; rw [a0, a1, a2, a3]; rfl
    rw [e]
    clear e h
    go_enter Tryd.func73, Tryd.ntmps73
    go_wp2
    go_ret
    exact ⟨rfl, rfl⟩
  · have a0 : (r == 32) = false := by simp; omega
    have a1 : (r == 9) = false := by simp; omega
    have a2 : (r == 13) = false := by simp; omega
    have a3 : (r == 10) = false := by simp; omega
    have e : isBlank r = false := by unfold isBlank; rw [a0, a1, a2, a3]; rfl
    rw [e]
    clear e h
    go_enter Tryd.func73, Tryd.ntmps73
    go_wp2
    go_ret
    exact ⟨rfl, rfl⟩
def oneB (b : Bool) : Nat := if b then 1 else 0
theorem oneB_le (b : Bool) : oneB b ≤ 1 := by cases b <;> decide
theorem one_c (b : Bool) (w : World) : Calls Tryd.prog 108 #[.bool b] w fun e w' => e = .returned (.int .i64 (oneB b)) ∧ w = w' := by
  cases b
  · go_enter Tryd.func108, Tryd.ntmps108
    go_wp2
    go_ret
    exact ⟨rfl, rfl⟩
  · go_enter Tryd.func108, Tryd.ntmps108
    go_wp2
    go_ret
    exact ⟨rfl, rfl⟩
def clsN (r : Int) : Nat := oneB (isDoc r) + 2 * oneB (isBlank r) + 4 * oneB (isStart r) + 8 * oneB (isMore r) + 16 * oneB (isPub r)
set_option maxRecDepth 100000 in
set_option maxHeartbeats 4000000 in
theorem refClasses_c (r : Int) (w : World) (hr0 : -9223372036854775808 ≤ r) (hr1 : r ≤ 9223372036854775807) : Calls Tryd.prog 92 #[.int .i64 r] w fun e w' => e = .returned (.int .i64 (clsN r)) ∧ w = w' := by
  have C1 := Lib.hid (refChar_c r w)
  have C2 := Lib.hid (refBlank_c r w)
  have C3 := Lib.hid (refStart_c r w)
  have C4 := Lib.hid (refMore_c r w)
  have C5 := Lib.hid (refPubid_c r w hr0 hr1)
  have O1 := Lib.hid (one_c (isDoc r) w)
  have O2 := Lib.hid (one_c (isBlank r) w)
  have O3 := Lib.hid (one_c (isStart r) w)
  have O4 := Lib.hid (one_c (isMore r) w)
  have O5 := Lib.hid (one_c (isPub r) w)
  have l1 := oneB_le (isDoc r)
  have l2 := oneB_le (isBlank r)
  have l3 := oneB_le (isStart r)
  have l4 := oneB_le (isMore r)
  have l5 := oneB_le (isPub r)
  unfold clsN
  clear hr0 hr1
  generalize oneB (isDoc r) = x1 at *
  generalize oneB (isBlank r) = x2 at *
  generalize oneB (isStart r) = x3 at *
  generalize oneB (isMore r) = x4 at *
  generalize oneB (isPub r) = x5 at *
  have m1 : (x1 : Int) ≤ 1 := by omega
  have m2 : (x2 : Int) ≤ 1 := by omega
  have m3 : (x3 : Int) ≤ 1 := by omega
  have m4 : (x4 : Int) ≤ 1 := by omega
  have m5 : (x5 : Int) ≤ 1 := by omega
  have z1 : (0 : Int) ≤ (x1 : Int) := by omega
  have z2 : (0 : Int) ≤ (x2 : Int) := by omega
  have z3 : (0 : Int) ≤ (x3 : Int) := by omega
  have z4 : (0 : Int) ≤ (x4 : Int) := by omega
  have z5 : (0 : Int) ≤ (x5 : Int) := by omega
  clear l1 l2 l3 l4 l5
  go_enter Tryd.func92, Tryd.ntmps92
  go_wp2_with fail
  refine C1.out.mono ?_
  rintro e w1 ⟨rfl, rfl⟩
  go_wp2_with fail
  refine O1.out.mono ?_
  rintro e w1 ⟨rfl, rfl⟩
  go_wp2_with fail
  refine C2.out.mono ?_
  rintro e w1 ⟨rfl, rfl⟩
  go_wp2_with fail
  refine O2.out.mono ?_
  rintro e w1 ⟨rfl, rfl⟩
  go_wp2_with fail
  refine C3.out.mono ?_
  rintro e w1 ⟨rfl, rfl⟩
  go_wp2_with fail
  refine O3.out.mono ?_
  rintro e w1 ⟨rfl, rfl⟩
  go_wp2_with fail
  refine C4.out.mono ?_
  rintro e w1 ⟨rfl, rfl⟩
  go_wp2_with fail
  refine O4.out.mono ?_
  rintro e w1 ⟨rfl, rfl⟩
  go_wp2_with fail
  refine C5.out.mono ?_
  rintro e w1 ⟨rfl, rfl⟩
  go_wp2_with fail
  refine O5.out.mono ?_
  rintro e w1 ⟨rfl, rfl⟩
  go_wp2
  go_ret
  exact ⟨by congr 2, rfl⟩
set_option maxRecDepth 100000 in
set_option maxHeartbeats 4000000 in
theorem refIs_c (c : Nat) (hc : c ≤ 4) (r : Int) (w : World) (hr0 : -9223372036854775808 ≤ r) (hr1 : r ≤ 9223372036854775807) : Calls Tryd.prog 70 #[.int .i64 c, .int .i64 r] w fun e w' => e = .returned (.bool (decide ((clsN r / 2 ^ c) % 2 = 1))) ∧ w = w' := by
  have C1 := Lib.hid (refClasses_c r w hr0 hr1)
  have hle : clsN r ≤ 31 := by
    have l1 := oneB_le (isDoc r)
    have l2 := oneB_le (isBlank r)
    have l3 := oneB_le (isStart r)
    have l4 := oneB_le (isMore r)
    have l5 := oneB_le (isPub r)
    unfold clsN
    omega
  clear hr0 hr1
  generalize clsN r = N at *
  go_enter Tryd.func70, Tryd.ntmps70
  go_wp2_with fail
  refine C1.out.mono ?_
  rintro e w1 ⟨rfl, rfl⟩
  go_wp2_with fail
  go_loopg [5, 6] (c) (fun g x i wr => ∃ (t m : Nat), t ≤ c ∧ Hid (g + t = c) ∧ i = .int .i64 (t : Int) ∧ x = .int .i64 (m : Int) ∧ m ≤ 31 ∧ Hid (m = N / 2 ^ t) ∧ w = wr)
  case atStart => exact ⟨0, N, Nat.zero_le _, Lib.hid rfl, rfl, rfl, hle, Lib.hid (by simp), rfl⟩
  case round =>
    obtain ⟨t, m, ht, hg, rfl, rfl, hm, HM, rfl⟩ := hrel
    have ht0 : (0 : Int) ≤ (t : Int) := by omega
    have hm0 : (0 : Int) ≤ (m : Int) := by omega
    have hm1 : (m : Int) ≤ 31 := by omega
    by_cases htc : t < c
    · have htci : (t : Int) < (c : Int) := by omega
      go_wp2
      go_roundg (c - (t + 1))
      case measure => have := hg.out; omega
      case rel => exact ⟨t + 1, m / 2, by omega, Lib.hid (by omega), by go_num, by go_num, by omega, Lib.hid (by rw [HM.out, Nat.div_div_eq_div_mul, Nat.pow_succ]), rfl⟩
    · have htci : ¬ (t : Int) < (c : Int) := by omega
      have HT : Hid (t = c) := Lib.hid (by omega)
      have HE : Hid (decide ((N / 2 ^ c) % 2 = 1) = decide (m % 2 = 1)) := Lib.hid (by rw [HM.out, HT.out])
      by_cases hb : m % 2 = 1
      · have hb1 : ((m : Int) % 2 == 1) = true := by simp; omega
        have HB : Hid (decide (m % 2 = 1) = true) := Lib.hid (by simp [hb])
        clear hb
        go_wp2
        go_ret
        rw [HE.out, HB.out]
        exact ⟨rfl, rfl⟩
      · have hb1 : ((m : Int) % 2 == 1) = false := by simp; omega
        have HB : Hid (decide (m % 2 = 1) = false) := Lib.hid (by simp [hb])
        clear hb
        go_wp2
        go_ret
        rw [HE.out, HB.out]
        exact ⟨rfl, rfl⟩
end Go.Proofs.YtocbofeanfdggaaDoor
