/- Reserved names. -/
import Derived.Test.YteighjiocgdgaaaDoorRows
import Derived.WalkKit
import Derived.ProofKit
import Derived.OpenShut
import Derived.ShutString
import Derived.ChangeOld
import Derived.Below
import Derived.BigQuiet
import Derived.Deep.QuietTactic
import Derived.Lib.Hide
import Derived.Deep.RegionHeld3
import Derived.Lib.SlBytesConst
import Derived.Laws.CopyOwn
import Derived.Laws.CopyRow
import Derived.Lib.Bytes
import Derived.Deep.LoopGhost
import Derived.Deep.DeepFit
import Derived.Deep.DeepMust
import Derived.WalkSpells
import Derived.WalkLawsBesides
import Derived.Lib.Fold
import Derived.Test.YteighjiocgdgaaaDoorBase
import Derived.Test.YteighjiocgdgaaaDoorShelf
import Derived.Test.YteighjiocgdgaaaDoorCharPlain
import Derived.Test.YteighjiocgdgaaaDoorUtf1
import Derived.Test.YteighjiocgdgaaaDoorUtf2
import Derived.Test.YteighjiocgdgaaaDoorUtf3
import Derived.Test.YteighjiocgdgaaaDoorChars1
import Derived.Test.YteighjiocgdgaaaDoorName1
import Derived.Test.YteighjiocgdgaaaDoorName2
import Derived.Test.YteighjiocgdgaaaDoorName3
import Derived.Test.YteighjiocgdgaaaDoorEsc
import Derived.Test.YteighjiocgdgaaaDoorStr
import Derived.Test.YteighjiocgdgaaaDoorPub
import Derived.Test.YteighjiocgdgaaaDoorBlank
import Derived.Test.YteighjiocgdgaaaDoorLibB
import Derived.Test.YteighjiocgdgaaaDoorMiscP
import Derived.Test.YteighjiocgdgaaaDoorMisc6
import Derived.Test.YteighjiocgdgaaaDoorMisc7
import Derived.Test.YteighjiocgdgaaaDoorLaw08
import Derived.Test.YteighjiocgdgaaaDoorFold
namespace Go.Proofs.YteighjiocgdgaaaDoor
open Go.ChangeShapes Go.WideShapes Go.ChangeAt Go.RowKit
set_option linter.unusedVariables false
theorem resB_len (s : List UInt8) (h : s.length ≠ 3) : resB s = false := by
  unfold resB
  match s, h with
  | [], _ => rfl
  | [_], _ => simp [Lib.equalFold]
  | [_, _], _ => simp [Lib.equalFold]
  | [_, _, _], h => simp at h
  | _ :: _ :: _ :: _ :: _, _ => simp [Lib.equalFold]
theorem resB_three (a b c : UInt8) : resB [a, b, c] = (Lib.foldEq a 120 && (Lib.foldEq b 109 && Lib.foldEq c 108)) := by
  unfold resB
  simp [Lib.equalFold]
theorem fold_not (a u v : UInt8) (hu : 97 ≤ u.toNat) (hv : v.toNat + 32 = u.toNat) (h1 : ¬ a = u) (h2 : ¬ a = v) : Lib.foldEq a u = false := by
  unfold Lib.foldEq
  have n1 : ¬ a.toNat = u.toNat := fun e => h1 (UInt8.toNat_inj.1 e)
  have n2 : ¬ a.toNat = v.toNat := fun e => h2 (UInt8.toNat_inj.1 e)
  exact decide_eq_false (by omega)
set_option maxRecDepth 100000 in
set_option maxHeartbeats 4000000 in
theorem refReserved_len (s : List UInt8) (w : World) (hs : s.length ≠ 3) : Calls Tryd.prog 48 #[.string ⟨s.toArray⟩] w fun e w' => e = .returned (.bool (resB s)) ∧ w = w' := by
  rw [resB_len s hs]
  have hl : ((s.length : Int) != 3) = true := by simp; omega
  go_enter Tryd.func48, Tryd.ntmps48
  go_wp2
  go_ret
  exact ⟨rfl, rfl⟩
set_option maxRecDepth 100000 in
set_option maxHeartbeats 4000000 in
theorem refReserved_three (a b c : UInt8) (w : World) : Calls Tryd.prog 48 #[.string ⟨[a, b, c].toArray⟩] w fun e w' => e = .returned (.bool (resB [a, b, c])) ∧ w = w' := by
  rw [resB_three]
  have i0 : (Instr.index 9 (.string ⟨[a, b, c].toArray⟩) (.int .i64 0)).run Tryd.prog w = .ok (.int .u8 (a.toNat : Int)) w := run_strIndex [a, b, c] 0 (by simp) w
  have i1 : (Instr.index 9 (.string ⟨[a, b, c].toArray⟩) (.int .i64 1)).run Tryd.prog w = .ok (.int .u8 (b.toNat : Int)) w := run_strIndex [a, b, c] 1 (by simp) w
  have i2 : (Instr.index 9 (.string ⟨[a, b, c].toArray⟩) (.int .i64 2)).run Tryd.prog w = .ok (.int .u8 (c.toNat : Int)) w := run_strIndex [a, b, c] 2 (by simp) w
  have hsz : (⟨[a, b, c].toArray⟩ : ByteArray).size = 3 := rfl
  generalize (⟨[a, b, c].toArray⟩ : ByteArray) = S at *
  by_cases ha1 : a = 120
  · subst ha1
    have ea : Lib.foldEq 120 120 = true := by decide
    have ta : (UInt8.toNat 120 : Int) = 120 := rfl
    rw [ta] at i0
    by_cases hb1 : b = 109
    · subst hb1
      have eb : Lib.foldEq 109 109 = true := by decide
      have tb : (UInt8.toNat 109 : Int) = 109 := rfl
      rw [tb] at i1
      by_cases hc1 : c = 108
      · subst hc1
        have ec : Lib.foldEq 108 108 = true := by decide
        have tc : (UInt8.toNat 108 : Int) = 108 := rfl
        rw [tc] at i2
        rw [ea, eb, ec]
        clear ea ta eb tb ec tc
        go_enter Tryd.func48, Tryd.ntmps48
        go_wp2
        go_ret
        exact ⟨rfl, rfl⟩
      · by_cases hc2 : c = 76
        · subst hc2
          have ec : Lib.foldEq 76 108 = true := by decide
          have tc : (UInt8.toNat 76 : Int) = 76 := rfl
          rw [tc] at i2
          rw [ea, eb, ec]
          clear ea ta eb tb ec tc hc1
          go_enter Tryd.func48, Tryd.ntmps48
          go_wp2
          go_ret
          exact ⟨rfl, rfl⟩
        · have ec : Lib.foldEq c 108 = false := fold_not c 108 76 (by decide) (by decide) hc1 hc2
          have nc : ((c.toNat : Int) == 108) = false := ne_byte c 108 108 rfl hc1
          have mc : ((c.toNat : Int) == 76) = false := ne_byte c 76 76 rfl hc2
          rw [ea, eb, ec]
          clear ea ta eb tb ec hc1 hc2
          go_enter Tryd.func48, Tryd.ntmps48
          go_wp2
          go_ret
          exact ⟨rfl, rfl⟩
    · by_cases hb2 : b = 77
      · subst hb2
        have eb : Lib.foldEq 77 109 = true := by decide
        have tb : (UInt8.toNat 77 : Int) = 77 := rfl
        rw [tb] at i1
        by_cases hc1 : c = 108
        · subst hc1
          have ec : Lib.foldEq 108 108 = true := by decide
          have tc : (UInt8.toNat 108 : Int) = 108 := rfl
          rw [tc] at i2
          rw [ea, eb, ec]
          clear ea ta eb tb hb1 ec tc
          go_enter Tryd.func48, Tryd.ntmps48
          go_wp2
          go_ret
          exact ⟨rfl, rfl⟩
        · by_cases hc2 : c = 76
          · subst hc2
            have ec : Lib.foldEq 76 108 = true := by decide
            have tc : (UInt8.toNat 76 : Int) = 76 := rfl
            rw [tc] at i2
            rw [ea, eb, ec]
            clear ea ta eb tb hb1 ec tc hc1
            go_enter Tryd.func48, Tryd.ntmps48
            go_wp2
            go_ret
            exact ⟨rfl, rfl⟩
          · have ec : Lib.foldEq c 108 = false := fold_not c 108 76 (by decide) (by decide) hc1 hc2
            have nc : ((c.toNat : Int) == 108) = false := ne_byte c 108 108 rfl hc1
            have mc : ((c.toNat : Int) == 76) = false := ne_byte c 76 76 rfl hc2
            rw [ea, eb, ec]
            clear ea ta eb tb hb1 ec hc1 hc2
            go_enter Tryd.func48, Tryd.ntmps48
            go_wp2
            go_ret
            exact ⟨rfl, rfl⟩
      · have eb : Lib.foldEq b 109 = false := fold_not b 109 77 (by decide) (by decide) hb1 hb2
        have nb : ((b.toNat : Int) == 109) = false := ne_byte b 109 109 rfl hb1
        have mb : ((b.toNat : Int) == 77) = false := ne_byte b 77 77 rfl hb2
        rw [ea, eb]
        clear ea ta eb hb1 hb2
        go_enter Tryd.func48, Tryd.ntmps48
        go_wp2
        go_ret
        exact ⟨rfl, rfl⟩
  · by_cases ha2 : a = 88
    · subst ha2
      have ea : Lib.foldEq 88 120 = true := by decide
      have ta : (UInt8.toNat 88 : Int) = 88 := rfl
      rw [ta] at i0
      by_cases hb1 : b = 109
      · subst hb1
        have eb : Lib.foldEq 109 109 = true := by decide
        have tb : (UInt8.toNat 109 : Int) = 109 := rfl
        rw [tb] at i1
        by_cases hc1 : c = 108
        · subst hc1
          have ec : Lib.foldEq 108 108 = true := by decide
          have tc : (UInt8.toNat 108 : Int) = 108 := rfl
          rw [tc] at i2
          rw [ea, eb, ec]
          clear ea ta ha1 eb tb ec tc
          go_enter Tryd.func48, Tryd.ntmps48
          go_wp2
          go_ret
          exact ⟨rfl, rfl⟩
        · by_cases hc2 : c = 76
          · subst hc2
            have ec : Lib.foldEq 76 108 = true := by decide
            have tc : (UInt8.toNat 76 : Int) = 76 := rfl
            rw [tc] at i2
            rw [ea, eb, ec]
            clear ea ta ha1 eb tb ec tc hc1
            go_enter Tryd.func48, Tryd.ntmps48
            go_wp2
            go_ret
            exact ⟨rfl, rfl⟩
          · have ec : Lib.foldEq c 108 = false := fold_not c 108 76 (by decide) (by decide) hc1 hc2
            have nc : ((c.toNat : Int) == 108) = false := ne_byte c 108 108 rfl hc1
            have mc : ((c.toNat : Int) == 76) = false := ne_byte c 76 76 rfl hc2
            rw [ea, eb, ec]
            clear ea ta ha1 eb tb ec hc1 hc2
            go_enter Tryd.func48, Tryd.ntmps48
            go_wp2
            go_ret
            exact ⟨rfl, rfl⟩
      · by_cases hb2 : b = 77
        · subst hb2
          have eb : Lib.foldEq 77 109 = true := by decide
          have tb : (UInt8.toNat 77 : Int) = 77 := rfl
          rw [tb] at i1
          by_cases hc1 : c = 108
          · subst hc1
            have ec : Lib.foldEq 108 108 = true := by decide
            have tc : (UInt8.toNat 108 : Int) = 108 := rfl
            rw [tc] at i2
            rw [ea, eb, ec]
            clear ea ta ha1 eb tb hb1 ec tc
            go_enter Tryd.func48, Tryd.ntmps48
            go_wp2
            go_ret
            exact ⟨rfl, rfl⟩
          · by_cases hc2 : c = 76
            · subst hc2
              have ec : Lib.foldEq 76 108 = true := by decide
              have tc : (UInt8.toNat 76 : Int) = 76 := rfl
              rw [tc] at i2
              rw [ea, eb, ec]
              clear ea ta ha1 eb tb hb1 ec tc hc1
              go_enter Tryd.func48, Tryd.ntmps48
              go_wp2
              go_ret
              exact ⟨rfl, rfl⟩
            · have ec : Lib.foldEq c 108 = false := fold_not c 108 76 (by decide) (by decide) hc1 hc2
              have nc : ((c.toNat : Int) == 108) = false := ne_byte c 108 108 rfl hc1
              have mc : ((c.toNat : Int) == 76) = false := ne_byte c 76 76 rfl hc2
              rw [ea, eb, ec]
              clear ea ta ha1 eb tb hb1 ec hc1 hc2
              go_enter Tryd.func48, Tryd.ntmps48
              go_wp2
              go_ret
              exact ⟨rfl, rfl⟩
        · have eb : Lib.foldEq b 109 = false := fold_not b 109 77 (by decide) (by decide) hb1 hb2
          have nb : ((b.toNat : Int) == 109) = false := ne_byte b 109 109 rfl hb1
          have mb : ((b.toNat : Int) == 77) = false := ne_byte b 77 77 rfl hb2
          rw [ea, eb]
          clear ea ta ha1 eb hb1 hb2
          go_enter Tryd.func48, Tryd.ntmps48
          go_wp2
          go_ret
          exact ⟨rfl, rfl⟩
    · have ea : Lib.foldEq a 120 = false := fold_not a 120 88 (by decide) (by decide) ha1 ha2
      have na : ((a.toNat : Int) == 120) = false := ne_byte a 120 120 rfl ha1
      have ma : ((a.toNat : Int) == 88) = false := ne_byte a 88 88 rfl ha2
      rw [ea]
      clear ea ha1 ha2
      go_enter Tryd.func48, Tryd.ntmps48
      go_wp2
      go_ret
      exact ⟨rfl, rfl⟩
theorem refReserved_c (s : List UInt8) (w : World) : Calls Tryd.prog 48 #[.string ⟨s.toArray⟩] w fun e w' => e = .returned (.bool (resB s)) ∧ w = w' := by
  by_cases h : s.length = 3
  · match s, h with
    | [a, b, c], _ => exact refReserved_three a b c w
  · exact refReserved_len s w h
theorem equalFold_c (s t : List UInt8) (w : World) (hs : s.length = t.length) (hs1 : s.length ≤ 1000) (ht : ∀ c ∈ t, ∃ f, (c.toNat, f) ∈ foldPairs ∧ (f, c.toNat) ∈ foldPairs) (hT : FoldT w) :
    Calls Tryd.prog 90 #[.string ⟨s.toArray⟩, .string ⟨t.toArray⟩] w fun e w' => e = .returned (.bool (Lib.equalFold s t)) ∧ Below w.heap.size w w' := by
  have ht1 : ∀ (j : Nat) b, t[j]? = some b → b.toNat < 128 := fun j b hb => by
    obtain ⟨f, h1, _⟩ := ht b (List.mem_of_getElem? hb)
    exact (foldPairs_lt _ h1).1
  by_cases hall : ∀ (j : Nat) b, s[j]? = some b → b.toNat < 128
  · exact (Tryd.strings_EqualFold ⟨s.toArray⟩ ⟨t.toArray⟩ w (by simp [ByteArray.size]; omega) hall ht1).mono fun e w' ⟨he, hw⟩ => ⟨he, by rw [hw]; exact Below.refl _ _⟩
  · have hex : ∃ (i0 : Nat) (x : UInt8), s[i0]? = some x ∧ 128 ≤ x.toNat ∧ ∀ (j : Nat) (b : UInt8), j < i0 → s[j]? = some b → b.toNat < 128 := by
      have : ∃ n : Nat, ∃ x : UInt8, s[n]? = some x ∧ 128 ≤ x.toNat := by
        refine Classical.byContradiction fun hc => hall fun j b hb => ?_
        refine Classical.byContradiction fun h2 => hc ⟨j, b, hb, by omega⟩
      obtain ⟨n, hn⟩ := this
      induction n using Nat.strongRecOn with
      | _ n ih =>
        by_cases hlow : ∀ (j : Nat) (b : UInt8), j < n → s[j]? = some b → b.toNat < 128
        · obtain ⟨x, h1, h2⟩ := hn
          exact ⟨n, x, h1, h2, hlow⟩
        · have : ∃ m, m < n ∧ ∃ x : UInt8, s[m]? = some x ∧ 128 ≤ x.toNat := by
            refine Classical.byContradiction fun hc => hlow fun j b hj hb => ?_
            refine Classical.byContradiction fun h2 => hc ⟨j, hj, b, hb, by omega⟩
          obtain ⟨m, hm, hm2⟩ := this
          exact ih m hm hm2
    obtain ⟨i0, x, hx, hx1, hlo⟩ := hex
    have hi0 : i0 < t.length := by rw [← hs]; exact (List.getElem?_eq_some_iff.1 hx).1
    obtain ⟨f, hp1, hp2⟩ := ht t[i0] (List.getElem_mem hi0)
    rw [equalFold_hi s t i0 x (fun c hc => by
      obtain ⟨j, hj⟩ := List.mem_iff_getElem?.1 hc
      exact ht1 j c hj) hx hx1]
    exact equalFold_high s t i0 x t[i0] f w hs hs1 ht1 hlo hx hx1 (List.getElem?_eq_getElem hi0) hp1 hp2 hT
theorem xmlFold : ∀ c ∈ ([120, 109, 108] : List UInt8), ∃ f, (c.toNat, f) ∈ foldPairs ∧ (f, c.toNat) ∈ foldPairs := by
  intro c hc
  simp at hc
  rcases hc with rfl | rfl | rfl
  · exact ⟨88, by decide, by decide⟩
  · exact ⟨77, by decide, by decide⟩
  · exact ⟨76, by decide, by decide⟩
theorem utf8Fold : ∀ c ∈ ([117, 116, 102, 45, 56] : List UInt8), ∃ f, (c.toNat, f) ∈ foldPairs ∧ (f, c.toNat) ∈ foldPairs := by
  intro c hc
  simp at hc
  rcases hc with rfl | rfl | rfl | rfl | rfl
  · exact ⟨85, by decide, by decide⟩
  · exact ⟨84, by decide, by decide⟩
  · exact ⟨70, by decide, by decide⟩
  · exact ⟨45, by decide, by decide⟩
  · exact ⟨56, by decide, by decide⟩
set_option maxRecDepth 100000 in
set_option maxHeartbeats 4000000 in
theorem miscReserved_c (s : List UInt8) (w : World) (hT : FoldT w) : Calls Tryd.prog 47 #[.string ⟨s.toArray⟩] w fun e w' => e = .returned (.bool (resB s)) ∧ Below w.heap.size w w' := by
  by_cases h : s.length = 3
  · have C1 := Lib.hid (equalFold_c s [120, 109, 108] w (by simp [h]) (by omega) xmlFold hT)
    have hl : ((s.length : Int) == 3) = true := by simp; omega
    unfold resB
    clear h hT
    generalize Lib.equalFold s [120, 109, 108] = r at *
    go_enter Tryd.func47, Tryd.ntmps47
    go_wp2_with fail
    refine (C1.out).mono ?_
    rintro e w1 ⟨rfl, hb⟩
    have B1 := Lib.hid hb
    clear hb
    go_wp2
    go_ret
    exact ⟨rfl, B1.out⟩
  · rw [resB_len s h]
    exact (reserved_len s w h).mono fun e w' ⟨he, hw⟩ => ⟨he, hw ▸ Below.refl _ _⟩
end Go.Proofs.YteighjiocgdgaaaDoor
