/- The reference's line ends, and the page's example: walks. -/
import Derived.Test.YtljplmidnlahpaaRows
import Derived.WalkKit
import Derived.ProofKit
import Derived.OpenShut
import Derived.ShutString
import Derived.ChangeOld
import Derived.Below
import Derived.BigQuiet
import Derived.Deep.QuietTactic
import Derived.Lib.Hide
import Derived.Deep.RegionHeld3
import Derived.Lib.SlBytesConst
import Derived.Laws.CopyOwn
import Derived.Laws.CopyRow
import Derived.Lib.Bytes
import Derived.Deep.LoopGhost
import Derived.Deep.DeepFit
import Derived.Deep.DeepMust
import Derived.WalkSpells
import Derived.WalkLawsBesides
import Derived.Test.YtljplmidnlahpaaBase
import Derived.Test.YtljplmidnlahpaaShelf
import Derived.Test.YtljplmidnlahpaaEolPlain
import Derived.Test.YtljplmidnlahpaaEolWalks
import Derived.Test.YtljplmidnlahpaaEolNorm
namespace Go.Proofs.Ytljplmidnlahpaa
open Go.ChangeShapes Go.WideShapes Go.ChangeAt Go.RowKit
set_option linter.unusedVariables false
set_option maxHeartbeats 1000000 in
theorem refNorm_c (A : Option Addr) (n cap : Nat) (l : List UInt8) (w : World) (B : Nat) (h : Byt w B A n cap l) (hB : B ≤ w.heap.size) (hm : n ≤ 1000000) :
    Calls Try.prog 32 #[.slice A n cap] w fun e w' => ∃ A' m c, e = .returned (.slice A' m c) ∧ Byt w' w'.heap.size A' m c (nrm l) ∧ Below w.heap.size w w' := by
  have HL := Lib.hid h.length
  go_enter Try.func32, Try.ntmps32
  go_wp2
  go_loopg [3, 4] (n) (fun k v i wr => ∃ (j m : Nat), j ≤ n ∧ k = n - j ∧ i = .int .i64 j ∧ m = (nrmTo l j).length ∧
    wr.ownsRow w.heap.size 5 1 v m ((nrmTo l j).map bv) ∧ Below w.heap.size w wr)
  case atStart => exact ⟨0, 0, Nat.zero_le _, rfl, rfl, rfl, World.ownsRow_nil _ _ _ _, Below.refl _ _⟩
  case round =>
    obtain ⟨j, m, hj, rfl, rfl, hmm, hown, hb⟩ := hrel
    have hmj := nrmTo_le l j
    rw [← hmm] at hmj
    by_cases hlt : j < n
    · obtain ⟨b, o, x, rfl, hbB, hx, hcx⟩ := h.cell (i := j) hlt
      have hcx' : wr.cell? ⟨b, o + j, none⟩ = some (.int .u8 (x.toNat : Int)) := by rw [hb.cell (by simpa using Nat.lt_of_lt_of_le hbB hB)]; exact hcx
      have HX := Lib.hid (And.intro hx hmm)
      clear hx hcx hmm
      have hjn : (j : Int) < (n : Int) := by omega
      have hsz := hb.size
      by_cases hx13 : x = 13
      · subst hx13
        by_cases hlast : j + 1 < n
        · obtain ⟨b', o', y, hA, hbB', hy, hcy⟩ := h.cell (i := j + 1) hlast
          cases hA
          have hcy' : wr.cell? ⟨b, o + (j + 1), none⟩ = some (.int .u8 (y.toNat : Int)) := by rw [hb.cell (by simpa using Nat.lt_of_lt_of_le hbB hB)]; exact hcy
          have hj1 : (j : Int) + 1 < (n : Int) := by omega
          have hj2 : ((j : Int) + 1 == (n : Int)) = false := by simp; omega
          by_cases hy10 : y = 10
          · subst hy10
            have HY := Lib.hid hy
            clear hy hcy
            go_wp2
            go_roundg (n - (j + 1))
            case measure => omega
            case rel =>
              have hkp : kp l j = [] := by simp [kp, HX.out.1, HY.out]
              exact ⟨j + 1, m, by omega, rfl, rfl, by rw [nrmTo, hkp, List.append_nil]; exact HX.out.2, by rw [nrmTo, hkp, List.append_nil]; exact hown, hb⟩
          · have ht : ((y.toNat : Int) != 10) = true := by
              have := toNat_eq y 10
              rw [decide_eq_false hy10] at this; exact bne_iff_ne.2 (by simpa using this)
            have HY := Lib.hid (And.intro hy hy10)
            clear hy hcy hy10
            go_wp2_with (at_builtin; refine wpList_app1 rfl (.tmp 36) (.tmp 37) 48 5 rfl (.int .u8 0) 1 Try.underlying48 info_u8 rfl w.heap.size _ m _ rfl hown (.int .u8 10) rfl rfl ?c1 (by decide) hsz w w.heap.size hb (Nat.le_refl _) ?c2)
            case c1 => omega
            case c2 =>
              intro v' w1 hown' hb1 hs1
              go_wp2
              go_roundg (n - (j + 1))
              case measure => omega
              case rel =>
                have hkp : kp l j = [10] := by simp [kp, HX.out.1, HY.out.1, HY.out.2]
                exact ⟨j + 1, m + 1, by omega, rfl, rfl, by rw [nrmTo, hkp, List.length_append, ← HX.out.2]; rfl, by rw [nrmTo, hkp, List.map_append]; exact hown', hb1⟩
        · have hj2 : ((j : Int) + 1 == (n : Int)) = true := by simp; omega
          have HY := Lib.hid (show l[j + 1]? = none from List.getElem?_eq_none (by rw [HL.out]; omega))
          go_wp2_with (at_builtin; refine wpList_app1 rfl (.tmp 36) (.tmp 37) 48 5 rfl (.int .u8 0) 1 Try.underlying48 info_u8 rfl w.heap.size _ m _ rfl hown (.int .u8 10) rfl rfl ?c1 (by decide) hsz w w.heap.size hb (Nat.le_refl _) ?c2)
          case c1 => omega
          case c2 =>
            intro v' w1 hown' hb1 hs1
            go_wp2
            go_roundg (n - (j + 1))
            case measure => omega
            case rel =>
              have hkp : kp l j = [10] := by simp [kp, HX.out.1, HY.out]
              exact ⟨j + 1, m + 1, by omega, rfl, rfl, by rw [nrmTo, hkp, List.length_append, ← HX.out.2]; rfl, by rw [nrmTo, hkp, List.map_append]; exact hown', hb1⟩
      · have ht : ((x.toNat : Int) != 13) = true := by
          have := toNat_eq x 13
          rw [decide_eq_false hx13] at this; exact bne_iff_ne.2 (by simpa using this)
        have HN := Lib.hid hx13
        clear hx13
        go_wp2_with (at_builtin; refine wpList_app1 rfl (.tmp 16) (.tmp 21) 48 5 rfl (.int .u8 0) 1 Try.underlying48 info_u8 rfl w.heap.size _ m _ rfl hown (bv x) rfl rfl ?c1 (by decide) hsz w w.heap.size hb (Nat.le_refl _) ?c2)
        case c1 => omega
        case c2 =>
          intro v' w1 hown' hb1 hs1
          go_wp2
          go_roundg (n - (j + 1))
          case measure => omega
          case rel =>
            have hkp : kp l j = [x] := by simp [kp, HX.out.1, HN.out]
            exact ⟨j + 1, m + 1, by omega, rfl, rfl, by rw [nrmTo, hkp, List.length_append, ← HX.out.2]; rfl, by rw [nrmTo, hkp, List.map_append]; exact hown', hb1⟩
    · have hje : j = n := by omega
      subst hje
      have hjj : ¬ (j : Int) < (j : Int) := by omega
      have HM := Lib.hid hmm
      clear hmm
      go_wp2
      go_ret
      obtain ⟨A', c, hv, hrd⟩ := own_form hown
      refine ⟨A', m, c, by rw [← hv]; rfl, ?_, hb⟩
      have hnr : nrm l = nrmTo l j := by rw [nrm, HL.out]
      rw [hnr]; exact hrd

theorem eolIs_c (A : Option Addr) (n cap : Nat) (l : List UInt8) (w : World) (B : Nat) (h : Byt w B A n cap l) :
    Calls Try.prog 33 #[.slice A n cap] w fun e w' => e = .returned (.bool (decide (Lib.indexByte l 13 < 0))) ∧ w = w' := by
  go_enter Try.func33, Try.ntmps33
  go_wp2_with (go_at_call 40; refine (indexByte_c A n cap l 13 w B h).mono ?_; rintro e w' ⟨rfl, rfl⟩)
  go_ret
  exact ⟨rfl, rfl⟩

theorem live_norm : nrm [97, 13, 10, 98, 13, 99] = [97, 10, 98, 10, 99] := by decide
theorem live_whr : whr (List.take 4 [97, 10, 98, 10, 99]) = (3, 0) := by decide
set_option maxHeartbeats 400000 in
theorem liveEol_ok (w : World) : Calls Try.prog 27 #[] w fun e w' => e = .returned (.bool true) ∧ Below w.heap.size w w' := by
  have kc := fun (w : World) (C : Array Value) (n c : Nat) => Lib.run_convert_bytes_const (P := Try.prog) w 48 5 C n c Try.underlying48 Try.underlying5
  go_enter Try.func27, Try.ntmps27
  go_wp2_with fail
  refine (norm_c (some ⟨w.heap.size, 0, none⟩) 6 6 _ _ (w.heap.size + 1) (Byt.const w [97, 13, 10, 98, 13, 99] (6, 7) (by decide)) (by simp) (by omega)).mono ?_
  rintro e w1 ⟨A, m, rfl, hb, hbel⟩
  rw [live_norm] at hb
  have hm := hb.length
  obtain rfl : m = 5 := by simpa using hm.symm
  clear hm kc
  have hb2 : Below w.heap.size w w1 := ((Below.refl _ _).alloc (Nat.le_refl _) _).trans (hbel.mono (by simp))
  have HB := Lib.hid hb2
  clear hbel hb2
  go_wp2_with fail
  refine (eolWhere A 5 5 _ 4 w1 _ hb (Nat.le_refl _) (by omega) (by omega)).mono ?_
  rintro e w2 ⟨rfl, b2⟩
  rw [live_whr]
  have hstr := (hb.below b2).str
  have hsz := HB.out.size
  clear hb
  go_wp2
  go_ret
  exact ⟨rfl, HB.out.trans (b2.mono hsz)⟩
end Go.Proofs.Ytljplmidnlahpaa
