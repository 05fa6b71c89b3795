/- The document: the bars. -/
import Derived.Test.YtbllodeanfdebaaGreatDoorRows
import Derived.WalkKit
import Derived.ProofKit
import Derived.OpenShut
import Derived.ShutString
import Derived.ChangeOld
import Derived.Below
import Derived.BigQuiet
import Derived.Deep.QuietTactic
import Derived.Lib.Hide
import Derived.Deep.RegionHeld3
import Derived.Lib.SlBytesConst
import Derived.Laws.CopyOwn
import Derived.Laws.CopyRow
import Derived.Lib.Bytes
import Derived.Deep.LoopGhost
import Derived.Deep.DeepFit
import Derived.Deep.DeepMust
import Derived.WalkSpells
import Derived.WalkLawsBesides
import Derived.Laws.EntriesVeiled
import Derived.Lib.IndexBytes
import Derived.Deep.RegionWith
import Derived.Tactics2
import Derived.Laws.Rows
import Derived.Lib.Replace
import Derived.Lib.Split
import Derived.Lib.ItoaNum
import Derived.Lib.AtoiAllCases
import Derived.Lib.AtoiErrMem
import Derived.Lib.AppendIntMem
import Derived.Maps.OwnOps
import Derived.Maps.OwnSet
import Derived.Maps.Views
import Derived.Maps.AppendAt
import Derived.Deep.AppendLies
import Derived.Defers
import Derived.Recover
import Derived.Laws.Pointers
import Derived.Test.YtbllodeanfdebaaGreatDoorShelf
import Derived.Test.YtbllodeanfdebaaGreatDoorBase
import Derived.Test.YtbllodeanfdebaaGreatDoorCsP
import Derived.Test.YtbllodeanfdebaaGreatDoorCsK
import Derived.Test.YtbllodeanfdebaaGreatDoorCsN
import Derived.Test.YtbllodeanfdebaaGreatDoorCsA
import Derived.Test.YtbllodeanfdebaaGreatDoorCsD
import Derived.Test.YtbllodeanfdebaaGreatDoorCsE
import Derived.Test.YtbllodeanfdebaaGreatDoorCsG
import Derived.Test.YtbllodeanfdebaaGreatDoorCsH
import Derived.Test.YtbllodeanfdebaaGreatDoorCsI
import Derived.Test.YtbllodeanfdebaaGreatDoorCsJ
import Derived.Test.YtbllodeanfdebaaGreatDoorCalm
import Derived.Test.YtbllodeanfdebaaGreatDoorCsL
import Derived.Test.YtbllodeanfdebaaGreatDoorRowS
import Derived.Test.YtbllodeanfdebaaGreatDoorRowG
import Derived.Test.YtbllodeanfdebaaGreatDoorCsO
import Derived.Test.YtbllodeanfdebaaGreatDoorCsM
import Derived.Test.YtbllodeanfdebaaGreatDoorCsN2
import Derived.Test.YtbllodeanfdebaaGreatDoorStL
import Derived.Test.YtbllodeanfdebaaGreatDoorCsO2
import Derived.Test.YtbllodeanfdebaaGreatDoorCsQ
import Derived.Test.YtbllodeanfdebaaGreatDoorStr
import Derived.Test.YtbllodeanfdebaaGreatDoorCsR
import Derived.Test.YtbllodeanfdebaaGreatDoorCsS
import Derived.Test.YtbllodeanfdebaaGreatDoorCsT
import Derived.Test.YtbllodeanfdebaaGreatDoorCsU
import Derived.Test.YtbllodeanfdebaaGreatDoorCsV
import Derived.Test.YtbllodeanfdebaaGreatDoorCsW
import Derived.Test.YtbllodeanfdebaaGreatDoorCsY
import Derived.Test.YtbllodeanfdebaaGreatDoorCsZ
import Derived.Test.YtbllodeanfdebaaGreatDoorCsPa
import Derived.Test.YtbllodeanfdebaaGreatDoorRpC
import Derived.Test.YtbllodeanfdebaaGreatDoorCtA
import Derived.Test.YtbllodeanfdebaaGreatDoorCtB
namespace Go.Proofs.YtbllodeanfdebaaGreatDoor
open Go.ChangeShapes Go.WideShapes Go.ChangeAt Go.RowKit
set_option linter.unusedVariables false
def takenV (n : Nat) : Option (List UInt8 × List (List UInt8)) → Value
  | some (d, r) => .tuple #[.string ⟨d.toArray⟩, .int .i64 ((n - r.length : Nat) : Int)]
  | none => .tuple #[.string ⟨#[]⟩, .int .i64 (-1)]
theorem drop_at_l {ls : List (List UInt8)} {i : Nat} {y : List UInt8} (h : ls[i]? = some y) : ls.drop i = y :: ls.drop (i + 1) := by
  obtain ⟨hk, e⟩ := List.getElem?_eq_some_iff.1 h
  rw [List.drop_eq_getElem_cons hk, e]
theorem run_sIdx0 (c : UInt8) (z : List UInt8) (w : World) : (Instr.index 9 (.string ⟨(c :: z).toArray⟩) (.int .i64 0)).run Tryz.prog w = .ok (.int .u8 ((c.toNat : Nat) : Int)) w := run_strIndex (c :: z) 0 (by simp) w
set_option linter.unusedSimpArgs false in
set_option maxRecDepth 100000 in
set_option maxHeartbeats 16000000 in
theorem refTaken_c (A : Option Addr) (n cap : Nat) (ls : List (List UInt8)) (k : Nat) (w : World) (h : RRd cS1 1 w w.heap.size A n cap ls) (hn : n ≤ 1500) (hk : k ≤ n) (hm : (unl ls []).length ≤ 60000) :
    Calls Tryz.prog 27 #[.slice A n cap, .int .i64 (k : Int)] w fun e w' => e = .returned (takenV n (barsP (ls.drop k))) ∧ w = w' := by
  have HP := Lib.hid h
  have HLN := Lib.hid h.len
  have hn1 : (n : Int) ≤ 1500 := by omega
  have hk1 : (k : Int) ≤ 1500 := by omega
  have hlen0 : (unl (ls.drop k) []).length ≤ 60000 := by
    have := unl_suf (ls.take k) (ls.drop k) []
    rw [List.take_append_drop] at this
    omega
  have HL0 := Lib.hid hlen0
  clear h hlen0
  go_enter Tryz.func27, Tryz.ntmps27
  go_wp2_with fail
  go_loopg [6, 7] (n + 2 + k) (fun g s j wr => ∃ (i : Nat) (acc : List UInt8), s = .string ⟨acc.toArray⟩ ∧ j = .int .i64 (i : Int) ∧ k ≤ i ∧ i ≤ n ∧ wr = w ∧ Hid (g + i = n + 2 + k + k) ∧ Hid (acc.length + (unl (ls.drop i) []).length ≤ 60000 ∧ ((i = k ∧ acc = []) ∨ barsP (ls.drop k) = some (barsG acc (ls.drop i))) ∧ (i = k → acc = [])))
  case atStart => exact ⟨k, [], rfl, rfl, Nat.le_refl _, by omega, rfl, Lib.hid rfl, Lib.hid ⟨by have := HL0.out; simpa using this, .inl ⟨rfl, rfl⟩, fun _ => rfl⟩⟩
  case round =>
    obtain ⟨i, acc, rfl, rfl, hki, hin, rfl, hg, HR⟩ := hrel
    have hi1 : (i : Int) ≤ 1500 := by omega
    have hki1 : (k : Int) ≤ (i : Int) := by omega
    by_cases hil : i < n
    · have hil1 : (i : Int) < (n : Int) := by omega
      obtain ⟨b, o, y, rfl, hb, hy, hc⟩ := HP.out.cell hil
      have y0 : wr.cell? ⟨b, o + i, none⟩ = some (.string ⟨y.toArray⟩) := by rw [show o + i = o + (i * 1 + 0) by omega]; exact hc 0 _ rfl
      have hd := drop_at_l hy
      clear hb hc hy
      rcases y with _ | ⟨c, z⟩
      · have HST : Hid (∀ x, (ls.drop i).head? = some x → x.head? ≠ some 124) := Lib.hid fun x hx => by rw [hd] at hx; simp at hx; subst hx; simp
        clear hd
        by_cases hik : i = k
        · subst hik
          have hB : barsP (ls.drop i) = none := barsP_none _ HST.out
          have HB := Lib.hid hB
          clear hB
          go_wp2
          go_ret2
          exact ⟨by rw [HB.out]; rfl, rfl⟩
        · have hik1 : ¬ (i : Int) = (k : Int) := by omega
          have hB : barsP (ls.drop k) = some (acc, ls.drop i) := by rw [← barsG_stop acc _ HST.out]; exact HR.out.2.1.resolve_left (fun h => hik h.1)
          have HB := Lib.hid hB
          clear hB
          go_wp2
          go_ret2
          refine ⟨?_, rfl⟩
          rw [HB.out]
          show _ = Ending.returned (.tuple #[.string ⟨acc.toArray⟩, .int .i64 ((n - (ls.drop i).length : Nat) : Int)])
          rw [List.length_drop, HLN.out, show n - (n - i) = i by omega]
          rfl
      · have hix := fun W => run_sIdx0 c z W
        have hl8 := lt8_of c
        have hzl : z.length ≤ 60000 := by have := HR.out.1; rw [hd, unl_len] at this; simp at this; omega
        by_cases hc : c = 124
        · subst hc
          have h124 : ((UInt8.toNat 124 : Nat) : Int) = 124 := rfl
          rw [h124] at hix
          have hsl := fun W => run_sFrom (124 :: z) 1 (by simp) W
          rw [show List.drop 1 (124 :: z) = z from rfl] at hsl
          have hsl2 : ∀ W, (Instr.slice 9 (.string ⟨(124 :: z).toArray⟩) (some (.int .i64 1)) none none).run Tryz.prog W = .ok (.string ⟨z.toArray⟩) W := hsl
          have hal : acc.length ≤ 60000 := by have := HR.out.1; omega
          by_cases hik : i = k
          · subst hik
            have ha : acc = [] := HR.out.2.2 rfl
            subst ha
            have hop := fun W => run_sop (w := W) [] z (by simp; omega)
            have hop2 := fun W => run_catC (w := W) [] z (by simp; omega)
            rw [List.nil_append] at hop hop2
            have HN : Hid (z.length + (unl (ls.drop (i + 1)) []).length ≤ 60000 ∧ barsP (ls.drop i) = some (barsG z (ls.drop (i + 1)))) := Lib.hid ⟨by have := HR.out.1; rw [hd, unl_len] at this; simp at this; omega, by rw [hd]; rfl⟩
            clear hd hsl hal hl8
            go_wp2
            go_roundg (n + 2 + i + i - (i + 1))
            case measure => have := hg.out; omega
            case rel => exact ⟨i + 1, z, rfl, by go_num, by omega, by omega, rfl, Lib.hid (by omega), Lib.hid ⟨HN.out.1, .inr HN.out.2, fun e => by omega⟩⟩
          · have hik1 : (k : Int) < (i : Int) := by omega
            have hop := fun W => run_sop (w := W) acc [10] (by simp; omega)
            have hop2 := fun W => run_catC (w := W) acc [10] (by simp; omega)
            have hop3 := fun W => run_sop (w := W) (acc ++ [10]) z (by simp; omega)
            have hop4 := fun W => run_catC (w := W) (acc ++ [10]) z (by simp; omega)
            have hacc : acc ++ [10] ++ z = acc ++ 10 :: z := by simp
            rw [hacc] at hop3 hop4
            have HN : Hid ((acc ++ 10 :: z).length + (unl (ls.drop (i + 1)) []).length ≤ 60000 ∧ barsP (ls.drop k) = some (barsG (acc ++ 10 :: z) (ls.drop (i + 1)))) := Lib.hid ⟨by have := HR.out.1; rw [hd, unl_len] at this; simp at this ⊢; omega, by
              have h9 := HR.out.2.1.resolve_left (fun h => hik h.1)
              rw [hd, barsG_step] at h9
              exact h9⟩
            generalize acc ++ [10] = a1 at *
            generalize acc ++ 10 :: z = a2 at *
            clear hd hsl hal hl8 hacc
            go_wp2
            go_roundg (n + 2 + k + k - (i + 1))
            case measure => have := hg.out; omega
            case rel => exact ⟨i + 1, a2, rfl, by go_num, by omega, by omega, rfl, Lib.hid (by omega), Lib.hid ⟨HN.out.1, .inr HN.out.2, fun e => by omega⟩⟩
        · have hz : ¬ ((c.toNat : Nat) : Int) = 124 := fun e => hc (UInt8.toNat_inj.1 (by show c.toNat = 124; omega))
          have HST : Hid (∀ x, (ls.drop i).head? = some x → x.head? ≠ some 124) := Lib.hid fun x hx => by rw [hd] at hx; simp at hx; subst hx; simpa using hc
          have hcl : ((c :: z).length : Int) = (z.length : Int) + 1 := by simp
          clear hd hc
          generalize ((c.toNat : Nat) : Int) = zz at *
          by_cases hik : i = k
          · subst hik
            have hB : barsP (ls.drop i) = none := barsP_none _ HST.out
            have HB := Lib.hid hB
            clear hB
            go_wp2
            go_ret2
            exact ⟨by rw [HB.out]; rfl, rfl⟩
          · have hik1 : ¬ (i : Int) = (k : Int) := by omega
            have hB : barsP (ls.drop k) = some (acc, ls.drop i) := by rw [← barsG_stop acc _ HST.out]; exact HR.out.2.1.resolve_left (fun h => hik h.1)
            have HB := Lib.hid hB
            clear hB
            go_wp2
            go_ret2
            refine ⟨?_, rfl⟩
            rw [HB.out]
            show _ = Ending.returned (.tuple #[.string ⟨acc.toArray⟩, .int .i64 ((n - (ls.drop i).length : Nat) : Int)])
            rw [List.length_drop, HLN.out, show n - (n - i) = i by omega]
            rfl
    · have hil1 : ¬ (i : Int) < (n : Int) := by omega
      have HST : Hid (∀ x, (ls.drop i).head? = some x → x.head? ≠ some 124) := Lib.hid fun x hx => by rw [List.drop_of_length_le (by rw [HLN.out]; omega)] at hx; cases hx
      by_cases hik : i = k
      · subst hik
        have hB : barsP (ls.drop i) = none := barsP_none _ HST.out
        have HB := Lib.hid hB
        clear hB
        go_wp2
        go_ret2
        exact ⟨by rw [HB.out]; rfl, rfl⟩
      · have hik1 : ¬ (i : Int) = (k : Int) := by omega
        have hB : barsP (ls.drop k) = some (acc, ls.drop i) := by rw [← barsG_stop acc _ HST.out]; exact HR.out.2.1.resolve_left (fun h => hik h.1)
        have HB := Lib.hid hB
        clear hB
        go_wp2
        go_ret2
        refine ⟨?_, rfl⟩
        rw [HB.out]
        show _ = Ending.returned (.tuple #[.string ⟨acc.toArray⟩, .int .i64 ((n - (ls.drop i).length : Nat) : Int)])
        rw [List.length_drop, HLN.out, show n - (n - i) = i by omega]
        rfl
end Go.Proofs.YtbllodeanfdebaaGreatDoor
