/- The document: lines, what begins so. -/
import Derived.Test.YtbllodeanfdebaaGreatDoorRows
import Derived.WalkKit
import Derived.ProofKit
import Derived.OpenShut
import Derived.ShutString
import Derived.ChangeOld
import Derived.Below
import Derived.BigQuiet
import Derived.Deep.QuietTactic
import Derived.Lib.Hide
import Derived.Deep.RegionHeld3
import Derived.Lib.SlBytesConst
import Derived.Laws.CopyOwn
import Derived.Laws.CopyRow
import Derived.Lib.Bytes
import Derived.Deep.LoopGhost
import Derived.Deep.DeepFit
import Derived.Deep.DeepMust
import Derived.WalkSpells
import Derived.WalkLawsBesides
import Derived.Laws.EntriesVeiled
import Derived.Lib.IndexBytes
import Derived.Deep.RegionWith
import Derived.Tactics2
import Derived.Laws.Rows
import Derived.Lib.Replace
import Derived.Lib.Split
import Derived.Lib.ItoaNum
import Derived.Lib.AtoiAllCases
import Derived.Lib.AtoiErrMem
import Derived.Lib.AppendIntMem
import Derived.Maps.OwnOps
import Derived.Maps.OwnSet
import Derived.Maps.Views
import Derived.Maps.AppendAt
import Derived.Deep.AppendLies
import Derived.Defers
import Derived.Recover
import Derived.Laws.Pointers
import Derived.Test.YtbllodeanfdebaaGreatDoorShelf
import Derived.Test.YtbllodeanfdebaaGreatDoorBase
import Derived.Test.YtbllodeanfdebaaGreatDoorCsP
import Derived.Test.YtbllodeanfdebaaGreatDoorCsK
import Derived.Test.YtbllodeanfdebaaGreatDoorCsN
import Derived.Test.YtbllodeanfdebaaGreatDoorCsA
import Derived.Test.YtbllodeanfdebaaGreatDoorCsD
import Derived.Test.YtbllodeanfdebaaGreatDoorCsE
import Derived.Test.YtbllodeanfdebaaGreatDoorCsG
import Derived.Test.YtbllodeanfdebaaGreatDoorCsH
import Derived.Test.YtbllodeanfdebaaGreatDoorCsI
import Derived.Test.YtbllodeanfdebaaGreatDoorCsJ
import Derived.Test.YtbllodeanfdebaaGreatDoorCalm
import Derived.Test.YtbllodeanfdebaaGreatDoorCsL
import Derived.Test.YtbllodeanfdebaaGreatDoorRowS
import Derived.Test.YtbllodeanfdebaaGreatDoorRowG
import Derived.Test.YtbllodeanfdebaaGreatDoorCsO
import Derived.Test.YtbllodeanfdebaaGreatDoorCsM
import Derived.Test.YtbllodeanfdebaaGreatDoorCsN2
import Derived.Test.YtbllodeanfdebaaGreatDoorStL
import Derived.Test.YtbllodeanfdebaaGreatDoorCsO2
import Derived.Test.YtbllodeanfdebaaGreatDoorCsQ
import Derived.Test.YtbllodeanfdebaaGreatDoorStr
import Derived.Test.YtbllodeanfdebaaGreatDoorCsR
import Derived.Test.YtbllodeanfdebaaGreatDoorCsS
import Derived.Test.YtbllodeanfdebaaGreatDoorCsT
import Derived.Test.YtbllodeanfdebaaGreatDoorCsU
import Derived.Test.YtbllodeanfdebaaGreatDoorCsV
import Derived.Test.YtbllodeanfdebaaGreatDoorCsW
import Derived.Test.YtbllodeanfdebaaGreatDoorCsY
import Derived.Test.YtbllodeanfdebaaGreatDoorCsZ
import Derived.Test.YtbllodeanfdebaaGreatDoorCsPa
namespace Go.Proofs.YtbllodeanfdebaaGreatDoor
open Go.ChangeShapes Go.WideShapes Go.ChangeAt Go.RowKit
set_option linter.unusedVariables false
theorem run_sTo (l : List UInt8) (j : Nat) (hj : j ≤ l.length) (w : World) :
    (Instr.slice 9 (.string ⟨l.toArray⟩) none (some (.int .i64 (j : Int))) none).run Tryz.prog w = .ok (.string ⟨(l.take j).toArray⟩) w := by
  have hsz : (⟨l.toArray⟩ : ByteArray).size = l.length := by simp [ByteArray.size]
  rw [run_slice_string_h (P := Tryz.prog) (w := w) (t := 9) (s := ⟨l.toArray⟩) Tryz.underlying9 .i64 (j : Int) (by omega) (by rw [hsz]; omega)]
  congr 2
  refine ByteArray.ext (Array.toList_inj.1 ?_)
  rw [Lib.extract_data]
  simp
theorem begins_take (w s : List UInt8) (h : w.length < s.length) : beginsL w s = decide (s.take w.length = w) := by
  unfold beginsL
  rw [decide_eq_true h, Bool.and_true]
  by_cases hp : w.isPrefixOf s = true
  · rw [hp]
    obtain ⟨t, rfl⟩ := List.isPrefixOf_iff_prefix.1 hp
    simp
  · have : w.isPrefixOf s = false := Bool.eq_false_iff.2 hp
    rw [this]
    refine (decide_eq_false fun e => hp ?_).symm
    exact List.isPrefixOf_iff_prefix.2 ⟨s.drop w.length, by conv => lhs; lhs; rw [← e]
                                                            exact List.take_append_drop _ _⟩
set_option linter.unusedSimpArgs false in
set_option maxRecDepth 100000 in
set_option maxHeartbeats 4000000 in
theorem begins_c (s wd : List UInt8) (w : World) (hs : s.length ≤ 60000) (hd : wd.length ≤ 100) : Calls Tryz.prog 26 #[.string ⟨s.toArray⟩, .string ⟨wd.toArray⟩] w fun e w' => e = .returned (.bool (beginsL wd s)) ∧ w = w' := by
  have hs1 : (s.length : Int) ≤ 60000 := by omega
  have hd1 : (wd.length : Int) ≤ 100 := by omega
  by_cases h : wd.length < s.length
  · have h1 : (wd.length : Int) < (s.length : Int) := by omega
    have hsl := fun W => run_sTo s wd.length (by omega) W
    rw [begins_take wd s h]
    obtain ⟨t, ht⟩ : ∃ t, s.take wd.length = t := ⟨_, rfl⟩
    rw [ht] at hsl ⊢
    clear ht
    by_cases he : t = wd
    · subst he
      have hse := str_beqC t
      rw [decide_eq_true rfl]
      go_enter Tryz.func26, Tryz.ntmps26
      go_wp2
      go_ret
      exact ⟨by simp, rfl⟩
    · have hse := str_bneC he
      rw [decide_eq_false he]
      go_enter Tryz.func26, Tryz.ntmps26
      go_wp2
      go_ret
      exact ⟨by simp [he], rfl⟩
  · have h1 : ¬ (wd.length : Int) < (s.length : Int) := by omega
    have hb : beginsL wd s = false := by unfold beginsL; rw [decide_eq_false h, Bool.and_false]
    rw [hb]
    go_enter Tryz.func26, Tryz.ntmps26
    go_wp2
    go_ret
    exact ⟨rfl, rfl⟩
set_option linter.unusedSimpArgs false in
set_option maxRecDepth 100000 in
set_option maxHeartbeats 16000000 in
theorem refLines_c (text : List UInt8) (w : World) (hm : text.length ≤ 1500) : Calls Tryz.prog 24 #[.string ⟨text.toArray⟩] w fun e w' => (∃ v, e = .returned (.tuple #[v, .bool (decide ((linesP text).2 = []))]) ∧ OwnS w' w.heap.size v (linesP text).1) ∧ Below w.heap.size w w' := by
  have hm1 : (text.length : Int) ≤ 1500 := by omega
  have HM := Lib.hid hm
  go_enter Tryz.func24, Tryz.ntmps24
  go_wp2_with fail
  go_loopg [4, 5, 6] text.length (fun g v f i wr => ∃ (k j : Nat) (op : List (List UInt8)) (v0 : Value), v0 = v ∧ f = .int .i64 (j : Int) ∧ i = .int .i64 (k : Int) ∧ j ≤ k ∧ k ≤ text.length ∧ Hid (g + k = text.length) ∧ Hid (linesP (text.take k) = (op, (text.take k).drop j) ∧ op.length ≤ k) ∧ Hid (OwnS wr w.heap.size v0 op ∧ Below w.heap.size w wr))
  case atStart => exact ⟨0, 0, [], _, rfl, rfl, rfl, Nat.le_refl _, Nat.zero_le _, Lib.hid rfl, Lib.hid ⟨by simp [linesP], Nat.le_refl _⟩, Lib.hid ⟨OwnS.start _ _, Below.refl _ _⟩⟩
  case round =>
    obtain ⟨k, j, op, v, rfl, rfl, rfl, hjk, hk, hg, HP, HO⟩ := hrel
    have hjk1 : (j : Int) ≤ (k : Int) := by omega
    have hk9 : (k : Int) ≤ 1500 := by omega
    by_cases hkn : k < text.length
    · have hk1 : (k : Int) < (text.length : Int) := by omega
      obtain ⟨x, hx⟩ : ∃ x, text[k]? = some x := ⟨_, List.getElem?_eq_getElem hkn⟩
      have hix := fun W => run_strIndex text k hkn W
      rw [List.getD_eq_getElem?_getD, hx, Option.getD_some] at hix
      have htk : text.take (k + 1) = text.take k ++ [x] := by rw [List.take_add_one, hx]; rfl
      by_cases hx10 : x = 10
      · subst hx10
        have hls : linesP (text.take (k + 1)) = (op ++ [(text.take k).drop j], []) := by rw [htk, lines_snoc_lf, HP.out.1]
        have hsl := fun W => run_strSlice text j k hjk (by omega) W
        have hdt : (text.drop j).take (k - j) = (text.take k).drop j := by rw [List.drop_take]
        rw [hdt] at hsl
        obtain ⟨z, hz⟩ : ∃ z, (text.take k).drop j = z := ⟨_, rfl⟩
        rw [hz] at hsl hls
        have hown : wr.ownsRow w.heap.size 9 1 v op.length (op.map strV) := HO.out.1
        have hop : op.length ≤ 1000000000 := by have := HP.out.2; have := HM.out; omega
        have hba : w.heap.size ≤ wr.heap.size := HO.out.2.size
        have HLS := Lib.hid hls
        clear hx htk hdt hz hls
        go_wp2_with (at_builtin; refine wpList_appK rfl (.tmp 17) (.tmp 22) 24 9 rfl (.string ⟨#[]⟩) 1 16 Tryz.underlying24 info_str rfl (by decide) _ _ _ _ rfl hown [strV z] _ rfl rfl rfl (by simp [strV, Value.oneCell']) hop (by decide) hba ?_)
        intro v7 w7 hown7 hg7 hat7
        have HO7 : Hid (OwnS w7 w.heap.size v7 (op ++ [z]) ∧ Below w.heap.size w w7) := Lib.hid ⟨by unfold OwnS; rw [List.length_append, List.map_append]; exact hown7, (HO.out.2.trans ((Below.refl w.heap.size wr).alloc hba _)).grown hg7 (by rw [World.size_alloc]; omega) fun q e => own_geS HO.out.1 e⟩
        clear hown7 hg7 hat7 hown hba
        go_wp2
        go_roundg (text.length - (k + 1))
        case measure => have := hg.out; omega
        case rel => exact ⟨k + 1, k + 1, op ++ [z], _, rfl, by go_num, by go_num, Nat.le_refl _, by omega, Lib.hid (by omega), Lib.hid ⟨by rw [HLS.out, List.drop_of_length_le (by rw [List.length_take]; omega)], by have := HP.out.2; rw [List.length_append]; simp; omega⟩, HO7⟩
      · have hls : linesP (text.take (k + 1)) = (op, (text.take k).drop j ++ [x]) := by rw [htk, lines_snoc _ _ hx10, HP.out.1]
        have hd : (text.take k).drop j ++ [x] = (text.take (k + 1)).drop j := by rw [htk, List.drop_append_of_le_length (by rw [List.length_take]; omega)]
        rw [hd] at hls
        have HLS := Lib.hid hls
        have hz : ¬ ((UInt8.toNat x : Nat) : Int) = 10 := fun e => hx10 (UInt8.toNat_inj.1 (by show x.toNat = 10; omega))
        generalize ((UInt8.toNat x : Nat) : Int) = z at *
        clear hx htk hls hd hx10
        go_wp2
        go_roundg (text.length - (k + 1))
        case measure => have := hg.out; omega
        case rel => exact ⟨k + 1, j, op, _, rfl, rfl, by go_num, by omega, by omega, Lib.hid (by omega), Lib.hid ⟨HLS.out, by have := HP.out.2; omega⟩, HO⟩
    · have hk1 : ¬ (k : Int) < (text.length : Int) := by omega
      obtain rfl : k = text.length := by omega
      have hP := HP.out.1
      rw [List.take_length] at hP
      have hj : (decide (text.drop j = [])) = decide ((j : Int) = (text.length : Int)) := by
        by_cases h : j = text.length
        · rw [h, List.drop_length]; simp
        · rw [decide_eq_false (show ¬ (j : Int) = (text.length : Int) by omega), decide_eq_false]
          intro e
          have := congrArg List.length e
          rw [List.length_drop] at this
          simp at this
          omega
      have HPJ := Lib.hid (And.intro hP hj)
      clear hP hj
      go_wp2
      go_ret2
      refine ⟨⟨v, ?_, by rw [HPJ.out.1]; exact HO.out.1⟩, HO.out.2⟩
      rw [HPJ.out.1]
      simp only [HPJ.out.2]
      rfl
end Go.Proofs.YtbllodeanfdebaaGreatDoor
