/- Texts of ours, joined: GsD, RfN, GrB, GrC, GoA. -/
import Derived.Test.YtfemfgkcgboopaaGreatDoorRows
import Derived.WalkKit
import Derived.ProofKit
import Derived.OpenShut
import Derived.ShutString
import Derived.ChangeOld
import Derived.Below
import Derived.BigQuiet
import Derived.Deep.QuietTactic
import Derived.Lib.Hide
import Derived.Deep.RegionHeld3
import Derived.Lib.SlBytesConst
import Derived.Laws.CopyOwn
import Derived.Laws.CopyRow
import Derived.Lib.Bytes
import Derived.Deep.LoopGhost
import Derived.Deep.DeepFit
import Derived.Deep.DeepMust
import Derived.WalkSpells
import Derived.WalkLawsBesides
import Derived.Laws.EntriesVeiled
import Derived.Laws.Rows
import Derived.Maps.OwnOps
import Derived.Maps.OwnSet
import Derived.Maps.Views
import Derived.Maps.AppendAt
import Derived.Lib.SmallJoins
import Derived.Deep.AppendLies
import Derived.Lib.UnsafeStr
import Derived.Lib.Builder
import Derived.Test.YtfemfgkcgboopaaGreatDoorQ1
import Derived.Test.YtfemfgkcgboopaaGreatDoorQ13
import Derived.Test.YtfemfgkcgboopaaGreatDoorQ14
import Derived.Test.YtfemfgkcgboopaaGreatDoorQ18
import Derived.Test.YtfemfgkcgboopaaGreatDoorQ19
import Derived.DeepKeys4
import Derived.MapViews
import Derived.Maps.Keyed
import Derived.Test.YtfemfgkcgboopaaGreatDoorQ16
import Derived.Test.YtfemfgkcgboopaaGreatDoorQ2
import Derived.Test.YtfemfgkcgboopaaGreatDoorQ3
import Derived.Test.YtfemfgkcgboopaaGreatDoorQ4
import Derived.Test.YtfemfgkcgboopaaGreatDoorQ9
import Derived.Test.YtfemfgkcgboopaaGreatDoorQ10
import Derived.Test.YtfemfgkcgboopaaGreatDoorQ17
import Derived.Deep.RegionLaw
import Derived.Deep.RegionWith
import Derived.RangeFuncNested
import Derived.RangeFuncBound
import Derived.RangeFuncCalls
import Derived.RangeFuncLeaves
import Derived.RangeFuncBox
import Derived.RangeFuncWrites
import Derived.Shelf.Abstract
import Derived.Shelf.RegionOpen
import Derived.OwnWalkIn
import Derived.TacticsInMore
import Derived.LoopNIn
import Derived.LoopIn
import Derived.Maps.OwnIn
/- The string of a maker. -/
namespace Go.Proofs.YtfemfgkcgboopaaGreatDoor
open Go.ChangeShapes Go.WideShapes Go.ChangeAt Go.RowKit
set_option linter.unusedVariables false
set_option maxRecDepth 100000 in
set_option maxHeartbeats 2000000 in
theorem stringM_nil (m : Nat) (w : World) (c1 : w.drew.cell? ⟨m, 4, none⟩ = some (.slice none 0 0)) :
    Calls Tryz.prog 28 #[.pointer (some ⟨m, 3, none⟩)] w fun e w' => e = .returned (.string ⟨#[]⟩) ∧ Below m w w' := by
  have hUS := fun (W : World) (q : Option Addr) => Lib.run_unsafeString_none (P := Tryz.prog) W 109 3 9 q
  have hSD : (Builtin.unsafeSliceData_ #[65] 109 #[.slice none 0 0]).run Tryz.prog w.drew = .ok (.pointer none) w.drew := rfl
  go_enter Tryz.func28, Tryz.ntmps28
  go_wp2
  go_region
  all_goals (go_wp2; go_ret; exact ⟨rfl, Below.drew (Below.refl m w)⟩)
set_option maxRecDepth 100000 in
set_option maxHeartbeats 2000000 in
theorem stringM_some (m g cap : Nat) (l : List UInt8) (h0 : l ≠ []) (w : World) (c1 : w.drew.cell? ⟨m, 4, none⟩ = some (.slice (some ⟨g, 0, none⟩) l.length cap)) (hmg : m < g) (hcap : cap ≠ 0)
    (hUS : (Builtin.unsafeString_ #[109, 3] 9 #[.pointer (some ⟨g, 0, none⟩), .int .i64 l.length]).run Tryz.prog w.drew = .ok (.string ⟨l.toArray⟩) (w.drew.freeze ⟨g, 0, none⟩ l.length)) :
    Calls Tryz.prog 28 #[.pointer (some ⟨m, 3, none⟩)] w fun e w' => e = .returned (.string ⟨l.toArray⟩) ∧ Below m w w' := by
  have hSD : (Builtin.unsafeSliceData_ #[65] 109 #[.slice (some ⟨g, 0, none⟩) l.length cap]).run Tryz.prog w.drew = .ok (.pointer (some ⟨g, 0, none⟩)) w.drew :=
    Lib.run_unsafeSliceData_row _ _ _ _ _ _ hcap
  clear hcap
  go_enter Tryz.func28, Tryz.ntmps28
  go_wp2
  go_region
  all_goals (go_wp2; go_ret; exact ⟨rfl, Lib.below_freeze (Below.drew (Below.refl m w)) (p := ⟨g, 0, none⟩) (Nat.le_of_lt hmg) _⟩)
/-- (*strings.Builder).String within a maker. -/
theorem string_m (m s : Nat) (mv : Value) (deep : Int) (v : Value) (l : List UInt8) (w : World) (h : MkB m s mv deep v l w) (h0 : l = [] → v = .slice none 0 0) :
    Calls Tryz.prog 28 #[.pointer (some ⟨m, 3, none⟩)] w fun e w' => e = .returned (.string ⟨l.toArray⟩) ∧ Below m w w' := by
  obtain ⟨p, hh, hown⟩ : ∃ p, MkP p m s mv deep v l w := by
    rcases h with h | h
    · exact ⟨_, h⟩
    · exact ⟨_, h⟩
  have c1 : w.drew.cell? ⟨m, 4, none⟩ = some v := by
    have : w.drew.heap[m]? = _ := hh
    rw [cell_of 4 this]; rfl
  by_cases hl : l = []
  · obtain rfl := h0 hl
    subst hl
    exact stringM_nil m w c1
  · have hl0 : l.length ≠ 0 := by simpa using hl
    obtain ⟨g, cap, cur, rfl, hbg, hg, hnc, hcm, hcs, htake⟩ : ∃ g cap cur, v = .slice (some ⟨g, 0, none⟩) l.length cap ∧ m + 1 ≤ g ∧ w.heap[g]? = some (.cells cur 5 (0, 0)) ∧ l.length ≤ cap ∧ cap ≤ maxLen ∧ cur.size = cap * 1 ∧ cur.toList.take (l.length * 1) = Lib.byteCells l := by
      rcases hown.2 with ⟨_, hz⟩ | ⟨g, cap, cur, hv, r⟩
      · exact absurd hz hl0
      · exact ⟨g, cap, cur, hv, r⟩
    refine stringM_some m g cap l hl w c1 (by omega) (by omega) ?_
    refine Lib.run_unsafeString_row w.drew 109 3 9 5 Tryz.underlying109 (by kernel_rfl) g cur.size (by have hg' : w.drew.heap[g]? = some (.cells cur 5 (0, 0)) := hg; simp [World.shape?, hg']) l hl (by omega) (by unfold maxLen at hcm; omega) ?_
    intro j x hx
    exact hown.cells (g := g) rfl j (.int .u8 x.toNat) (by simp [Lib.byteCells, hx])
end Go.Proofs.YtfemfgkcgboopaaGreatDoor
/- The names of references, by the document. -/
namespace Go.Proofs.YtfemfgkcgboopaaGreatDoor
open Go.ChangeShapes Go.WideShapes Go.ChangeAt Go.RowKit
set_option linter.unusedVariables false
theorem onceL_take {l : List (Nat × Nat × List UInt8)} {t : Nat} {x : Nat × Nat × List UInt8} (h : l[t]? = some x) : onceL ((l.take (t + 1)).map (fun r => r.2.2)) = onceF (onceL ((l.take t).map (fun r => r.2.2))) x.2.2 := by
  unfold onceL
  rw [List.take_add_one, h, List.map_append, List.foldl_append]
  rfl
theorem mem_take_succ {l : List (List UInt8)} {k : Nat} {y s : List UInt8} (h : l[k]? = some y) : decide (s ∈ l.take (k + 1)) = (decide (s ∈ l.take k) || decide (y = s)) := by
  rw [List.take_add_one, h, Bool.eq_iff_iff]
  simp only [Option.toList_some, List.mem_append, List.mem_singleton, Bool.or_eq_true, decide_eq_true_eq]
  constructor
  · rintro (h | h)
    · exact .inl h
    · exact .inr h.symm
  · rintro (h | h)
    · exact .inl h
    · exact .inr h.symm
set_option maxRecDepth 100000 in
set_option maxHeartbeats 8000000 in
/-- The document's names of references, each once. -/
theorem rfNames_c (l : List UInt8) (w : World) (hm : l.length ≤ 20000) : Calls Tryz.prog 35 #[.string ⟨l.toArray⟩, .bool true] w fun e w' => ∃ OA oc, e = .returned (.slice OA (eachL l).length oc) ∧ OwnC cS1 1 9 w' w.heap.size (.slice OA (eachL l).length oc) (eachL l) ∧ Below w.heap.size w w' := by
  have C1 := Lib.hid (rfAll_c l w hm)
  have hle : (rfsA l 0).length ≤ 20000 := by have := rfsA_len l l.length 0 (by omega); omega
  go_enter Tryz.func35, Tryz.ntmps35
  go_wp2_with fail
  refine C1.out.mono ?_
  rintro e w1 ⟨OA, oc, rfl, ho, hb⟩
  obtain ⟨A1, c1, hv1, hr1⟩ := OwnC.rrd (c := cRf) (k := 3) (fun _ => rfl) (by decide) ho
  cases hv1
  have HB1 := Lib.hid hb
  have HP : Hid (∀ W, Below w1.heap.size w1 W → RRd cRf 3 W W.heap.size OA (rfsA l 0).length oc (rfsA l 0)) := Lib.hid fun W hb => (hr1.below hb).more hb.size
  obtain ⟨n, hn⟩ : ∃ n, (rfsA l 0).length = n := ⟨_, rfl⟩
  rw [hn] at HP hle ⊢
  have HN := Lib.hid hn
  have hJ0 : Hid (Below w1.heap.size w1 w1 ∧ OwnC cS1 1 9 w1 w1.heap.size (.slice none 0 0) (onceL (((rfsA l 0).take 0).map (fun r => r.2.2)))) := Lib.hid ⟨Below.refl _ _, OwnC.start _ _ _ _ _⟩
  clear hn hr1 ho hb C1
  go_wp2
  go_loopg [6, 7] (n) (fun g v i wr => ∃ t : Nat, i = .int .i64 (t : Int) ∧ t ≤ n ∧ Hid (g + t = n) ∧ Hid (Below w1.heap.size w1 wr ∧ OwnC cS1 1 9 wr w1.heap.size v (onceL (((rfsA l 0).take t).map (fun r => r.2.2)))))
  case atStart => exact ⟨0, rfl, Nat.zero_le _, Lib.hid rfl, hJ0⟩
  case round =>
    clear hJ0
    obtain ⟨t, rfl, ht, hg, HJ⟩ := hrel
    have ht0 : (0 : Int) ≤ (t : Int) := by omega
    have ht9 : (t : Int) ≤ 20000 := by omega
    by_cases htn : t < n
    · have hti : (t : Int) < (n : Int) := by omega
      obtain ⟨x, hx0⟩ : ∃ x, (rfsA l 0)[t]? = some x := ⟨_, List.getElem?_eq_getElem (by rw [HN.out]; exact htn)⟩
      have HT := Lib.hid (onceL_take hx0)
      have hal : (onceL (((rfsA l 0).take t).map (fun r => r.2.2))).length ≤ 20000 := by
        have := once_le (((rfsA l 0).take t).map (fun r => r.2.2)) []
        unfold onceL
        simp only [List.length_nil, List.length_map, List.length_take] at this
        omega
      obtain ⟨acc, hacc⟩ : ∃ q, onceL (((rfsA l 0).take t).map (fun r => r.2.2)) = q := ⟨_, rfl⟩
      rw [hacc] at HT HJ hal
      obtain ⟨A0, c0, hv0, hr0⟩ := OwnC.rrd (c := cS1) (k := 1) (fun _ => rfl) (by decide) HJ.out.2
      subst hv0
      obtain ⟨xk, xn, xs⟩ := x
      simp only at HT
      have HX := Lib.hid hx0
      have HR0 : Hid (∀ W, Below wr.heap.size wr W → RRd cS1 1 W W.heap.size A0 acc.length c0 acc) := Lib.hid fun W hb => (hr0.below hb).more hb.size
      obtain ⟨m, hml⟩ : ∃ m, acc.length = m := ⟨_, rfl⟩
      have HM := Lib.hid hml
      rw [hml] at HR0 HJ hal ⊢
      clear hr0 hacc hml hx0
      generalize wr = wo at *
      go_wp2
      go_loopg [8, 9] (m) (fun g b i wr => ∃ k : Nat, i = .int .i64 (k : Int) ∧ k ≤ m ∧ Hid (g + k = m) ∧ b = .bool (decide (xs ∈ acc.take k)) ∧ Hid (Below wo.heap.size wo wr))
      case atStart => exact ⟨0, rfl, Nat.zero_le _, Lib.hid rfl, by simp, Lib.hid (Below.refl _ _)⟩
      case round =>
        obtain ⟨k, rfl, hk, hgk, hbk, HK⟩ := hrel
        have hk0 : (0 : Int) ≤ (k : Int) := by omega
        have hk9 : (k : Int) ≤ 20000 := by omega
        by_cases hkm : k < m
        · have hki : (k : Int) < (m : Int) := by omega
          obtain ⟨b1, o1, y, rfl, hb1, hy, hc1⟩ := (HR0.out _ HK.out).cell hkm
          have y0 : wr.cell? ⟨b1, o1 + k, none⟩ = some (.string ⟨y.toArray⟩) := by rw [show o1 + k = o1 + (k * 1 + 0) by omega]; exact hc1 0 _ rfl
          obtain ⟨b2, o2, x2, rfl, hb2, hx2, hc2⟩ := (HP.out wr (HJ.out.1.trans (HK.out.mono HJ.out.1.size))).cell htn
          rw [HX.out] at hx2
          cases hx2
          have y2 : wr.cell? ⟨b2, o2 + t * 3 + 2, none⟩ = some (.string ⟨xs.toArray⟩) := by rw [show o2 + t * 3 + 2 = o2 + (t * 3 + 2) by omega]; exact hc2 2 _ rfl
          have he := eqvL y xs
          have HS := Lib.hid (mem_take_succ (s := xs) hy)
          obtain ⟨bh, hbh⟩ : ∃ q, decide (xs ∈ acc.take k) = q := ⟨_, rfl⟩
          obtain ⟨by_, hby⟩ : ∃ q, decide (y = xs) = q := ⟨_, rfl⟩
          rw [hbh] at hbk HS
          rw [hby] at HS he
          subst hbk
          clear hb1 hy hc1 hb2 hc2 hbh hby
          cases bh with
          | true =>
            go_wp2_with fail
            go_quiet (fail)
            have HK2 : Hid (Below wo.heap.size wo (wr.drewN nq)) := Lib.hid (below_drewN' HK.out)
            clear y0 y2
            generalize wr.drewN nq = wq at *
            go_wp2
            go_roundg (m - (k + 1))
            case measure => have := hgk.out; omega
            case rel => exact ⟨k + 1, by go_num, by omega, Lib.hid (by have := hgk.out; omega), by rw [HS.out]; rfl, HK2⟩
          | false =>
            go_wp2_with fail
            go_quiet (fail)
            have HK2 : Hid (Below wo.heap.size wo (wr.drewN nq)) := Lib.hid (below_drewN' HK.out)
            clear y0 y2
            generalize wr.drewN nq = wq at *
            go_wp2
            go_roundg (m - (k + 1))
            case measure => have := hgk.out; omega
            case rel => exact ⟨k + 1, by go_num, by omega, Lib.hid (by have := hgk.out; omega), by rw [HS.out]; rfl, HK2⟩
        · have hki : ¬ (k : Int) < (m : Int) := by omega
          have hbk2 : decide (xs ∈ acc.take k) = decide (xs ∈ acc) := by rw [List.take_of_length_le (by rw [HM.out]; omega)]
          rw [hbk2] at hbk
          obtain ⟨bh, hbh⟩ : ∃ q, decide (xs ∈ acc) = q := ⟨_, rfl⟩
          rw [hbh] at hbk
          subst hbk
          have HBW := Lib.hid (HJ.out.1.trans (HK.out.mono HJ.out.1.size))
          have HO : Hid (OwnC cS1 1 9 wr w1.heap.size (.slice A0 m c0) acc) := Lib.hid (HJ.out.2.kept HK.out)
          clear hbk2
          cases bh with
          | true =>
            have HE : Hid (onceL (((rfsA l 0).take (t + 1)).map (fun r => r.2.2)) = acc) := Lib.hid (by rw [HT.out]; unfold onceF; rw [if_pos (of_decide_eq_true hbh)])
            clear hbh
            go_wp2
            go_roundg (n - (t + 1))
            case measure => have := hg.out; omega
            case rel => exact ⟨t + 1, by go_num, by omega, Lib.hid (by have := hg.out; omega), Lib.hid (by rw [HE.out]; exact ⟨HBW.out, HO.out⟩)⟩
          | false =>
            have HE : Hid (onceL (((rfsA l 0).take (t + 1)).map (fun r => r.2.2)) = acc ++ [xs]) := Lib.hid (by rw [HT.out]; unfold onceF; rw [if_neg (of_decide_eq_false hbh)])
            clear hbh
            obtain ⟨b2, o2, x2, rfl, hb2, hx2, hc2⟩ := (HP.out wr HBW.out).cell htn
            rw [HX.out] at hx2
            cases hx2
            have y2 : wr.cell? ⟨b2, o2 + t * 3 + 2, none⟩ = some (.string ⟨xs.toArray⟩) := by rw [show o2 + t * 3 + 2 = o2 + (t * 3 + 2) by omega]; exact hc2 2 _ rfl
            have hown : wr.ownsRow w1.heap.size 9 1 (.slice A0 m c0) m (acc.flatMap cS1) := by have := HO.out; unfold OwnC at this; rw [HM.out] at this; exact this
            have hba : w1.heap.size ≤ wr.heap.size := HBW.out.size
            have hpl : m ≤ 1000000000 := by omega
            clear hb2 hc2
            go_wp2_with (at_builtin; refine wpList_appK rfl (.tmp 42) (.tmp 48) 45 9 rfl (.string ⟨#[]⟩) 1 16 Tryz.underlying45 info_str rfl (by decide) _ _ _ _ rfl hown (cS1 xs) _ rfl rfl rfl (by simp [cS1, Value.oneCell']) hpl (by decide) hba ?_)
            intro v6 w6 hown6 hg6 hat6
            have O6 : Hid (OwnC cS1 1 9 w6 w1.heap.size v6 (acc ++ [xs])) := Lib.hid (OwnC.snoc (by rw [HM.out]; exact hown6))
            have kb := (Below.refl wr.heap.size wr).alloc (Nat.le_refl _) (.cells (cS1 xs).toArray 9)
            have HB6 := Lib.hid ((HBW.out.trans (kb.mono HBW.out.size)).grown hg6 (by rw [World.size_alloc wr]; omega) (fun j hj => (HO.out.ge hj).2))
            clear hown6 hg6 hat6 hown kb hba
            go_wp2
            go_roundg (n - (t + 1))
            case measure => have := hg.out; omega
            case rel => exact ⟨t + 1, by go_num, by omega, Lib.hid (by have := hg.out; omega), Lib.hid (by rw [HE.out]; exact ⟨HB6.out, O6.out⟩)⟩
    · have hti : ¬ (t : Int) < (n : Int) := by omega
      have hJ := HJ.out
      rw [List.take_of_length_le (by rw [HN.out]; omega)] at hJ
      have hE : onceL ((rfsA l 0).map (fun r => r.2.2)) = eachL l := rfl
      rw [hE] at hJ
      obtain ⟨A2, c2, hv⟩ := hJ.2.form
      subst hv
      have HF := Lib.hid (And.intro (hJ.2.base (show w.heap.size ≤ w1.heap.size from HB1.out.size)) (HB1.out.trans (hJ.1.mono HB1.out.size)))
      clear hJ HJ hE
      go_wp2
      go_ret
      exact ⟨A2, c2, rfl, HF.out⟩
end Go.Proofs.YtfemfgkcgboopaaGreatDoor
/- The internal entities, by the document. -/
namespace Go.Proofs.YtfemfgkcgboopaaGreatDoor
open Go.ChangeShapes Go.WideShapes Go.ChangeAt Go.RowKit
set_option linter.unusedVariables false
theorem inner_take {l : List EntT} {t : Nat} {x : EntT} (h : l[t]? = some x) : innerE (l.take (t + 1)) = innerF (innerE (l.take t)) x := by
  unfold innerE
  rw [List.take_add_one, h, List.foldl_append]
  rfl
theorem fndN_neg (l : List (List UInt8)) (s : List UInt8) : decide (fndN l s < 0) = decide (¬ s ∈ l) := by
  unfold fndN
  split
  · rename_i h
    simp [h]
  · rename_i h
    simp [h]
set_option maxRecDepth 100000 in
set_option maxHeartbeats 8000000 in
/-- The internal entities, the first of each name. -/
theorem rfInner_c (A : Option Addr) (n cap : Nat) (l : List EntT) (w : World) (h : RRd cE 6 w w.heap.size A n cap l) (hm : n ≤ 1000) :
    Calls Tryz.prog 20 #[.slice A n cap] w fun e w' => ∃ OA oc, e = .returned (.slice OA (innerE l).length oc) ∧ OwnC cE 6 43 w' w.heap.size (.slice OA (innerE l).length oc) (innerE l) ∧ Below w.heap.size w w' := by
  have HP : Hid (∀ W, Below w.heap.size w W → RRd cE 6 W W.heap.size A n cap l) := Lib.hid fun W hb => (h.below hb).more hb.size
  have HN : Hid (l.length = n) := Lib.hid h.len
  have hJ0 : Hid (Below w.heap.size w w ∧ OwnC cE 6 43 w w.heap.size (.slice none 0 0) (innerE (l.take 0))) := Lib.hid ⟨Below.refl _ _, OwnC.start _ _ _ _ _⟩
  clear h
  go_enter Tryz.func20, Tryz.ntmps20
  go_wp2
  go_loopg [3, 4] (n) (fun g v i wr => ∃ t : Nat, i = .int .i64 (t : Int) ∧ t ≤ n ∧ Hid (g + t = n) ∧ Hid (Below w.heap.size w wr ∧ OwnC cE 6 43 wr w.heap.size v (innerE (l.take t))))
  case atStart => exact ⟨0, rfl, Nat.zero_le _, Lib.hid rfl, hJ0⟩
  case round =>
    clear hJ0
    obtain ⟨t, rfl, ht, hg, HJ⟩ := hrel
    have ht0 : (0 : Int) ≤ (t : Int) := by omega
    have ht9 : (t : Int) ≤ 1000 := by omega
    by_cases htn : t < n
    · have hti : (t : Int) < (n : Int) := by omega
      obtain ⟨b1, o1, x, rfl, hb1, hx, hc1⟩ := (HP.out _ HJ.out.1).cell htn
      have HT := Lib.hid (inner_take hx)
      have hal : (innerE (l.take t)).length ≤ 1000 := by
        have := inner_len (l.take t) []
        unfold innerE
        simp only [List.length_nil, List.length_take] at this
        omega
      obtain ⟨acc, hacc⟩ : ∃ q, innerE (l.take t) = q := ⟨_, rfl⟩
      rw [hacc] at HT HJ hal
      obtain ⟨A0, c0, hv0, hr0⟩ := OwnC.rrd (c := cE) (k := 6) (fun _ => rfl) (by decide) HJ.out.2
      subst hv0
      have FD := Lib.hid (rfFindE_c A0 acc.length c0 acc x.nm wr hr0 (by omega))
      have HF := Lib.hid (fndN_neg (acc.map EntT.nm) x.nm)
      obtain ⟨xn, xt, xo, xp, xq, xr⟩ := x
      simp only at FD HF
      have y0 : wr.cell? ⟨b1, o1 + t * 6, none⟩ = some (.string ⟨xn.toArray⟩) := by rw [show o1 + t * 6 = o1 + (t * 6 + 0) by omega]; exact hc1 0 _ rfl
      have y1 : wr.cell? ⟨b1, o1 + t * 6 + 1, none⟩ = some (.string ⟨xt.toArray⟩) := by rw [show o1 + t * 6 + 1 = o1 + (t * 6 + 1) by omega]; exact hc1 1 _ rfl
      have y2 : wr.cell? ⟨b1, o1 + t * 6 + 2, none⟩ = some (.bool xo) := by rw [show o1 + t * 6 + 2 = o1 + (t * 6 + 2) by omega]; exact hc1 2 _ rfl
      have y3 : wr.cell? ⟨b1, o1 + t * 6 + 3, none⟩ = some (.string ⟨xp.toArray⟩) := by rw [show o1 + t * 6 + 3 = o1 + (t * 6 + 3) by omega]; exact hc1 3 _ rfl
      have y4 : wr.cell? ⟨b1, o1 + t * 6 + 4, none⟩ = some (.string ⟨xq.toArray⟩) := by rw [show o1 + t * 6 + 4 = o1 + (t * 6 + 4) by omega]; exact hc1 4 _ rfl
      have y5 : wr.cell? ⟨b1, o1 + t * 6 + 5, none⟩ = some (.string ⟨xr.toArray⟩) := by rw [show o1 + t * 6 + 5 = o1 + (t * 6 + 5) by omega]; exact hc1 5 _ rfl
      obtain ⟨F, hFe⟩ : ∃ q, fndN (acc.map EntT.nm) xn = q := ⟨_, rfl⟩
      rw [hFe] at FD HF
      clear hb1 hx hc1 hr0 hacc hFe
      cases xo with
      | true =>
        have HE : Hid (innerE (l.take (t + 1)) = acc) := Lib.hid (by rw [HT.out]; unfold innerF; rw [if_pos (.inl rfl)])
        clear FD HF
        go_wp2
        go_roundg (n - (t + 1))
        case measure => have := hg.out; omega
        case rel => exact ⟨t + 1, by go_num, by omega, Lib.hid (by have := hg.out; omega), Lib.hid (by rw [HE.out]; exact HJ.out)⟩
      | false =>
        by_cases hm2 : xn ∈ acc.map EntT.nm
        · have HE : Hid (innerE (l.take (t + 1)) = acc) := Lib.hid (by rw [HT.out]; unfold innerF; rw [if_pos (.inr hm2)])
          have hF : ¬ F < 0 := of_decide_eq_false (by rw [HF.out]; simp [hm2])
          clear hm2
          go_wp2_with fail
          refine FD.out.mono ?_
          rintro e w1 ⟨rfl, rfl⟩
          go_wp2
          go_roundg (n - (t + 1))
          case measure => have := hg.out; omega
          case rel => exact ⟨t + 1, by go_num, by omega, Lib.hid (by have := hg.out; omega), Lib.hid (by rw [HE.out]; exact HJ.out)⟩
        · have HE : Hid (innerE (l.take (t + 1)) = acc ++ [⟨xn, xt, false, xp, xq, xr⟩]) := Lib.hid (by rw [HT.out]; unfold innerF; rw [if_neg (by simpa using hm2)])
          have hF : F < 0 := of_decide_eq_true (by rw [HF.out]; simp [hm2])
          have hown : wr.ownsRow w.heap.size 43 6 (.slice A0 acc.length c0) acc.length (acc.flatMap cE) := HJ.out.2
          have hpl : acc.length ≤ 1000000000 := by omega
          have hba : w.heap.size ≤ wr.heap.size := HJ.out.1.size
          clear hm2
          go_wp2_with fail
          refine FD.out.mono ?_
          rintro e w1 ⟨rfl, rfl⟩
          go_wp2_with (at_builtin; refine wpList_appK rfl (.tmp 27) (.tmp 32) 22 43 rfl (.agg #[.string ⟨#[]⟩, .string ⟨#[]⟩, .bool false, .string ⟨#[]⟩, .string ⟨#[]⟩, .string ⟨#[]⟩]) 6 88 Tryz.underlying22 infoC_ent rfl (by decide) _ _ _ _ rfl hown (cE ⟨xn, xt, false, xp, xq, xr⟩) _ rfl rfl rfl (by simp [cE, Value.oneCell']) hpl (by decide) hba ?_)
          intro v6 w6 hown6 hg6 hat6
          have O6 := Lib.hid (OwnC.snoc (c := cE) (x := ⟨xn, xt, false, xp, xq, xr⟩) hown6)
          have kb := (Below.refl wr.heap.size wr).alloc (Nat.le_refl _) (.cells (cE ⟨xn, xt, false, xp, xq, xr⟩).toArray 43)
          have HB6 := Lib.hid ((HJ.out.1.trans (kb.mono HJ.out.1.size)).grown hg6 (by rw [World.size_alloc wr]; omega) (fun j hj => (HJ.out.2.ge hj).2))
          clear hown6 hg6 hat6 hown kb hba
          go_wp2
          go_roundg (n - (t + 1))
          case measure => have := hg.out; omega
          case rel => exact ⟨t + 1, by go_num, by omega, Lib.hid (by have := hg.out; omega), Lib.hid (by rw [HE.out]; exact ⟨HB6.out, O6.out⟩)⟩
    · have hti : ¬ (t : Int) < (n : Int) := by omega
      have hJ := HJ.out
      rw [List.take_of_length_le (by rw [HN.out]; omega)] at hJ
      obtain ⟨A2, c2, hv⟩ := hJ.2.form
      subst hv
      have HF := Lib.hid (And.intro hJ.2 hJ.1)
      clear hJ HJ
      go_wp2
      go_ret
      exact ⟨A2, c2, rfl, HF.out⟩
end Go.Proofs.YtfemfgkcgboopaaGreatDoor
/- Graphs where they lie. -/
namespace Go.Proofs.YtfemfgkcgboopaaGreatDoor
open Go.ChangeShapes Go.WideShapes Go.ChangeAt Go.RowKit
set_option linter.unusedVariables false
/-- 'append(s, x)' of one element of any kind, as one step of a statement that draws its order. -/
theorem stepAppC {α : Type} {c : α → List Value} {k bytes : Nat} {t e : TypeId} {z : Value} {ops : Array Oper} {o : Oper} {a : Act} {K : Act → World → Prop} {Q : Exit → Act → World → Prop} {E : Prop} {w : World} (hgd : o.guard = none) (s x : Operand)
    (ho : o.op = .call { callee := .builtin .append, args := #[s, x], argTypes := #[t, t] }) (ht : Tryz.prog.underlying t = some (.slice e)) (hi : ∃ i, Tryz.prog.info? e = some i ∧ i.zero = some z ∧ i.size = k ∧ i.bytes = bytes) (hzs : z.cells.size = k) (hk : 0 < k) (hby : bytes ≤ 1000)
    (base : Nat) (v : Value) (op : List α) (hs : a.eval s = v) (hown : OwnC c k e w base v op)
    (ad : Addr) (hx : a.eval x = .slice (some ad) 1 1) (new : α) (hl : (c new).length = k) (hone : ∀ u ∈ c new, u.oneCell' = true) (hcell : ∀ (j : Nat) u, (c new)[j]? = some u → w.cell? (ad.add j) = some u)
    (hb : op.length ≤ 1000000) (hbase : base ≤ w.heap.size)
    (h : ∀ v' w', OwnC c k e w' base v' (op ++ [new]) → w.grownBy w' v.ownBlock → K (a.put o.dst v') w') :
    if Region.wanted o (yielded ops a.tmps) = true then Oper.wp Tryz.prog o a w K Q else E := by
  have hw : Region.wanted o (yielded ops a.tmps) = true := by simp [Region.wanted, hgd]
  rw [if_pos hw]
  obtain ⟨i, hi, hz, hsz, hbt⟩ := hi
  have hmul : (op.length + 1) * bytes ≤ 1000001 * 1000 := Nat.mul_le_mul (by omega) hby
  obtain ⟨v', w', hr, h2, h3, _, _⟩ := run_append_own_at (P := Tryz.prog) w base t o.type e i z k bytes ht hi hz hsz hbt hzs hk v op.length (op.flatMap c) hown ad 1 1 (c new) (by omega) hcell hone (by unfold maxLen; omega) (by omega) hbase
  unfold Oper.wp execOp
  simp only [ho, resolve, invoke, builtin, Sem.run_bind, Sem.run_pure, Result.andThen_ok, List.map_toArray, List.map_cons, List.map_nil, hs, hx, hr]
  exact h v' w' (OwnC.snoc h2) h3
/-- A row of numbers where it lies. -/
structure IRow where
  A : Option Addr
  n : Nat
  c : Nat
  l : List Nat
def cIR (r : IRow) : List Value := [.slice r.A r.n r.c]
/-- Rows of numbers that can be read. -/
structure GRd (w : World) (B : Nat) (A : Option Addr) (n cap : Nat) (rs : List IRow) : Prop where
  row : RRd cIR 1 w B A n cap rs
  rows : ∀ r ∈ rs, RRd cI 1 w B r.A r.n r.c r.l
theorem GRd.below {w w' : World} {B n cap : Nat} {A : Option Addr} {rs : List IRow} (h : GRd w B A n cap rs) (hb : Below B w w') : GRd w' B A n cap rs := ⟨h.row.below hb, fun r hr => (h.rows r hr).below hb⟩
theorem GRd.more {w : World} {B B' n cap : Nat} {A : Option Addr} {rs : List IRow} (h : GRd w B A n cap rs) (hB : B ≤ B') : GRd w B' A n cap rs := ⟨h.row.more hB, fun r hr => (h.rows r hr).more hB⟩
/-- Rows of numbers of the call's own. -/
structure GOwn (w : World) (base : Nat) (v : Value) (rs : List IRow) : Prop where
  row : OwnC cIR 1 81 w base v rs
  rows : ∀ r ∈ rs, OwnC cI 1 3 w base (.slice r.A r.n r.c) r.l ∧ r.n = r.l.length
theorem GOwn.start (w : World) (base : Nat) : GOwn w base (.slice none 0 0) [] := ⟨OwnC.start _ _ _ _ _, fun r hr => by cases hr⟩
theorem GOwn.kept {w w' : World} {base : Nat} {v : Value} {rs : List IRow} (h : GOwn w base v rs) (hb : Below w.heap.size w w') : GOwn w' base v rs := ⟨h.row.kept hb, fun r hr => ⟨(h.rows r hr).1.kept hb, (h.rows r hr).2⟩⟩
theorem GOwn.keep {w w' : World} {base : Nat} {v : Value} {rs : List IRow} (h : GOwn w base v rs) (hk : ∀ g, base ≤ g → g < w.heap.size → w'.heap[g]? = w.heap[g]?) : GOwn w' base v rs := ⟨h.row.keep hk, fun r hr => ⟨(h.rows r hr).1.keep hk, (h.rows r hr).2⟩⟩
theorem GOwn.other {w w' : World} {base : Nat} {v : Value} {rs : List IRow} (h : GOwn w base v rs) {v2 : Value} {B2 c2 n2 : Nat} {e2 : TypeId} {xs2 : List Value} (h2 : w.ownsRow B2 e2 c2 v2 n2 xs2) (h3 : 81 ≠ e2) (h4 : 3 ≠ e2) (hg : w.grownBy w' v2.ownBlock) : GOwn w' base v rs := ⟨h.row.grown h2 h3 hg, fun r hr => ⟨(h.rows r hr).1.grown h2 h4 hg, (h.rows r hr).2⟩⟩
theorem GOwn.rd {w : World} {base : Nat} {v : Value} {rs : List IRow} (h : GOwn w base v rs) : ∃ A cp, v = .slice A rs.length cp ∧ GRd w w.heap.size A rs.length cp rs := by
  obtain ⟨A, cp, hv, hr⟩ := OwnC.rrd (c := cIR) (k := 1) (fun _ => rfl) (by decide) h.row
  refine ⟨A, cp, hv, hr, fun r hr2 => ?_⟩
  obtain ⟨h1, h2⟩ := h.rows r hr2
  obtain ⟨A3, c3, h3, h4⟩ := OwnC.rrd (c := cI) (k := 1) (fun _ => rfl) (by decide) h1
  rw [← h2] at h3 h4
  cases h3
  exact h4
/-- A finished row of numbers is laid behind the others. -/
theorem GOwn.snoc {w w' : World} {base : Nat} {v v' : Value} {rs : List IRow} {r : IRow} (h : GOwn w base v rs) (hr : OwnC cI 1 3 w base (.slice r.A r.n r.c) r.l) (hn : r.n = r.l.length) (hg : w.grownBy w' v.ownBlock) (ho : OwnC cIR 1 81 w' base v' (rs ++ [r])) : GOwn w' base v' (rs ++ [r]) := by
  refine ⟨ho, fun x hx => ?_⟩
  rcases List.mem_append.1 hx with hx | hx
  · exact ⟨(h.rows x hx).1.grown h.row (by decide) hg, (h.rows x hx).2⟩
  · rw [List.mem_singleton.1 hx]
    exact ⟨hr.grown h.row (by decide) hg, hn⟩
/-- The graph while it is built, in its block. -/
def OfJ (T : TypeId) (G : Nat) (names : List (List UInt8)) (rs : List IRow) (w W : World) : Prop :=
  Below G w W ∧ G < W.heap.size ∧ ∃ vN vT, W.heap[G]? = some (.cells #[vN, vT] T (0, 0)) ∧ OwnC cS1 1 9 W (G + 1) vN names ∧ GOwn W (G + 1) vT rs
theorem OfJ.kept {T : TypeId} {G : Nat} {names : List (List UInt8)} {rs : List IRow} {w W W' : World} (h : OfJ T G names rs w W) (hb : Below W.heap.size W W') : OfJ T G names rs w W' := by
  obtain ⟨h1, h2, vN, vT, h3, h4, h5⟩ := h
  exact ⟨h1.trans (hb.mono (by omega)), Nat.lt_of_lt_of_le h2 hb.size, vN, vT, (hb.block _ h2).trans h3, h4.kept hb, h5.kept hb⟩
end Go.Proofs.YtfemfgkcgboopaaGreatDoor
/- While graph.Of gathers names and texts. -/
namespace Go.Proofs.YtfemfgkcgboopaaGreatDoor
open Go.ChangeShapes Go.WideShapes Go.ChangeAt Go.RowKit
set_option linter.unusedVariables false
/-- Names so far, and their numbers, in a map. -/
def AtI (w : World) (b : Nat) (acc : List (List UInt8)) : Prop := ∃ D : DataW Unit, w.ownsMap Tryz.prog 9 (Go.plainElem Tryz.prog 3) b acc.length D ∧ (∀ s : List UInt8, Go.Maps.has D (.string s) = acc.contains s) ∧ ∀ s : List UInt8, s ∈ acc → D.atKey (.string s) (.lit (.int .i64 0)) = .lit (.int .i64 (acc.idxOf s : Nat))
theorem AtI.start (w : World) : AtI (w.alloc (.map #[] 0)) w.heap.size [] := ⟨.map [], World.ownsMap_made _ _ _ _, fun s => rfl, fun s h => by cases h⟩
theorem atI_snoc {D : DataW Unit} {acc : List (List UInt8)} {x : List UInt8} (hi : Go.Maps.IsMap D) (hx : acc.contains x = false) (hh : ∀ s : List UInt8, Go.Maps.has D (.string s) = acc.contains s) (ha : ∀ s : List UInt8, s ∈ acc → D.atKey (.string s) (.lit (.int .i64 0)) = .lit (.int .i64 (acc.idxOf s : Nat))) :
    (∀ s : List UInt8, Go.Maps.has (D.put (.string x) (.lit (.int .i64 (acc.length : Nat)))) (.string s) = (acc ++ [x]).contains s) ∧ ∀ s : List UInt8, s ∈ acc ++ [x] → (D.put (.string x) (.lit (.int .i64 (acc.length : Nat)))).atKey (.string s) (.lit (.int .i64 0)) = .lit (.int .i64 ((acc ++ [x]).idxOf s : Nat)) := by
  have hxn : x ∉ acc := by simpa using hx
  refine ⟨fun s => ?_, fun s hs => ?_⟩
  · by_cases e : s = x
    · subst e
      rw [Go.Maps.has_put_same hi (by simp [WideAt.IsKeyLit])]
      simp
    · rw [Go.Maps.has_put_other (by simpa using e), hh]
      simp [e]
  · by_cases e : s = x
    · subst e
      rw [Go.Maps.atKey_put_same hi (by simp [WideAt.IsKeyLit]), List.idxOf_append, if_neg hxn]
      simp
    · have hs' : s ∈ acc := by
        rcases List.mem_append.1 hs with h | h
        · exact h
        · rw [List.mem_singleton] at h; exact absurd h e
      rw [Go.Maps.atKey_put_other (by simpa using e), ha s hs', List.idxOf_append, if_pos hs']
theorem AtI.kept {w w' : World} {b : Nat} {acc : List (List UInt8)} (h : AtI w b acc) (hb : w'.heap[b]? = w.heap[b]?) : AtI w' b acc := by
  obtain ⟨D, h1, h2, h3⟩ := h
  obtain ⟨es, clock, hq, r⟩ := h1
  exact ⟨D, ⟨es, clock, hb.trans hq, r⟩, h2, h3⟩
theorem AtI.lt {w : World} {b : Nat} {acc : List (List UInt8)} (h : AtI w b acc) : b < w.heap.size := by
  obtain ⟨D, h1, _⟩ := h
  exact h1.lt

/-- While graph.Of gathers: the graph's block G, the map in M, the entity's block q, the rows of names and of texts. -/
structure OgP (G q : Nat) (xs : Array Value) (vG vN vT : Value) (accM names texts : List (List UInt8)) (w W : World) : Prop where
  below : Below G w W
  graph : W.heap[G]? = some (.cells #[vG, .slice none 0 0] 56 (0, 0))
  nms : OwnC cS1 1 9 W (G + 2) vN names
  txs : OwnC cS1 1 9 W (G + 2) vT texts
  apart : ∀ b, vN.ownBlock = some b → vT.ownBlock ≠ some b
  map : AtI W (G + 1) accM
  ent : W.heap[q]? = some (.cells xs 43 (0, 0))
  hq : G + 2 ≤ q
theorem OgP.kept {G q : Nat} {xs : Array Value} {vG vN vT : Value} {accM names texts : List (List UInt8)} {w W W' : World} (h : OgP G q xs vG vN vT accM names texts w W) (hb : Below W.heap.size W W') : OgP G q xs vG vN vT accM names texts w W' :=
  ⟨h.below.trans (hb.mono (Nat.le_of_lt (lt_of h.graph))), (hb.block _ (lt_of h.graph)).trans h.graph, h.nms.kept hb, h.txs.kept hb, h.apart, h.map.kept (hb.block _ h.map.lt), (hb.block _ (lt_of h.ent)).trans h.ent, h.hq⟩
theorem OgP.alloc {G q : Nat} {xs : Array Value} {vG vN vT : Value} {accM names texts : List (List UInt8)} {w W : World} (h : OgP G q xs vG vN vT accM names texts w W) (o : Obj) : OgP G q xs vG vN vT accM names texts w (W.alloc o) := h.kept ((Below.refl _ W).alloc (Nat.le_refl _) _)
theorem OgP.drew {G q : Nat} {xs : Array Value} {vG vN vT : Value} {accM names texts : List (List UInt8)} {w W : World} (h : OgP G q xs vG vN vT accM names texts w W) : OgP G q xs vG vN vT accM names texts w W.drew := h.kept (Below.refl _ W).drew
theorem OgP.setG {G q : Nat} {xs : Array Value} {vG vN vT : Value} {accM names texts : List (List UInt8)} {w W : World} (h : OgP G q xs vG vN vT accM names texts w W) (v : Value) : OgP G q xs v vN vT accM names texts w (W.setCell ⟨G, 0, none⟩ v) := by
  have := h.hq
  exact ⟨h.below.setCell (p := ⟨G, 0, none⟩) (Nat.le_refl _) _, hp_set h.graph, h.nms.keep fun g h1 _ => hp_other (by omega), h.txs.keep fun g h1 _ => hp_other (by omega), h.apart, h.map.kept (hp_other (by omega)), (hp_other (by omega)).trans h.ent, h.hq⟩
theorem OgP.at_ {G q : Nat} {xs : Array Value} {vG vN vT : Value} {accM names texts : List (List UInt8)} {w W : World} (h : OgP G q xs vG vN vT accM names texts w W) : W.cell? ⟨G, 0, none⟩ = some vG ∧ W.frozen? ⟨G, 0, none⟩ = false := ⟨by rw [cell_of 0 h.graph]; rfl, free_of 0 h.graph⟩
theorem OgP.other {G q : Nat} {xs : Array Value} {vG vN vT : Value} {accM names texts : List (List UInt8)} {w W W' : World} (h : OgP G q xs vG vN vT accM names texts w W) {v : Value} {l : List (List UInt8)} (hv : OwnC cS1 1 9 W (G + 2) v l) (hg : W.grownBy W' v.ownBlock) :
    Below G w W' ∧ W'.heap[G]? = some (.cells #[vG, .slice none 0 0] 56 (0, 0)) ∧ AtI W' (G + 1) accM ∧ W'.heap[q]? = some (.cells xs 43 (0, 0)) := by
  have hne : ∀ k, k < G + 2 → some k ≠ v.ownBlock := fun k hk e => by have := (hv.ge e.symm).2; omega
  refine ⟨h.below.grown hg (Nat.le_of_lt (lt_of h.graph)) (fun k hk => by have := (hv.ge hk).2; omega), (hg.block _ (lt_of h.graph) (hne _ (by omega))).trans h.graph, h.map.kept (hg.block _ h.map.lt (hne _ (by omega))), ?_⟩
  rw [hg.block q (lt_of h.ent) (ownsRow_type hv h.ent fun vs f e => by injection e with _ e2 _; exact absurd e2 (by decide))]
  exact h.ent
theorem OwnC.off {α : Type} {c : α → List Value} {k : Nat} {e : TypeId} {w w' : World} {base : Nat} {v : Value} {l : List α} (h : OwnC c k e w base v l) {row : Option Nat} (hg : w.grownBy w' row) (hr : ∀ b, v.ownBlock = some b → row ≠ some b) : OwnC c k e w' base v l := by
  obtain ⟨hl, h2 | ⟨g, cap, cur, hv, hgb, hh, r⟩⟩ := h
  · exact ⟨hl, .inl h2⟩
  · exact ⟨hl, .inr ⟨g, cap, cur, hv, hgb, (hg.block g (lt_of hh) (fun e => hr g (by rw [hv]; rfl) e.symm)).trans hh, r⟩⟩
/-- A name more. -/
theorem OgP.appN {G q : Nat} {xs : Array Value} {vG vN vT : Value} {accM names texts : List (List UInt8)} {w W W' : World} {v' : Value} {x : List UInt8} (h : OgP G q xs vG vN vT accM names texts w W) (h6 : OwnC cS1 1 9 W' (G + 2) v' (names ++ [x])) (hg : W.grownBy W' vN.ownBlock) (hat : v'.ownBlock = vN.ownBlock ∨ v'.ownBlock = some W.heap.size) : OgP G q xs vG v' vT accM (names ++ [x]) texts w W' := by
  obtain ⟨h1, h2, h3, h4⟩ := h.other h.nms hg
  refine ⟨h1, h2, h6, h.txs.off hg (fun b hb e => h.apart b e hb), fun b hb e => ?_, h3, h4, h.hq⟩
  rcases hat with h7 | h7
  · exact h.apart b (by rw [← h7]; exact hb) e
  · rw [h7] at hb
    cases hb
    have := (h.txs.ge e).1
    omega
/-- A text more. -/
theorem OgP.appT {G q : Nat} {xs : Array Value} {vG vN vT : Value} {accM names texts : List (List UInt8)} {w W W' : World} {v' : Value} {x : List UInt8} (h : OgP G q xs vG vN vT accM names texts w W) (h6 : OwnC cS1 1 9 W' (G + 2) v' (texts ++ [x])) (hg : W.grownBy W' vT.ownBlock) (hat : v'.ownBlock = vT.ownBlock ∨ v'.ownBlock = some W.heap.size) : OgP G q xs vG vN v' accM names (texts ++ [x]) w W' := by
  obtain ⟨h1, h2, h3, h4⟩ := h.other h.txs hg
  refine ⟨h1, h2, h.nms.off hg (fun b hb e => h.apart b hb e), h6, fun b hb e => ?_, h3, h4, h.hq⟩
  rcases hat with h7 | h7
  · exact h.apart b hb (by rw [← h7]; exact e)
  · rw [h7] at e
    cases e
    have := (h.nms.ge hb).1
    omega
end Go.Proofs.YtfemfgkcgboopaaGreatDoor
