/- The law TokMatches, walked. -/
import Derived.Test.YtmclngahdklfkaaDoorRows
import Derived.WalkKit
import Derived.ProofKit
import Derived.OpenShut
import Derived.ShutString
import Derived.ChangeOld
import Derived.Below
import Derived.BigQuiet
import Derived.Deep.QuietTactic
import Derived.Lib.Hide
import Derived.Deep.RegionHeld3
import Derived.Lib.SlBytesConst
import Derived.Laws.CopyOwn
import Derived.Laws.CopyRow
import Derived.Lib.Bytes
import Derived.Deep.LoopGhost
import Derived.Deep.DeepFit
import Derived.Deep.DeepMust
import Derived.WalkSpells
import Derived.WalkLawsBesides
import Derived.Maps.OwnOps
import Derived.Maps.OwnSet
import Derived.Maps.Views
import Derived.Laws.EntriesVeiled
import Derived.Laws.Rows
import Derived.Maps.AppendAt
import Derived.Lib.SmallJoins
import Derived.Deep.AppendLies
import Derived.Deep.RegionLaw
import Derived.Deep.RegionWith
import Derived.Lib.SmallJoins
import Derived.Deep.DeepHandedRow
import Derived.Deep.SlicePairs
import Derived.Deep.Slices
import Derived.ChangeArms
import Derived.Test.YtmclngahdklfkaaDoorM1
import Derived.Test.YtmclngahdklfkaaDoorM4
import Derived.Test.YtmclngahdklfkaaDoorM3
import Derived.Test.YtmclngahdklfkaaDoorM2
import Derived.Test.YtmclngahdklfkaaDoorM5
import Derived.Test.YtmclngahdklfkaaDoorM6
import Derived.Test.YtmclngahdklfkaaDoorM7
import Derived.Test.YtmclngahdklfkaaDoorM8
import Derived.Test.YtmclngahdklfkaaDoorM9
namespace Go.Proofs.YtmclngahdklfkaaDoor
open Go.ChangeShapes Go.WideShapes Go.ChangeAt Go.RowKit
set_option linter.unusedVariables false
set_option maxRecDepth 100000 in
set_option maxHeartbeats 4000000 in
theorem give_c (o : TokL) (A : Option Addr) (n c : Nat) (w : World) : Calls Tryd.prog 5 #[.agg #[.int .i64 o.kind, .int .i64 o.fro, .int .i64 o.to_, .string ⟨o.name.toArray⟩, .string ⟨o.text.toArray⟩, .slice A n c, .int .i64 o.r]] w fun e w' => e = .returned (.agg #[.int .i64 o.kind, .int .i64 o.fro, .int .i64 o.to_, .string ⟨o.name.toArray⟩, .string ⟨o.text.toArray⟩, .slice A n c, .int .i64 o.r]) ∧ Below w.heap.size w w' := by
  have hi : (Tryd.prog.info? 27).map (·.size) = some 7 := by kernel_rfl
  obtain ⟨sd, hu⟩ := isStruct_of (P := Tryd.prog) (t := 27) (by kernel_rfl)
  have hq : ((w.alloc (.cells #[.int .i64 o.kind, .int .i64 o.fro, .int .i64 o.to_, .string ⟨o.name.toArray⟩, .string ⟨o.text.toArray⟩, .slice A n c, .int .i64 o.r] 29)).alloc (.cells #[.int .i64 o.kind, .int .i64 o.fro, .int .i64 o.to_, .string ⟨o.name.toArray⟩, .string ⟨o.text.toArray⟩, .slice A n c, .int .i64 o.r] 27)).heap[w.heap.size + 1]? = some (.cells #[.int .i64 o.kind, .int .i64 o.fro, .int .i64 o.to_, .string ⟨o.name.toArray⟩, .string ⟨o.text.toArray⟩, .slice A n c, .int .i64 o.r] 27) := by
    have := hp_new (w.alloc (.cells #[.int .i64 o.kind, .int .i64 o.fro, .int .i64 o.to_, .string ⟨o.name.toArray⟩, .string ⟨o.text.toArray⟩, .slice A n c, .int .i64 o.r] 29)) (.cells #[.int .i64 o.kind, .int .i64 o.fro, .int .i64 o.to_, .string ⟨o.name.toArray⟩, .string ⟨o.text.toArray⟩, .slice A n c, .int .i64 o.r] 27)
    rwa [World.size_alloc] at this
  have HQ := Lib.hid hq
  have HB := Lib.hid (((Below.refl w.heap.size w).alloc (Nat.le_refl _) (.cells #[.int .i64 o.kind, .int .i64 o.fro, .int .i64 o.to_, .string ⟨o.name.toArray⟩, .string ⟨o.text.toArray⟩, .slice A n c, .int .i64 o.r] 29)).alloc (by simp) (.cells #[.int .i64 o.kind, .int .i64 o.fro, .int .i64 o.to_, .string ⟨o.name.toArray⟩, .string ⟨o.text.toArray⟩, .slice A n c, .int .i64 o.r] 27))
  have HU := Lib.hid (And.intro hi hu)
  clear hq hi hu
  go_enter Tryd.func5, Tryd.ntmps5
  go_wp2
  (try simp only [Exit.inBlock, Exit.then])
  exact bodyPost_ret (results_cell_row rfl _ _ (w.heap.size + 1) _ _ _ _ rfl HQ.out HU.out.2 rfl HU.out.1) rfl ⟨rfl, HB.out⟩
set_option maxRecDepth 100000 in
set_option maxHeartbeats 8000000 in
theorem tokMatches_walk (A : Option Addr) (n cap : Nat) (vs : List TokV) (w : World) (h : TRd w w.heap.size A n cap vs) (hW : W11 w) :
    Calls Tryd.prog 3 #[.slice A n cap] w fun e w' => e = .returned (.bool true) ∧ Below w.heap.size w w' := by
  have LV : Hid (∀ W, Below w.heap.size w W → Calls Tryd.prog 4 #[] W fun e w' => e = .returned (.bool true) ∧ Below W.heap.size W w') := Lib.hid fun W hb => live11_c W (hW.below hb)
  by_cases hn : n ≤ 100
  · have hn' : ¬ (100 : Int) < (n : Int) := by omega
    have HT : Hid (∀ W, Below w.heap.size w W → TRd W W.heap.size A n cap vs) := Lib.hid fun W hb => (h.below hb).more hb.size
    have HLN := Lib.hid h.len
    have HOLD : Hid (∀ v ∈ vs, 0 < v.c → ∀ b i, v.A = some ⟨b, i, none⟩ → b < w.heap.size) := Lib.hid fun v hv h0 b i hA => by
      obtain ⟨b', o, e, hb, _⟩ := (h.prs v hv).at_ h0
      rw [hA] at e
      cases e
      exact hb
    have G0 := Lib.hid (GrowT.start 27 w)
    clear h hW
    go_enter Tryd.func3, Tryd.ntmps3
    go_wp2_with fail
    go_loopg [3, 4] (n) (fun g v i wr => ∃ t : Nat, i = .int .i64 (t : Int) ∧ t ≤ n ∧ Hid (g + t = n) ∧ Hid (GrowT 27 w wr w.heap.size v (vs.take t)))
    case atStart => exact ⟨0, rfl, Nat.zero_le _, Lib.hid rfl, G0⟩
    case round =>
      obtain ⟨t, rfl, ht, hg, HJ⟩ := hrel
      have ht0 : (0 : Int) ≤ (t : Int) := by omega
      have ht9 : (t : Int) ≤ 100 := by omega
      by_cases htn : t < n
      · have hti : (t : Int) < (n : Int) := by omega
        obtain ⟨b1, o1, v1, rfl, hb1, hv1, hc1, hp1⟩ := (HT.out _ HJ.out.below).cell htn
        have hmem := List.mem_of_getElem? hv1
        have HSN : Hid (vs.take (t + 1) = vs.take t ++ [v1]) := Lib.hid (by
          have hl := (List.getElem?_eq_some_iff.1 hv1).1
          have he : vs[t] = v1 := by rw [List.getElem?_eq_getElem hl] at hv1; exact Option.some.inj hv1
          rw [List.take_succ_eq_append_getElem hl, he])
        have HO1 := Lib.hid (HOLD.out v1 hmem)
        have hvl : (vs.take t).length ≤ 1000000000 := by rw [List.length_take]; omega
        obtain ⟨us, hus⟩ : ∃ us, vs.take t = us := ⟨_, rfl⟩
        rw [hus] at HJ HSN hvl
        clear hus
        obtain ⟨k, PA, pn, pc⟩ := v1
        simp only at hc1 hp1 HO1
        have z0 : wr.cell? ⟨b1, o1 + t * 7, none⟩ = some (.int .i64 k.kind) := by rw [show o1 + t * 7 = o1 + (t * 7 + 0) by omega]; exact hc1 0 _ rfl
        have z1 : wr.cell? ⟨b1, o1 + t * 7 + 1, none⟩ = some (.int .i64 k.fro) := by rw [show o1 + t * 7 + 1 = o1 + (t * 7 + 1) by omega]; exact hc1 1 _ rfl
        have z2 : wr.cell? ⟨b1, o1 + t * 7 + 2, none⟩ = some (.int .i64 k.to_) := by rw [show o1 + t * 7 + 2 = o1 + (t * 7 + 2) by omega]; exact hc1 2 _ rfl
        have z3 : wr.cell? ⟨b1, o1 + t * 7 + 3, none⟩ = some (.string ⟨k.name.toArray⟩) := by rw [show o1 + t * 7 + 3 = o1 + (t * 7 + 3) by omega]; exact hc1 3 _ rfl
        have z4 : wr.cell? ⟨b1, o1 + t * 7 + 4, none⟩ = some (.string ⟨k.text.toArray⟩) := by rw [show o1 + t * 7 + 4 = o1 + (t * 7 + 4) by omega]; exact hc1 4 _ rfl
        have z5 : wr.cell? ⟨b1, o1 + t * 7 + 5, none⟩ = some (.slice PA pn pc) := by rw [show o1 + t * 7 + 5 = o1 + (t * 7 + 5) by omega]; exact hc1 5 _ rfl
        have z6 : wr.cell? ⟨b1, o1 + t * 7 + 6, none⟩ = some (.int .i64 k.r) := by rw [show o1 + t * 7 + 6 = o1 + (t * 7 + 6) by omega]; exact hc1 6 _ rfl
        have C0 := Lib.hid (give_c k PA pn pc wr)
        have HP1 := Lib.hid hp1
        clear hb1 hv1 hc1 hp1 hmem
        go_wp2_with fail
        refine C0.out.mono ?_
        rintro e w2 ⟨rfl, hb⟩
        have J2 := Lib.hid (HJ.out.kept hb)
        have HP2 := Lib.hid ((HP1.out.below hb).more hb.size)
        have hba : w.heap.size ≤ w2.heap.size := J2.out.base1
        have HOF : Hid (0 < pc → ∀ b i, PA = some ⟨b, i, none⟩ → some b ≠ Value.ownBlock _) := Lib.hid (fun h0 b i hA e => by
          have := (ownBlock_lt J2.out.own e.symm).2
          have := HO1.out h0 b i hA
          omega)
        clear hb z0 z1 z2 z3 z4 z5 z6
        go_wp2_with (first
          | (at_builtin; refine wpList_appK rfl (.tmp 19) (.tmp 25) 24 27 rfl (.agg #[.int .i64 0, .int .i64 0, .int .i64 0, .string ⟨#[]⟩, .string ⟨#[]⟩, .slice none 0 0, .int .i64 0]) 7 88 Tryd.underlying24 info_tok rfl (by decide) w.heap.size _ us.length (cellsK us) rfl J2.out.own (TokV.cells ⟨k, PA, pn, pc⟩) _ rfl rfl rfl (cells_one _) hvl (by decide) hba ?_))
        intro v5 w5 hown5 hg5 hat5
        have J5 := Lib.hid (J2.out.appended (x := ⟨k, PA, pn, pc⟩) HP2.out HOF.out hown5 hg5 hat5)
        clear hown5 hg5 hat5
        go_wp2
        go_roundg (n - (t + 1))
        case measure => have := hg.out; omega
        case rel => exact ⟨t + 1, by go_num, by omega, Lib.hid (by omega), Lib.hid (by rw [HSN.out]; exact J5.out)⟩
      · have hti : ¬ (t : Int) < (n : Int) := by omega
        have hJ := HJ.out
        rw [List.take_of_length_le (by rw [HLN.out]; omega)] at hJ
        obtain ⟨A2, c2, hv, hr⟩ := TRd.ofOwn hJ.own hJ.prs
        subst hv
        have CM1 := Lib.hid (tokMatch_c A2 vs.length c2 vs wr hr (by rw [HLN.out]; omega))
        have CM2 : Hid (∀ W, Below w.heap.size w W → Calls Tryd.prog 7 #[.slice A n cap] W fun e w' => e = .returned (.tuple #[.int .i64 ((matchOut (vs.map TokV.t)).1 : Int), .bool (matchOut (vs.map TokV.t)).2]) ∧ Below W.heap.size W w') := Lib.hid fun W hb => refMatch_c A n cap vs W (HT.out W hb) (by omega)
        generalize matchOut (vs.map TokV.t) = mo at *
        obtain ⟨mi, mb⟩ := mo
        simp only at CM1 CM2
        have hbb : (mb == mb) = true := by simp
        have B0 := Lib.hid hJ.below
        clear hr hJ
        go_wp2_with fail
        refine (CM1.out).mono ?_
        rintro e w3 ⟨rfl, hb⟩
        have B3 := Lib.hid (B0.out.trans (hb.mono B0.out.size))
        clear hb
        go_wp2_with fail
        refine (CM2.out _ B3.out).mono ?_
        rintro e w4 ⟨rfl, hb⟩
        have B4 := Lib.hid (B3.out.trans (hb.mono B3.out.size))
        clear hb
        go_wp2_with fail
        refine (LV.out _ B4.out).mono ?_
        rintro e w5 ⟨rfl, hb⟩
        have B5 := Lib.hid (B4.out.trans (hb.mono B4.out.size))
        clear hb
        go_wp2
        go_ret
        exact ⟨rfl, B5.out⟩
  · have hn' : (100 : Int) < (n : Int) := by omega
    clear hW hn h
    go_enter Tryd.func3, Tryd.ntmps3
    go_wp2_with fail
    refine (LV.out _ (Below.refl _ _)).mono ?_
    rintro e w1 ⟨rfl, hb⟩
    have B1 := Lib.hid hb
    clear hb
    go_wp2
    go_ret
    exact ⟨rfl, B1.out⟩
end Go.Proofs.YtmclngahdklfkaaDoor
