/- narthexref11.Match. -/
import Derived.Test.YtmclngahdklfkaaGreatDoorRows
import Derived.Test.YtmclngahdklfkaaGreatDoorQX
import Derived.WalkKit
import Derived.ProofKit
import Derived.OpenShut
import Derived.ShutString
import Derived.ChangeOld
import Derived.Below
import Derived.BigQuiet
import Derived.Deep.QuietTactic
import Derived.Lib.Hide
import Derived.Deep.RegionHeld3
import Derived.Lib.SlBytesConst
import Derived.Laws.CopyOwn
import Derived.Laws.CopyRow
import Derived.Lib.Bytes
import Derived.Deep.LoopGhost
import Derived.Deep.DeepFit
import Derived.Deep.DeepMust
import Derived.WalkSpells
import Derived.WalkLawsBesides
import Derived.Maps.OwnOps
import Derived.Maps.OwnSet
import Derived.Maps.Views
import Derived.Laws.EntriesVeiled
import Derived.Laws.Rows
import Derived.Maps.AppendAt
import Derived.Lib.SmallJoins
import Derived.Test.YtmclngahdklfkaaGreatDoorQ1
import Derived.Test.YtmclngahdklfkaaGreatDoorQ2
import Derived.Test.YtmclngahdklfkaaGreatDoorQ4
import Derived.Test.YtmclngahdklfkaaGreatDoorQ6
import Derived.Test.YtmclngahdklfkaaGreatDoorQ8
import Derived.Test.YtmclngahdklfkaaGreatDoorQ9
import Derived.Test.YtmclngahdklfkaaGreatDoorQ10
import Derived.Test.YtmclngahdklfkaaGreatDoorQ11
import Derived.Test.YtmclngahdklfkaaGreatDoorQ12
import Derived.Test.YtmclngahdklfkaaGreatDoorQ13
import Derived.Test.YtmclngahdklfkaaGreatDoorQ21
import Derived.Test.YtmclngahdklfkaaGreatDoorTok9
import Derived.Test.YtmclngahdklfkaaGreatDoorTok10
namespace Go.Proofs.YtmclngahdklfkaaGreatDoor
open Go.ChangeShapes Go.WideShapes Go.ChangeAt Go.RowKit
set_option linter.unusedVariables false
set_option maxRecDepth 100000 in
set_option maxHeartbeats 8000000 in
theorem refMatch_c (A : Option Addr) (n cap : Nat) (vs : List TokV) (w : World) (h : TRd w w.heap.size A n cap vs) (hm : n ≤ 1000000) :
    Calls Tryz.prog 17 #[.slice A n cap] w fun e w' => e = .returned (.tuple #[.int .i64 ((matchOut (vs.map TokV.t)).1 : Int), .bool (matchOut (vs.map TokV.t)).2]) ∧ Below w.heap.size w w' := by
  have HT := Lib.hid h
  have HLn := Lib.hid h.len
  have HMm := Lib.hid hm
  have HE0 : Hid (matchOut (vs.map TokV.t) = matchR [] ((vs.map TokV.t).drop 0) 0) := Lib.hid rfl
  generalize matchOut (vs.map TokV.t) = R at *
  have hcut := fun (A : Option Addr) (n cap t : Nat) (ht : t ≤ cap) (W : World) => run_cutS (w := W) A n cap t ht
  have HCUT := Lib.hid hcut
  clear h hm hcut
  go_enter Tryz.func17, Tryz.ntmps17
  go_wp2_with fail
  go_loopg [4, 5] n (fun g v i wr => ∃ (t : Nat) (op : List (List UInt8)), i = .int .i64 (t : Int) ∧ t ≤ n ∧ Hid (g + t = n) ∧ Hid (op.length ≤ t) ∧ Hid (R = matchR op ((vs.map TokV.t).drop t) t) ∧ Hid (Below w.heap.size w wr) ∧ Hid (OwnS wr w.heap.size v op))
  case atStart => exact ⟨0, [], rfl, Nat.zero_le _, Lib.hid rfl, Lib.hid (Nat.zero_le _), HE0, Lib.hid (Below.refl _ _), Lib.hid (OwnS.start _ _)⟩
  case round =>
    obtain ⟨t, op, rfl, ht, hg, hop, HE, HB, HO⟩ := hrel
    have hm := HMm.out
    have ht0 : (0 : Int) ≤ (t : Int) := by omega
    have ht9 : (t : Int) ≤ 1000000 := by omega
    by_cases htn : t < n
    · have hti : (t : Int) < (n : Int) := by omega
      obtain ⟨b, o, v, rfl, hbB, hv, hc, _⟩ := (HT.out.below HB.out).cell htn
      have hbW : b < wr.heap.size := by have := HB.out.size; omega
      have hE1 := HE.out.trans (congrArg (fun x => matchR op x t) (drop_at hv))
      have z0 : wr.cell? ⟨b, o + t * 7, none⟩ = some (.int .i64 v.t.kind) := by rw [show o + t * 7 = o + (t * 7 + 0) by omega]; exact hc 0 _ rfl
      have z1 : wr.cell? ⟨b, o + t * 7 + 1, none⟩ = some (.int .i64 v.t.fro) := by rw [show o + t * 7 + 1 = o + (t * 7 + 1) by omega]; exact hc 1 _ rfl
      have z2 : wr.cell? ⟨b, o + t * 7 + 2, none⟩ = some (.int .i64 v.t.to_) := by rw [show o + t * 7 + 2 = o + (t * 7 + 2) by omega]; exact hc 2 _ rfl
      have z3 : wr.cell? ⟨b, o + t * 7 + 3, none⟩ = some (.string ⟨v.t.name.toArray⟩) := by rw [show o + t * 7 + 3 = o + (t * 7 + 3) by omega]; exact hc 3 _ rfl
      have z4 : wr.cell? ⟨b, o + t * 7 + 4, none⟩ = some (.string ⟨v.t.text.toArray⟩) := by rw [show o + t * 7 + 4 = o + (t * 7 + 4) by omega]; exact hc 4 _ rfl
      have z5 : wr.cell? ⟨b, o + t * 7 + 5, none⟩ = some (.slice v.A v.n v.c) := by rw [show o + t * 7 + 5 = o + (t * 7 + 5) by omega]; exact hc 5 _ rfl
      have z6 : wr.cell? ⟨b, o + t * 7 + 6, none⟩ = some (.int .i64 v.t.r) := by rw [show o + t * 7 + 6 = o + (t * 7 + 6) by omega]; exact hc 6 _ rfl
      have hopn : op.length ≤ 1000000000 := by have := hop.out; omega
      have hba : w.heap.size ≤ wr.heap.size := HB.out.size
      clear hc hv
      by_cases h7 : v.t.kind = 7
      · have HE2 := Lib.hid (hE1.trans (match_open h7))
        rw [h7] at z0
        have hown2 := HO.out
        unfold OwnS at hown2
        have HZ := Lib.hid z0
        have hhb := hbB
        clear hE1 h7
        go_wp2_with (at_builtin; refine wpList_appK rfl (.tmp 19) (.tmp 25) 71 9 rfl (.string ⟨#[]⟩) 1 16 Tryz.underlying71 info_str rfl (by decide) w.heap.size _ op.length (op.map strV) rfl hown2 [strV v.t.name] _ rfl rfl rfl (by simp [strV, Value.oneCell']) hopn (by decide) hba ?_)
        intro v4 w4 hown4 hg4 hat4
        have HO4 := Lib.hid (OwnS.of hown4)
        have HB4 : Hid (Below w.heap.size w w4) := Lib.hid ((HB.out.alloc HB.out.size _).grown hg4 (by rw [World.size_alloc]; omega) fun j hj => (ownBlock_lt hown2 hj).2)
        have x0 : w4.cell? ⟨b, o + t * 7, none⟩ = some (.int .i64 7) := (HB4.out.cell (p := ⟨b, o + t * 7, none⟩) hbB).trans (((HB.out.cell (p := ⟨b, o + t * 7, none⟩) hbB).symm).trans HZ.out)
        clear hown4 hg4 hat4 z0 z1 z2 z3 z4 z5 z6
        go_wp2
        go_roundg (n - (t + 1))
        case measure => have := hg.out; omega
        case rel => exact ⟨t + 1, op ++ [v.t.name], by go_num, by omega, Lib.hid (by omega), Lib.hid (by have := hop.out; simp; omega), HE2, HB4, HO4⟩
      · have k7 : (v.t.kind == 7) = false := by simp [h7]
        by_cases h9 : v.t.kind = 9
        · rw [h9] at z0
          clear k7
          rcases List.eq_nil_or_concat op with rfl | ⟨op2, s, rfl⟩
          · have HE2 := Lib.hid (hE1.trans (match_no h9 (by simp)))
            obtain ⟨A4, c4, rfl⟩ := HO.out.form
            clear hE1 h7 h9
            simp only [List.length_nil]
            go_wp2_with fail
            go_quiet (fail)
            have HBq := Lib.hid (below_drewN' (n := nq) HB.out)
            clear z0 z1 z2 z3 z4 z5 z6
            generalize wr.drewN nq = wq at *
            go_wp2
            go_ret2
            rw [HE2.out]
            exact ⟨rfl, HBq.out⟩
          · rw [List.concat_eq_append] at *
            obtain ⟨g5, c5, rfl, hc5, hg5, hgl5, hz5, ho5⟩ := HO.out.last
            have HO5 := Lib.hid ho5
            have l0 : (0 : Int) ≤ (op2.length : Int) := by omega
            have l1 : (op2.length : Int) < (op2.length : Int) + 1 := by omega
            have l3 : ((op2.length : Int) + 1 == 0) = false := by simp; omega
            have l9 : (op2.length : Int) ≤ 1000000 := by have := hop.out; rw [List.length_append] at this; omega
            have l2 : IntKind.i64.wrap (op2.length : Int) = (op2.length : Int) := by rw [IntKind.wrap_i64]; omega
            have hcut := fun W => HCUT.out (some ⟨g5, 0, none⟩) (op2.length + 1) c5 op2.length (by omega) W
            unfold strV at hz5
            by_cases hs : s = v.t.name
            · have HE2 := Lib.hid (hE1.trans (by rw [hs, match_pop h9]))
              have hbn : (s == v.t.name) = true := by simpa using hs
              have HOPl := Lib.hid (show op2.length ≤ t + 1 by have := hop.out; rw [List.length_append] at this; omega)
              clear hE1 h7 h9 ho5 hs
              generalize op2.length = m5 at *
              go_wp2_with fail
              go_quiet (fail)
              have HBq := Lib.hid (below_drewN' (n := nq) HB.out)
              have HOq : Hid (OwnS (wr.drewN nq) w.heap.size (.slice (some ⟨g5, 0, none⟩) m5 c5) op2) := Lib.hid HO5.out
              clear z0 z1 z2 z3 z4 z5 z6 hz5
              generalize wr.drewN nq = wq at *
              go_wp2
              go_roundg (n - (t + 1))
              case measure => have := hg.out; omega
              case rel => exact ⟨t + 1, op2, by go_num, by omega, Lib.hid (by omega), Lib.hid (by have := hop.out; rw [List.length_append] at this; omega), HE2, HBq, HOq⟩
            · have HE2 := Lib.hid (hE1.trans (match_no h9 (by simpa using hs)))
              have hbn : (s == v.t.name) = false := by simpa using hs
              clear hE1 h7 h9 ho5 hs
              generalize op2.length = m5 at *
              go_wp2_with fail
              go_quiet (fail)
              have HBq := Lib.hid (below_drewN' (n := nq) HB.out)
              clear z0 z1 z2 z3 z4 z5 z6 hz5
              generalize wr.drewN nq = wq at *
              go_wp2
              go_ret2
              rw [HE2.out]
              exact ⟨rfl, HBq.out⟩
        · have k9 : (v.t.kind == 9) = false := by simp [h9]
          have HE2 := Lib.hid (hE1.trans (match_skip h7 h9))
          clear hE1 h7 h9
          go_wp2
          go_roundg (n - (t + 1))
          case measure => have := hg.out; omega
          case rel => exact ⟨t + 1, op, by go_num, by omega, Lib.hid (by omega), Lib.hid (by have := hop.out; omega), HE2, HB, HO⟩
    · have hti : ¬ (t : Int) < (n : Int) := by omega
      obtain rfl : t = n := by omega
      have HE2 : Hid (R = (t, op.isEmpty)) := Lib.hid (by rw [HE.out, List.drop_of_length_le (by rw [List.length_map, HLn.out]; exact Nat.le_refl _)]; rfl)
      obtain ⟨A4, c4, rfl⟩ := HO.out.form
      have he : ((op.length : Int) == 0) = op.isEmpty := by
        cases op with
        | nil => rfl
        | cons a op => simp; omega
      have he' := Lib.hid he
      go_wp2
      go_ret2
      rw [HE2.out]
      exact ⟨by simp, HB.out⟩
end Go.Proofs.YtmclngahdklfkaaGreatDoor
