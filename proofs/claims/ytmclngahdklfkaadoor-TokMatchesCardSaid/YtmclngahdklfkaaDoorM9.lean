/- Texts of ours, joined: Tok10, Tok10b, Laid, Laid3. -/
import Derived.Test.YtmclngahdklfkaaDoorRows
import Derived.WalkKit
import Derived.ProofKit
import Derived.OpenShut
import Derived.ShutString
import Derived.ChangeOld
import Derived.Below
import Derived.BigQuiet
import Derived.Deep.QuietTactic
import Derived.Lib.Hide
import Derived.Deep.RegionHeld3
import Derived.Lib.SlBytesConst
import Derived.Laws.CopyOwn
import Derived.Laws.CopyRow
import Derived.Lib.Bytes
import Derived.Deep.LoopGhost
import Derived.Deep.DeepFit
import Derived.Deep.DeepMust
import Derived.WalkSpells
import Derived.WalkLawsBesides
import Derived.Maps.OwnOps
import Derived.Maps.OwnSet
import Derived.Maps.Views
import Derived.Laws.EntriesVeiled
import Derived.Laws.Rows
import Derived.Maps.AppendAt
import Derived.Lib.SmallJoins
import Derived.Test.YtmclngahdklfkaaDoorM1
import Derived.Test.YtmclngahdklfkaaDoorM3
import Derived.Test.YtmclngahdklfkaaDoorM2
import Derived.Test.YtmclngahdklfkaaDoorM4
import Derived.Test.YtmclngahdklfkaaDoorM5
import Derived.Test.YtmclngahdklfkaaDoorM6
import Derived.Test.YtmclngahdklfkaaDoorM7
import Derived.Test.YtmclngahdklfkaaDoorM8
import Derived.Lib.LaidCaseMet
import Derived.Deep.DeepLaidRun
/- tok.Match. -/
namespace Go.Proofs.YtmclngahdklfkaaDoor
open Go.ChangeShapes Go.WideShapes Go.ChangeAt Go.RowKit
set_option linter.unusedVariables false
theorem info_str : ∃ i, Tryd.prog.info? 9 = some i ∧ i.zero = some (.string ⟨#[]⟩) ∧ i.size = 1 ∧ i.bytes = 16 := by
  obtain ⟨i, h1, h2, h3, h4⟩ := info_parts (show (Tryd.prog.info? 9).map (fun i => (i.zero, i.size, i.bytes)) = some (some (.string ⟨#[]⟩), 1, 16) by kernel_rfl)
  exact ⟨i, h1, h2, h3, h4⟩
theorem OwnS.of {w : World} {base : Nat} {v : Value} {op : List (List UInt8)} {s : List UInt8} (h : w.ownsRow base 9 1 v (op.length + 1) (op.map strV ++ [strV s])) : OwnS w base v (op ++ [s]) := by
  unfold OwnS
  rw [List.length_append, List.length_singleton, List.map_append]
  exact h
theorem match_open {op : List (List UInt8)} {t : TokL} {ts : List TokL} {i : Nat} (h : t.kind = 7) : matchR op (t :: ts) i = matchR (op ++ [t.name]) ts (i + 1) := by rw [matchR, if_pos h]
theorem match_pop {op : List (List UInt8)} {t : TokL} {ts : List TokL} {i : Nat} (h : t.kind = 9) : matchR (op ++ [t.name]) (t :: ts) i = matchR op ts (i + 1) := by
  rw [matchR, if_neg (by omega), if_pos h, if_pos (by simp), List.dropLast_concat]
theorem match_no {op : List (List UInt8)} {t : TokL} {ts : List TokL} {i : Nat} (h : t.kind = 9) (hn : op.getLast? ≠ some t.name) : matchR op (t :: ts) i = (i, false) := by
  rw [matchR, if_neg (by omega), if_pos h, if_neg hn]
theorem match_skip {op : List (List UInt8)} {t : TokL} {ts : List TokL} {i : Nat} (h7 : t.kind ≠ 7) (h9 : t.kind ≠ 9) : matchR op (t :: ts) i = matchR op ts (i + 1) := by rw [matchR, if_neg h7, if_neg h9]
theorem drop_at {ts : List TokV} {t : Nat} {v : TokV} (h : ts[t]? = some v) : (ts.map TokV.t).drop t = v.t :: (ts.map TokV.t).drop (t + 1) := by
  have hl := (List.getElem?_eq_some_iff.1 h).1
  rw [List.drop_eq_getElem_cons (by rw [List.length_map]; exact hl)]
  rw [List.getElem?_eq_getElem hl] at h
  cases h
  simp
set_option maxRecDepth 100000 in
set_option maxHeartbeats 8000000 in
theorem tokMatch_c (A : Option Addr) (n cap : Nat) (vs : List TokV) (w : World) (h : TRd w w.heap.size A n cap vs) (hm : n ≤ 1000000) :
    Calls Tryd.prog 6 #[.slice A n cap] w fun e w' => e = .returned (.tuple #[.int .i64 ((matchOut (vs.map TokV.t)).1 : Int), .bool (matchOut (vs.map TokV.t)).2]) ∧ Below w.heap.size w w' := by
  have HT := Lib.hid h
  have HLn := Lib.hid h.len
  have HMm := Lib.hid hm
  have HE0 : Hid (matchOut (vs.map TokV.t) = matchR [] ((vs.map TokV.t).drop 0) 0) := Lib.hid rfl
  generalize matchOut (vs.map TokV.t) = R at *
  have hcut := fun (A : Option Addr) (n cap t : Nat) (ht : t ≤ cap) (W : World) => run_cutS (w := W) A n cap t ht
  have HCUT := Lib.hid hcut
  clear h hm hcut
  go_enter Tryd.func6, Tryd.ntmps6
  go_wp2_with fail
  go_loopg [4, 12] n (fun g v i wr => ∃ (t : Nat) (op : List (List UInt8)), i = .int .i64 (t : Int) ∧ t ≤ n ∧ Hid (g + t = n) ∧ Hid (op.length ≤ t) ∧ Hid (R = matchR op ((vs.map TokV.t).drop t) t) ∧ Hid (Below w.heap.size w wr) ∧ Hid (OwnS wr w.heap.size v op))
  case atStart => exact ⟨0, [], rfl, Nat.zero_le _, Lib.hid rfl, Lib.hid (Nat.zero_le _), HE0, Lib.hid (Below.refl _ _), Lib.hid (OwnS.start _ _)⟩
  case round =>
    obtain ⟨t, op, rfl, ht, hg, hop, HE, HB, HO⟩ := hrel
    have hm := HMm.out
    have ht0 : (0 : Int) ≤ (t : Int) := by omega
    have ht9 : (t : Int) ≤ 1000000 := by omega
    by_cases htn : t < n
    · have hti : (t : Int) < (n : Int) := by omega
      obtain ⟨b, o, v, rfl, hbB, hv, hc, _⟩ := (HT.out.below HB.out).cell htn
      have hbW : b < wr.heap.size := by have := HB.out.size; omega
      have hE1 := HE.out.trans (congrArg (fun x => matchR op x t) (drop_at hv))
      have z0 : wr.cell? ⟨b, o + t * 7, none⟩ = some (.int .i64 v.t.kind) := by rw [show o + t * 7 = o + (t * 7 + 0) by omega]; exact hc 0 _ rfl
      have z1 : wr.cell? ⟨b, o + t * 7 + 1, none⟩ = some (.int .i64 v.t.fro) := by rw [show o + t * 7 + 1 = o + (t * 7 + 1) by omega]; exact hc 1 _ rfl
      have z2 : wr.cell? ⟨b, o + t * 7 + 2, none⟩ = some (.int .i64 v.t.to_) := by rw [show o + t * 7 + 2 = o + (t * 7 + 2) by omega]; exact hc 2 _ rfl
      have z3 : wr.cell? ⟨b, o + t * 7 + 3, none⟩ = some (.string ⟨v.t.name.toArray⟩) := by rw [show o + t * 7 + 3 = o + (t * 7 + 3) by omega]; exact hc 3 _ rfl
      have z4 : wr.cell? ⟨b, o + t * 7 + 4, none⟩ = some (.string ⟨v.t.text.toArray⟩) := by rw [show o + t * 7 + 4 = o + (t * 7 + 4) by omega]; exact hc 4 _ rfl
      have z5 : wr.cell? ⟨b, o + t * 7 + 5, none⟩ = some (.slice v.A v.n v.c) := by rw [show o + t * 7 + 5 = o + (t * 7 + 5) by omega]; exact hc 5 _ rfl
      have z6 : wr.cell? ⟨b, o + t * 7 + 6, none⟩ = some (.int .i64 v.t.r) := by rw [show o + t * 7 + 6 = o + (t * 7 + 6) by omega]; exact hc 6 _ rfl
      have ka := (Below.refl _ wr).alloc (Nat.le_refl _) (.cells #[.int .i64 v.t.kind, .int .i64 v.t.fro, .int .i64 v.t.to_, .string ⟨v.t.name.toArray⟩, .string ⟨v.t.text.toArray⟩, .slice v.A v.n v.c, .int .i64 v.t.r] 27)
      have HB2 := Lib.hid (HB.out.trans (ka.mono HB.out.size))
      have HO2 := Lib.hid (HO.out.kept ka)
      have hopn : op.length ≤ 1000000000 := by have := hop.out; omega
      have hba : w.heap.size ≤ (wr.alloc (.cells #[.int .i64 v.t.kind, .int .i64 v.t.fro, .int .i64 v.t.to_, .string ⟨v.t.name.toArray⟩, .string ⟨v.t.text.toArray⟩, .slice v.A v.n v.c, .int .i64 v.t.r] 27)).heap.size := HB2.out.size
      clear hc hv ka
      by_cases h7 : v.t.kind = 7
      · have HE2 := Lib.hid (hE1.trans (match_open h7))
        rw [h7] at z0 HB2 HO2 hba
        clear hE1 h7
        have hown2 := HO2.out
        unfold OwnS at hown2
        go_wp2_with (at_builtin; refine wpList_appH rfl (.tmp 21) (.tmp 24) 38 9 rfl (.string ⟨#[]⟩) 1 16 Tryd.underlying38 info_str rfl (by decide) w.heap.size _ op.length (op.map strV) rfl hown2 [strV v.t.name] _ rfl (wr.heap.size + 1) (by simp) rfl rfl (by simp [strV, Value.oneCell']) hopn (by decide) hba ?_)
        intro v4 w4 hown4 hg4 hat4
        have HO4 := Lib.hid (OwnS.of hown4)
        have hne : ∀ j, j < w.heap.size → some j ≠ Value.ownBlock _ := fun j hj => ownsRow_lt HO2.out j hj
        have HB4 : Hid (Below w.heap.size w w4) := Lib.hid ((HB2.out.alloc HB2.out.size _).grown hg4 (by rw [World.size_alloc]; omega) fun j hj => by
          have := (ownBlock_lt HO2.out hj).2
          omega)
        clear hown4 hg4 hat4 hne
        go_wp2
        go_roundg (n - (t + 1))
        case measure => have := hg.out; omega
        case rel => exact ⟨t + 1, op ++ [v.t.name], by go_num, by omega, Lib.hid (by omega), Lib.hid (by have := hop.out; simp; omega), HE2, HB4, HO4⟩
      · have k7 : (v.t.kind == 7) = false := by simp [h7]
        by_cases h9 : v.t.kind = 9
        · rw [h9] at z0 HB2 HO2 hba
          clear k7
          rcases List.eq_nil_or_concat op with rfl | ⟨op2, s, rfl⟩
          · have HE2 := Lib.hid (hE1.trans (match_no h9 (by simp)))
            have CL := Lib.hid (last_no w.heap.size _ _ HO2.out)
            clear hE1 h7 h9
            go_wp2_with fail
            refine CL.out.mono ?_
            rintro e0 wq ⟨rfl, hwq⟩
            subst hwq
            go_wp2
            go_ret2
            rw [HE2.out]
            exact ⟨rfl, HB2.out⟩
          · rw [List.concat_eq_append] at *
            have CL := Lib.hid (last_yes w.heap.size _ _ op2 s HO2.out (by have := hop.out; rw [List.length_append] at this; omega))
            have q3 : (wr.alloc (.cells #[.int .i64 9, .int .i64 v.t.fro, .int .i64 v.t.to_, .string ⟨v.t.name.toArray⟩, .string ⟨v.t.text.toArray⟩, .slice v.A v.n v.c, .int .i64 v.t.r] 27)).heap[wr.heap.size]? = some (.cells #[.int .i64 9, .int .i64 v.t.fro, .int .i64 v.t.to_, .string ⟨v.t.name.toArray⟩, .string ⟨v.t.text.toArray⟩, .slice v.A v.n v.c, .int .i64 v.t.r] 27) := hp_new _ _
            have q3q : ∀ q, ((wr.alloc (.cells #[.int .i64 9, .int .i64 v.t.fro, .int .i64 v.t.to_, .string ⟨v.t.name.toArray⟩, .string ⟨v.t.text.toArray⟩, .slice v.A v.n v.c, .int .i64 v.t.r] 27)).drewN q).cell? ⟨wr.heap.size, 3, none⟩ = some (.string ⟨v.t.name.toArray⟩) := fun q => cell_of 3 q3
            by_cases hs : s = v.t.name
            · subst hs
              have HE2 := Lib.hid (hE1.trans (match_pop h9))
              clear hE1 h7 h9
              go_wp2_with fail
              refine CL.out.mono ?_
              rintro e0 w5 ⟨g5, c5, q5, rfl, ho5, rfl⟩
              have x3 := q3q q5
              have HO5 : Hid (OwnS ((wr.alloc (.cells #[.int .i64 9, .int .i64 v.t.fro, .int .i64 v.t.to_, .string ⟨v.t.name.toArray⟩, .string ⟨v.t.text.toArray⟩, .slice v.A v.n v.c, .int .i64 v.t.r] 27)).drewN q5) w.heap.size (.slice (some ⟨g5, 0, none⟩) op2.length c5) op2) := Lib.hid ho5
              have HB5 := Lib.hid (below_drewN' (n := q5) HB2.out)
              unfold strV
              clear ho5 q3 q3q
              generalize (wr.alloc (.cells #[.int .i64 9, .int .i64 v.t.fro, .int .i64 v.t.to_, .string ⟨v.t.name.toArray⟩, .string ⟨v.t.text.toArray⟩, .slice v.A v.n v.c, .int .i64 v.t.r] 27)).drewN q5 = w6 at *
              go_wp2
              go_roundg (n - (t + 1))
              case measure => have := hg.out; omega
              case rel => exact ⟨t + 1, op2, by go_num, by omega, Lib.hid (by omega), Lib.hid (by have := hop.out; rw [List.length_append] at this; omega), HE2, HB5, HO5⟩
            · have HE2 := Lib.hid (hE1.trans (match_no h9 (by simpa using hs)))
              have hbn : (s == v.t.name) = false := by simpa using hs
              clear hE1 h7 h9 hs
              go_wp2_with fail
              refine CL.out.mono ?_
              rintro e0 w5 ⟨g5, c5, q5, rfl, ho5, rfl⟩
              have x3 := q3q q5
              have HB5 := Lib.hid (below_drewN' (n := q5) HB2.out)
              unfold strV
              clear ho5 q3 q3q
              generalize (wr.alloc (.cells #[.int .i64 9, .int .i64 v.t.fro, .int .i64 v.t.to_, .string ⟨v.t.name.toArray⟩, .string ⟨v.t.text.toArray⟩, .slice v.A v.n v.c, .int .i64 v.t.r] 27)).drewN q5 = w6 at *
              go_wp2
              go_ret2
              rw [HE2.out]
              exact ⟨rfl, HB5.out⟩
        · have k9 : (v.t.kind == 9) = false := by simp [h9]
          have HE2 := Lib.hid (hE1.trans (match_skip h7 h9))
          clear hE1 h7 h9
          go_wp2
          go_roundg (n - (t + 1))
          case measure => have := hg.out; omega
          case rel => exact ⟨t + 1, op, by go_num, by omega, Lib.hid (by omega), Lib.hid (by have := hop.out; omega), HE2, HB2, HO2⟩
    · have hti : ¬ (t : Int) < (n : Int) := by omega
      obtain rfl : t = n := by omega
      have HE2 : Hid (R = (t, op.isEmpty)) := Lib.hid (by rw [HE.out, List.drop_of_length_le (by rw [List.length_map, HLn.out]; exact Nat.le_refl _)]; rfl)
      obtain ⟨A4, c4, rfl⟩ := HO.out.form
      have he : ((op.length : Int) == 0) = op.isEmpty := by
        cases op with
        | nil => rfl
        | cons a op => simp; omega
      have he' := Lib.hid he
      go_wp2
      go_ret2
      rw [HE2.out]
      exact ⟨by simp, HB.out⟩
end Go.Proofs.YtmclngahdklfkaaDoor
/- narthexref11.Match. -/
namespace Go.Proofs.YtmclngahdklfkaaDoor
open Go.ChangeShapes Go.WideShapes Go.ChangeAt Go.RowKit
set_option linter.unusedVariables false
set_option maxRecDepth 100000 in
set_option maxHeartbeats 8000000 in
theorem refMatch_c (A : Option Addr) (n cap : Nat) (vs : List TokV) (w : World) (h : TRd w w.heap.size A n cap vs) (hm : n ≤ 1000000) :
    Calls Tryd.prog 7 #[.slice A n cap] w fun e w' => e = .returned (.tuple #[.int .i64 ((matchOut (vs.map TokV.t)).1 : Int), .bool (matchOut (vs.map TokV.t)).2]) ∧ Below w.heap.size w w' := by
  have HT := Lib.hid h
  have HLn := Lib.hid h.len
  have HMm := Lib.hid hm
  have HE0 : Hid (matchOut (vs.map TokV.t) = matchR [] ((vs.map TokV.t).drop 0) 0) := Lib.hid rfl
  generalize matchOut (vs.map TokV.t) = R at *
  have hcut := fun (A : Option Addr) (n cap t : Nat) (ht : t ≤ cap) (W : World) => run_cutS (w := W) A n cap t ht
  have HCUT := Lib.hid hcut
  clear h hm hcut
  go_enter Tryd.func7, Tryd.ntmps7
  go_wp2_with fail
  go_loopg [4, 5] n (fun g v i wr => ∃ (t : Nat) (op : List (List UInt8)), i = .int .i64 (t : Int) ∧ t ≤ n ∧ Hid (g + t = n) ∧ Hid (op.length ≤ t) ∧ Hid (R = matchR op ((vs.map TokV.t).drop t) t) ∧ Hid (Below w.heap.size w wr) ∧ Hid (OwnS wr w.heap.size v op))
  case atStart => exact ⟨0, [], rfl, Nat.zero_le _, Lib.hid rfl, Lib.hid (Nat.zero_le _), HE0, Lib.hid (Below.refl _ _), Lib.hid (OwnS.start _ _)⟩
  case round =>
    obtain ⟨t, op, rfl, ht, hg, hop, HE, HB, HO⟩ := hrel
    have hm := HMm.out
    have ht0 : (0 : Int) ≤ (t : Int) := by omega
    have ht9 : (t : Int) ≤ 1000000 := by omega
    by_cases htn : t < n
    · have hti : (t : Int) < (n : Int) := by omega
      obtain ⟨b, o, v, rfl, hbB, hv, hc, _⟩ := (HT.out.below HB.out).cell htn
      have hbW : b < wr.heap.size := by have := HB.out.size; omega
      have hE1 := HE.out.trans (congrArg (fun x => matchR op x t) (drop_at hv))
      have z0 : wr.cell? ⟨b, o + t * 7, none⟩ = some (.int .i64 v.t.kind) := by rw [show o + t * 7 = o + (t * 7 + 0) by omega]; exact hc 0 _ rfl
      have z1 : wr.cell? ⟨b, o + t * 7 + 1, none⟩ = some (.int .i64 v.t.fro) := by rw [show o + t * 7 + 1 = o + (t * 7 + 1) by omega]; exact hc 1 _ rfl
      have z2 : wr.cell? ⟨b, o + t * 7 + 2, none⟩ = some (.int .i64 v.t.to_) := by rw [show o + t * 7 + 2 = o + (t * 7 + 2) by omega]; exact hc 2 _ rfl
      have z3 : wr.cell? ⟨b, o + t * 7 + 3, none⟩ = some (.string ⟨v.t.name.toArray⟩) := by rw [show o + t * 7 + 3 = o + (t * 7 + 3) by omega]; exact hc 3 _ rfl
      have z4 : wr.cell? ⟨b, o + t * 7 + 4, none⟩ = some (.string ⟨v.t.text.toArray⟩) := by rw [show o + t * 7 + 4 = o + (t * 7 + 4) by omega]; exact hc 4 _ rfl
      have z5 : wr.cell? ⟨b, o + t * 7 + 5, none⟩ = some (.slice v.A v.n v.c) := by rw [show o + t * 7 + 5 = o + (t * 7 + 5) by omega]; exact hc 5 _ rfl
      have z6 : wr.cell? ⟨b, o + t * 7 + 6, none⟩ = some (.int .i64 v.t.r) := by rw [show o + t * 7 + 6 = o + (t * 7 + 6) by omega]; exact hc 6 _ rfl
      have hopn : op.length ≤ 1000000000 := by have := hop.out; omega
      have hba : w.heap.size ≤ wr.heap.size := HB.out.size
      clear hc hv
      by_cases h7 : v.t.kind = 7
      · have HE2 := Lib.hid (hE1.trans (match_open h7))
        rw [h7] at z0
        have hown2 := HO.out
        unfold OwnS at hown2
        have HZ := Lib.hid z0
        have hhb := hbB
        clear hE1 h7
        go_wp2_with (at_builtin; refine wpList_appK rfl (.tmp 19) (.tmp 25) 38 9 rfl (.string ⟨#[]⟩) 1 16 Tryd.underlying38 info_str rfl (by decide) w.heap.size _ op.length (op.map strV) rfl hown2 [strV v.t.name] _ rfl rfl rfl (by simp [strV, Value.oneCell']) hopn (by decide) hba ?_)
        intro v4 w4 hown4 hg4 hat4
        have HO4 := Lib.hid (OwnS.of hown4)
        have HB4 : Hid (Below w.heap.size w w4) := Lib.hid ((HB.out.alloc HB.out.size _).grown hg4 (by rw [World.size_alloc]; omega) fun j hj => (ownBlock_lt hown2 hj).2)
        have x0 : w4.cell? ⟨b, o + t * 7, none⟩ = some (.int .i64 7) := (HB4.out.cell (p := ⟨b, o + t * 7, none⟩) hbB).trans (((HB.out.cell (p := ⟨b, o + t * 7, none⟩) hbB).symm).trans HZ.out)
        clear hown4 hg4 hat4 z0 z1 z2 z3 z4 z5 z6
        go_wp2
        go_roundg (n - (t + 1))
        case measure => have := hg.out; omega
        case rel => exact ⟨t + 1, op ++ [v.t.name], by go_num, by omega, Lib.hid (by omega), Lib.hid (by have := hop.out; simp; omega), HE2, HB4, HO4⟩
      · have k7 : (v.t.kind == 7) = false := by simp [h7]
        by_cases h9 : v.t.kind = 9
        · rw [h9] at z0
          clear k7
          rcases List.eq_nil_or_concat op with rfl | ⟨op2, s, rfl⟩
          · have HE2 := Lib.hid (hE1.trans (match_no h9 (by simp)))
            obtain ⟨A4, c4, rfl⟩ := HO.out.form
            clear hE1 h7 h9
            simp only [List.length_nil]
            go_wp2_with fail
            go_quiet (fail)
            have HBq := Lib.hid (below_drewN' (n := nq) HB.out)
            clear z0 z1 z2 z3 z4 z5 z6
            generalize wr.drewN nq = wq at *
            go_wp2
            go_ret2
            rw [HE2.out]
            exact ⟨rfl, HBq.out⟩
          · rw [List.concat_eq_append] at *
            obtain ⟨g5, c5, rfl, hc5, hg5, hgl5, hz5, ho5⟩ := HO.out.last
            have HO5 := Lib.hid ho5
            have l0 : (0 : Int) ≤ (op2.length : Int) := by omega
            have l1 : (op2.length : Int) < (op2.length : Int) + 1 := by omega
            have l3 : ((op2.length : Int) + 1 == 0) = false := by simp; omega
            have l9 : (op2.length : Int) ≤ 1000000 := by have := hop.out; rw [List.length_append] at this; omega
            have l2 : IntKind.i64.wrap (op2.length : Int) = (op2.length : Int) := by rw [IntKind.wrap_i64]; omega
            have hcut := fun W => HCUT.out (some ⟨g5, 0, none⟩) (op2.length + 1) c5 op2.length (by omega) W
            unfold strV at hz5
            by_cases hs : s = v.t.name
            · have HE2 := Lib.hid (hE1.trans (by rw [hs, match_pop h9]))
              have hbn : (s == v.t.name) = true := by simpa using hs
              have HOPl := Lib.hid (show op2.length ≤ t + 1 by have := hop.out; rw [List.length_append] at this; omega)
              clear hE1 h7 h9 ho5 hs
              generalize op2.length = m5 at *
              go_wp2_with fail
              go_quiet (fail)
              have HBq := Lib.hid (below_drewN' (n := nq) HB.out)
              have HOq : Hid (OwnS (wr.drewN nq) w.heap.size (.slice (some ⟨g5, 0, none⟩) m5 c5) op2) := Lib.hid HO5.out
              clear z0 z1 z2 z3 z4 z5 z6 hz5
              generalize wr.drewN nq = wq at *
              go_wp2
              go_roundg (n - (t + 1))
              case measure => have := hg.out; omega
              case rel => exact ⟨t + 1, op2, by go_num, by omega, Lib.hid (by omega), Lib.hid (by have := hop.out; rw [List.length_append] at this; omega), HE2, HBq, HOq⟩
            · have HE2 := Lib.hid (hE1.trans (match_no h9 (by simpa using hs)))
              have hbn : (s == v.t.name) = false := by simpa using hs
              clear hE1 h7 h9 ho5 hs
              generalize op2.length = m5 at *
              go_wp2_with fail
              go_quiet (fail)
              have HBq := Lib.hid (below_drewN' (n := nq) HB.out)
              clear z0 z1 z2 z3 z4 z5 z6 hz5
              generalize wr.drewN nq = wq at *
              go_wp2
              go_ret2
              rw [HE2.out]
              exact ⟨rfl, HBq.out⟩
        · have k9 : (v.t.kind == 9) = false := by simp [h9]
          have HE2 := Lib.hid (hE1.trans (match_skip h7 h9))
          clear hE1 h7 h9
          go_wp2
          go_roundg (n - (t + 1))
          case measure => have := hg.out; omega
          case rel => exact ⟨t + 1, op, by go_num, by omega, Lib.hid (by omega), Lib.hid (by have := hop.out; omega), HE2, HB, HO⟩
    · have hti : ¬ (t : Int) < (n : Int) := by omega
      obtain rfl : t = n := by omega
      have HE2 : Hid (R = (t, op.isEmpty)) := Lib.hid (by rw [HE.out, List.drop_of_length_le (by rw [List.length_map, HLn.out]; exact Nat.le_refl _)]; rfl)
      obtain ⟨A4, c4, rfl⟩ := HO.out.form
      have he : ((op.length : Int) == 0) = op.isEmpty := by
        cases op with
        | nil => rfl
        | cons a op => simp; omega
      have he' := Lib.hid he
      go_wp2
      go_ret2
      rw [HE2.out]
      exact ⟨by simp, HB.out⟩
end Go.Proofs.YtmclngahdklfkaaDoor
/- What a row's list of variables gives. -/
namespace Go.Proofs.YtmclngahdklfkaaDoor
open Go.ChangeShapes Go.WideShapes Go.ChangeAt Go.RowKit
set_option linter.unusedVariables false
/-- The cells that a datum of numbers, strings, arrays and structs takes, by its type: none where the lay-out has a gap. -/
def flatL (P : Program) (fl : TypeId → DataW Unit → Option (List Value)) : Nat → List (TypeId × Nat) → List (DataW Unit) → Option (List Value)
  | _, [], [] => some []
  | off, (t, o) :: ts, d :: ds => if o = off then (fl t d).bind fun v => if v.length = P.cellsOf t then (flatL P fl (off + P.cellsOf t) ts ds).map (v ++ ·) else none else none
  | _, _, _ => none
def flatD (P : Program) : Nat → TypeId → DataW Unit → Option (List Value)
  | 0, _, _ => none
  | f + 1, t, d => match P.underlying t, d with
    | some (.int k), .lit (.int k' n) => if k' = k then some [.int k n] else none
    | some .string, .lit (.string l) => some [.string ⟨l.toArray⟩]
    | some (.struct fs), .agg ds => (flatL P (flatD P f) 0 (fs.toList.map fun f => (f.type, f.offset)) ds).bind fun v => if v.length = P.cellsOf t then some v else none
    | some (.array n e), .agg ds => (flatL P (flatD P f) 0 ((List.range n).map fun i => (e, i * P.cellsOf e)) ds).bind fun v => if v.length = P.cellsOf t then some v else none
    | _, _ => none
theorem mapM_map {α β γ : Type} (g : α → β) (f : β → Option γ) : ∀ l : List α, (l.map g).mapM f = l.mapM fun a => f (g a)
  | [] => rfl
  | a :: l => by simp [List.mapM_cons, mapM_map g f l]
theorem mapM_cons_some {α β : Type} {f : α → Option β} {a : α} {l : List α} {ys : List β} (h : (a :: l).mapM f = some ys) : ∃ y ys', f a = some y ∧ l.mapM f = some ys' ∧ ys = y :: ys' := by
  rw [List.mapM_cons] at h
  obtain ⟨y, hy, h⟩ := Option.bind_eq_some_iff.1 h
  obtain ⟨ys', hys, h⟩ := Option.bind_eq_some_iff.1 h
  exact ⟨y, ys', hy, hys, (Option.some.inj h).symm⟩
theorem flatL_mapM {P : Program} {w : World} {base : Nat} {sp : Nat → Bool} {held : Bool} {enc : TypeId × Value → Unit} {fuel f : Nat} {cs : List Value}
    (ih : ∀ t cs d p vs, DataW.trod enc P w base sp held fuel t cs = some (d, p) → flatD P f t d = some vs → cs = vs) :
    ∀ (ts : List (TypeId × Nat)) (xs : List (DataW Unit × List MemPlace)) (off : Nat) (vs : List Value),
      (ts.mapM fun x => DataW.trod enc P w base sp held fuel x.1 ((cs.drop x.2).take (P.cellsOf x.1))) = some xs → flatL P (flatD P f) off ts (xs.map (·.1)) = some vs → (cs.drop off).take vs.length = vs
  | [], xs, off, vs, hm, hf => by
    have : xs = [] := by simpa using hm.symm
    subst this
    simp [flatL] at hf
    subst hf
    simp
  | (t, o) :: ts, xs, off, vs, hm, hf => by
    obtain ⟨⟨d, p⟩, xs', hx, hm', rfl⟩ := mapM_cons_some hm
    simp only [List.map_cons, flatL] at hf
    split at hf
    · rename_i ho
      subst ho
      obtain ⟨v, hv, hf⟩ := Option.bind_eq_some_iff.1 hf
      split at hf
      · rename_i hl
        obtain ⟨vs', hvs, rfl⟩ := Option.map_eq_some_iff.1 hf
        have h1 := ih t _ d p v hx hv
        have h2 := flatL_mapM ih ts xs' _ vs' hm' hvs
        simp only at h1
        rw [List.length_append, List.take_add, hl, h1, List.drop_drop, h2]
      · cases hf
    · cases hf
theorem flat_trod {P : Program} {w : World} {base : Nat} {sp : Nat → Bool} {held : Bool} {enc : TypeId × Value → Unit} : ∀ (fuel f : Nat) (t : TypeId) (cs : List Value) (d : DataW Unit) (p : List MemPlace) (vs : List Value),
    DataW.trod enc P w base sp held fuel t cs = some (d, p) → flatD P f t d = some vs → cs = vs := by
  intro fuel
  induction fuel with
  | zero => intro f t cs d p vs h; simp [DataW.trod] at h
  | succ fuel ih =>
    intro f t cs d p vs h hf
    cases f with
    | zero => simp [flatD] at hf
    | succ f =>
      unfold flatD at hf
      split at hf
      · rename_i k k' n hu
        split at hf
        · rename_i hk
          subst hk
          obtain ⟨m, hc, he, _⟩ := DataW.trod_int hu h
          cases he
          rw [hc]
          exact Option.some.inj hf
        · cases hf
      · rename_i l hu
        obtain ⟨m, hc, he, _⟩ := DataW.trod_string hu h
        cases he
        rw [hc]
        exact Option.some.inj hf
      · rename_i fs ds hu
        simp only [DataW.trod, hu] at h
        split at h
        · rename_i hl
          obtain ⟨xs, hm, hx⟩ := Option.map_eq_some_iff.1 h
          simp only [Prod.mk.injEq, DataW.agg.injEq] at hx
          obtain ⟨rfl, _⟩ := hx
          obtain ⟨v, hv, hf⟩ := Option.bind_eq_some_iff.1 hf
          split at hf
          · rename_i hvl
            have h2 := flatL_mapM (cs := cs) (fun t cs d p vs => ih f t cs d p vs) (fs.toList.map fun f => (f.type, f.offset)) xs 0 v (by rw [mapM_map]; exact hm) hv
            rw [List.drop_zero, hvl, ← hl, List.take_length] at h2
            rw [h2]
            exact Option.some.inj hf
          · cases hf
        · cases h
      · rename_i n e ds hu
        simp only [DataW.trod, hu] at h
        split at h
        · rename_i hl
          obtain ⟨xs, hm, hx⟩ := Option.map_eq_some_iff.1 h
          simp only [Prod.mk.injEq, DataW.agg.injEq] at hx
          obtain ⟨rfl, _⟩ := hx
          obtain ⟨v, hv, hf⟩ := Option.bind_eq_some_iff.1 hf
          split at hf
          · rename_i hvl
            have h2 := flatL_mapM (cs := cs) (fun t cs d p vs => ih f t cs d p vs) ((List.range n).map fun i => (e, i * P.cellsOf e)) xs 0 v (by rw [mapM_map]; exact hm) hv
            rw [List.drop_zero, hvl, ← hl, List.take_length] at h2
            rw [h2]
            exact Option.some.inj hf
          · cases hf
        · cases h
      · cases hf
/-- A variable that is listed holds the cells of its datum. -/
theorem laid_cells {P : Program} {w : World} : ∀ (laid : List (String × DataW Unit)) (ps : List MemPlace), DataW.LaidVars P w laid ps → ∀ (name : String) (d : DataW Unit), (name, d) ∈ laid →
    ∀ (g t f : Nat) (vs : List Value), P.globalNamed name = some g → (P.globals[g]?).map (·.type) = some t → flatD P f t d = some vs → w.var? P name = some vs.toArray
  | [], _, _, _, _, hm, _, _, _, _, _, _, _ => by cases hm
  | (n, d0) :: r, ps, h, name, d, hm, g, t, f, vs, hg, ht, hf => by
    obtain ⟨g', t', cs, fuel, p, q, hg', ht', hv, htr, hr, _⟩ := h
    rcases List.mem_cons.1 hm with e | hm
    · cases e
      obtain rfl := Option.some.inj (hg.symm.trans hg')
      obtain rfl := Option.some.inj (ht.symm.trans ht')
      rw [hv, ← flat_trod fuel f t cs.toList _ p vs htr hf]
    · exact laid_cells r q hr name d hm g t f vs hg ht hf
theorem block_of_var {P : Program} {w : World} {name : String} {g : Nat} {cs : Array Value} (hg : P.globalNamed name = some g) (h : w.var? P name = some cs) : ∃ T f, w.heap[g]? = some (.cells cs T f) := by
  simp only [World.var?, hg, Option.bind_some] at h
  split at h
  · rename_i cs' T f hb
    cases h
    exact ⟨T, f, hb⟩
  · cases h
theorem laid_var {P : Program} {w : World} {laid : List (String × DataW Unit)} (h : laidMet P laid w) (name : String) (d : DataW Unit) (hm : (name, d) ∈ laid) (g f : Nat) (vs : List Value)
    (hg : P.globalNamed name = some g) (hf : (((P.globals[g]?).map (·.type)).bind fun t => flatD P f t d) = some vs) : w.var? P name = some vs.toArray := by
  obtain ⟨ps, hl, _⟩ := h
  obtain ⟨t, ht, hf⟩ := Option.bind_eq_some_iff.1 hf
  exact laid_cells laid ps hl name d hm g t f vs hg ht hf
theorem laid_block {P : Program} {w : World} {laid : List (String × DataW Unit)} (h : laidMet P laid w) (name : String) (d : DataW Unit) (hm : (name, d) ∈ laid) (g f : Nat) (vs : List Value)
    (hg : P.globalNamed name = some g) (hf : (((P.globals[g]?).map (·.type)).bind fun t => flatD P f t d) = some vs) : ∃ T fr, w.heap[g]? = some (.cells vs.toArray T fr) :=
  block_of_var hg (laid_var h name d hm g f vs hg hf)
/-- A table of runs, out of a block. -/
theorem tab_of {w : World} {g : Nat} {T : TypeId} {fr : Nat × Nat} (t : List (Nat × Nat)) (h : w.heap[g]? = some (.cells (t.flatMap fun p => [Value.int .i64 p.1, Value.int .i64 p.2]).toArray T fr)) : Tab w g t := by
  intro i p hp
  have key : ∀ (t : List (Nat × Nat)) (i : Nat) (p : Nat × Nat), t[i]? = some p → (t.flatMap fun p => [Value.int .i64 p.1, Value.int .i64 p.2])[i * 2]? = some (.int .i64 p.1) ∧ (t.flatMap fun p => [Value.int .i64 p.1, Value.int .i64 p.2])[i * 2 + 1]? = some (.int .i64 p.2) := by
    intro t
    induction t with
    | nil => intro i p h; simp at h
    | cons x t ih =>
      intro i p h
      cases i with
      | zero => simp at h; subst h; exact ⟨rfl, rfl⟩
      | succ i =>
        have := ih i p (by simpa using h)
        rw [show (i + 1) * 2 = i * 2 + 2 by omega]
        simpa [List.flatMap_cons] using this
  have := key t i p hp
  rw [cell_of _ h, cell_of _ h, List.getElem?_toArray, List.getElem?_toArray]
  exact this
/-- The cells of a datum, whatever its type. -/
def flatV : Nat → DataW Unit → List Value
  | f + 1, .lit (.int k n) => [.int k n]
  | f + 1, .lit (.string l) => [.string ⟨l.toArray⟩]
  | f + 1, .agg ds => ds.flatMap (flatV f)
  | _, _ => []
def layObj (vs : Array Value) : Obj → Obj
  | .cells _ t frozen => .cells vs t frozen
  | o => o
def layHeap (l : List (Nat × DataW Unit)) (h : Array Obj) : Array Obj := l.foldl (fun h x => h.modify x.1 (layObj (flatV 8 x.2).toArray)) h
end Go.Proofs.YtmclngahdklfkaaDoor
/- A witness with slices, unicode.CaseRanges among them. -/
namespace Go.Proofs.YtmclngahdklfkaaDoor
open Go.ChangeShapes Go.WideShapes Go.ChangeAt Go.RowKit
set_option linter.unusedVariables false
theorem LaidVars_split {P : Program} {w : World} : ∀ {l l' : List (String × DataW Unit)} {ps : List MemPlace}, DataW.LaidVars P w (l ++ l') ps → ∃ p p', DataW.LaidVars P w l p ∧ DataW.LaidVars P w l' p' ∧ ps = p ++ p'
  | [], l', ps, h => ⟨[], ps, rfl, h, rfl⟩
  | (n, d) :: r, l', ps, h => by
    obtain ⟨g, t, cs, fuel, p, q, h1, h2, h3, h4, h5, rfl⟩ := h
    obtain ⟨p1, p2, g1, g2, rfl⟩ := LaidVars_split h5
    exact ⟨_, p2, ⟨g, t, cs, fuel, p, p1, h1, h2, h3, h4, g1, rfl⟩, g2, by simp [List.append_assoc]⟩
/-- The last of the listed may stand anywhere. -/
theorem laidMet_move {P : Program} {w : World} {a b : List (String × DataW Unit)} {x : String × DataW Unit} (h : laidMet P (a ++ b ++ [x]) w) : laidMet P (a ++ x :: b) w := by
  obtain ⟨ps, hv, hn, hr⟩ := h
  obtain ⟨p1, px, h1, hx, rfl⟩ := LaidVars_split hv
  obtain ⟨pa, pb, ha, hb, rfl⟩ := LaidVars_split h1
  have hperm : (pa ++ pb ++ px).Perm (pa ++ (px ++ pb)) := by
    rw [List.append_assoc]
    exact List.Perm.append_left _ List.perm_append_comm
  refine ⟨pa ++ (px ++ pb), ?_, hperm.nodup_iff.1 hn, fun bb off hm => hr bb off (hperm.mem_iff.2 hm)⟩
  exact Go.Proofs.LaidVars_append ha (Go.Proofs.LaidVars_append (l := [x]) hx hb)
def putRows (N : Nat) : Nat → List (Nat × TypeId × Array Value × Nat) → Array Obj → Array Obj
  | _, [], h => h
  | i, (g, _, _, n) :: r, h => putRows N (i + 1) r (h.modify g (layObj #[.slice (some ⟨N + i, 0, none⟩) n n]))
/-- A world for a witness: the settled one, with a block more for each listed slice, the listed variables' blocks holding what is listed. -/
noncomputable def laidWorldC (l : List (Nat × DataW Unit)) (sl : List (Nat × TypeId × Array Value × Nat)) (os : Os) : World :=
  { World.holding Tryd.prog os ⟨(sl.map fun x => Obj.cells x.2.2.1 x.2.1).toArray, #[], []⟩ with heap := putRows (World.settled Tryd.prog os).heap.size 0 sl (layHeap l (World.holding Tryd.prog os ⟨(sl.map fun x => Obj.cells x.2.2.1 x.2.1).toArray, #[], []⟩).heap) }
theorem case_same : Go.Pinned.caseRanges = Lib.caseData := by kernel_rfl
theorem laidMet_case {w : World} {a b : List (String × DataW Unit)} (fuel : Nat)
    (h : (DataW.laidRun Tryd.prog w fuel ((a ++ b).map (·.1))).map (·.1) = some (a ++ b))
    (hn : (DataW.laidRun Tryd.prog w fuel ((a ++ b).map (·.1))).map (fun x => nodupB (x.2.map MemPlace.codeOf)) = some true)
    (hr : (DataW.laidRun Tryd.prog w fuel ((a ++ b).map (·.1))).map (fun x => laidRowsB Tryd.prog w x.2) = some true)
    (R : Nat) (hgR : 6 ≠ R)
    (hoff : (DataW.laidRun Tryd.prog w fuel ((a ++ b).map (·.1))).map (fun x => x.2.all fun p => p.block != 6 && p.block != R) = some true)
    (hvar : w.heap[6]? = some (.cells #[.slice (some ⟨R, 0, none⟩) 336 336] 114 (0, 0)))
    (hblk : w.heap[R]? = some (.cells Lib.caseCells5 127 (0, 0))) :
    laidMet Tryd.prog (a ++ ("unicode.CaseRanges", Go.Pinned.caseRanges) :: b) w := by
  rw [case_same]
  exact laidMet_move (laidMet_with_case (ρ := ⟨Tryd.lays274_ren.f, Tryd.lays274_ren.t, fun _ => 6⟩) { Tryd.lays274 with } (by kernel_rfl) ⟨by kernel_rfl, by kernel_rfl, by kernel_rfl, by kernel_rfl, by kernel_rfl, by kernel_rfl⟩ fuel h hn hr R _ hgR hoff (by rw [show Lib.caseA.size = 336 by kernel_rfl]; exact hvar) hblk)
end Go.Proofs.YtmclngahdklfkaaDoor
