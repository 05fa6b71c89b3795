/- tok.Match. -/
import Derived.Test.YtmclngahdklfkaaGreatDoorRows
import Derived.Test.YtmclngahdklfkaaGreatDoorQX
import Derived.WalkKit
import Derived.ProofKit
import Derived.OpenShut
import Derived.ShutString
import Derived.ChangeOld
import Derived.Below
import Derived.BigQuiet
import Derived.Deep.QuietTactic
import Derived.Lib.Hide
import Derived.Deep.RegionHeld3
import Derived.Lib.SlBytesConst
import Derived.Laws.CopyOwn
import Derived.Laws.CopyRow
import Derived.Lib.Bytes
import Derived.Deep.LoopGhost
import Derived.Deep.DeepFit
import Derived.Deep.DeepMust
import Derived.WalkSpells
import Derived.WalkLawsBesides
import Derived.Maps.OwnOps
import Derived.Maps.OwnSet
import Derived.Maps.Views
import Derived.Laws.EntriesVeiled
import Derived.Laws.Rows
import Derived.Maps.AppendAt
import Derived.Lib.SmallJoins
import Derived.Test.YtmclngahdklfkaaGreatDoorQ1
import Derived.Test.YtmclngahdklfkaaGreatDoorQ2
import Derived.Test.YtmclngahdklfkaaGreatDoorQ4
import Derived.Test.YtmclngahdklfkaaGreatDoorQ6
import Derived.Test.YtmclngahdklfkaaGreatDoorQ8
import Derived.Test.YtmclngahdklfkaaGreatDoorQ9
import Derived.Test.YtmclngahdklfkaaGreatDoorQ10
import Derived.Test.YtmclngahdklfkaaGreatDoorQ11
import Derived.Test.YtmclngahdklfkaaGreatDoorQ12
import Derived.Test.YtmclngahdklfkaaGreatDoorQ13
import Derived.Test.YtmclngahdklfkaaGreatDoorQ21
import Derived.Test.YtmclngahdklfkaaGreatDoorTok9
namespace Go.Proofs.YtmclngahdklfkaaGreatDoor
open Go.ChangeShapes Go.WideShapes Go.ChangeAt Go.RowKit
set_option linter.unusedVariables false
theorem info_str : ∃ i, Tryz.prog.info? 9 = some i ∧ i.zero = some (.string ⟨#[]⟩) ∧ i.size = 1 ∧ i.bytes = 16 := by
  obtain ⟨i, h1, h2, h3, h4⟩ := info_parts (show (Tryz.prog.info? 9).map (fun i => (i.zero, i.size, i.bytes)) = some (some (.string ⟨#[]⟩), 1, 16) by kernel_rfl)
  exact ⟨i, h1, h2, h3, h4⟩
theorem OwnS.of {w : World} {base : Nat} {v : Value} {op : List (List UInt8)} {s : List UInt8} (h : w.ownsRow base 9 1 v (op.length + 1) (op.map strV ++ [strV s])) : OwnS w base v (op ++ [s]) := by
  unfold OwnS
  rw [List.length_append, List.length_singleton, List.map_append]
  exact h
theorem match_nil {op : List (List UInt8)} {i : Nat} : matchR op [] i = (i, op.isEmpty) := rfl
theorem match_open {op : List (List UInt8)} {t : TokL} {ts : List TokL} {i : Nat} (h : t.kind = 7) : matchR op (t :: ts) i = matchR (op ++ [t.name]) ts (i + 1) := by rw [matchR, if_pos h]
theorem match_pop {op : List (List UInt8)} {t : TokL} {ts : List TokL} {i : Nat} (h : t.kind = 9) : matchR (op ++ [t.name]) (t :: ts) i = matchR op ts (i + 1) := by
  rw [matchR, if_neg (by omega), if_pos h, if_pos (by simp), List.dropLast_concat]
theorem match_no {op : List (List UInt8)} {t : TokL} {ts : List TokL} {i : Nat} (h : t.kind = 9) (hn : op.getLast? ≠ some t.name) : matchR op (t :: ts) i = (i, false) := by
  rw [matchR, if_neg (by omega), if_pos h, if_neg hn]
theorem match_skip {op : List (List UInt8)} {t : TokL} {ts : List TokL} {i : Nat} (h7 : t.kind ≠ 7) (h9 : t.kind ≠ 9) : matchR op (t :: ts) i = matchR op ts (i + 1) := by rw [matchR, if_neg h7, if_neg h9]
theorem drop_at {ts : List TokV} {t : Nat} {v : TokV} (h : ts[t]? = some v) : (ts.map TokV.t).drop t = v.t :: (ts.map TokV.t).drop (t + 1) := by
  have hl := (List.getElem?_eq_some_iff.1 h).1
  rw [List.drop_eq_getElem_cons (by rw [List.length_map]; exact hl)]
  rw [List.getElem?_eq_getElem hl] at h
  cases h
  simp
theorem str_bne {a b : List UInt8} (h : a ≠ b) : ((⟨a.toArray⟩ : ByteArray).toList == (⟨b.toArray⟩ : ByteArray).toList) = false := by
  rw [Lib.toList_data, Lib.toList_data]
  simpa using h
set_option maxRecDepth 100000 in
set_option maxHeartbeats 8000000 in
theorem tokMatch_c (A : Option Addr) (n cap : Nat) (vs : List TokV) (w : World) (h : TRd w w.heap.size A n cap vs) (hm : n ≤ 1000000) :
    Calls Tryz.prog 16 #[.slice A n cap] w fun e w' => e = .returned (.tuple #[.int .i64 ((matchOut (vs.map TokV.t)).1 : Int), .bool (matchOut (vs.map TokV.t)).2]) ∧ Below w.heap.size w w' := by
  have HT := Lib.hid h
  have HLn := Lib.hid h.len
  have HMm := Lib.hid hm
  have HE0 : Hid (matchOut (vs.map TokV.t) = matchR [] ((vs.map TokV.t).drop 0) 0) := Lib.hid rfl
  generalize matchOut (vs.map TokV.t) = R at *
  have hcut := fun (A : Option Addr) (n cap t : Nat) (ht : t ≤ cap) (W : World) => run_cutS (w := W) A n cap t ht
  have HCUT := Lib.hid hcut
  clear h hm hcut
  go_enter Tryz.func16, Tryz.ntmps16
  go_wp2_with fail
  go_loopg [4, 12] n (fun g v i wr => ∃ (t : Nat) (op : List (List UInt8)), i = .int .i64 (t : Int) ∧ t ≤ n ∧ Hid (g + t = n) ∧ Hid (op.length ≤ t) ∧ Hid (R = matchR op ((vs.map TokV.t).drop t) t) ∧ Hid (Below w.heap.size w wr) ∧ Hid (OwnS wr w.heap.size v op))
  case atStart => exact ⟨0, [], rfl, Nat.zero_le _, Lib.hid rfl, Lib.hid (Nat.zero_le _), HE0, Lib.hid (Below.refl _ _), Lib.hid (OwnS.start _ _)⟩
  case round =>
    obtain ⟨t, op, rfl, ht, hg, hop, HE, HB, HO⟩ := hrel
    have hm := HMm.out
    have ht0 : (0 : Int) ≤ (t : Int) := by omega
    have ht9 : (t : Int) ≤ 1000000 := by omega
    by_cases htn : t < n
    · have hti : (t : Int) < (n : Int) := by omega
      obtain ⟨b, o, v, rfl, hbB, hv, hc, _⟩ := (HT.out.below HB.out).cell htn
      have hbW : b < wr.heap.size := by have := HB.out.size; omega
      have hE1 := HE.out.trans (congrArg (fun x => matchR op x t) (drop_at hv))
      have z0 : wr.cell? ⟨b, o + t * 7, none⟩ = some (.int .i64 v.t.kind) := by rw [show o + t * 7 = o + (t * 7 + 0) by omega]; exact hc 0 _ rfl
      have z1 : wr.cell? ⟨b, o + t * 7 + 1, none⟩ = some (.int .i64 v.t.fro) := by rw [show o + t * 7 + 1 = o + (t * 7 + 1) by omega]; exact hc 1 _ rfl
      have z2 : wr.cell? ⟨b, o + t * 7 + 2, none⟩ = some (.int .i64 v.t.to_) := by rw [show o + t * 7 + 2 = o + (t * 7 + 2) by omega]; exact hc 2 _ rfl
      have z3 : wr.cell? ⟨b, o + t * 7 + 3, none⟩ = some (.string ⟨v.t.name.toArray⟩) := by rw [show o + t * 7 + 3 = o + (t * 7 + 3) by omega]; exact hc 3 _ rfl
      have z4 : wr.cell? ⟨b, o + t * 7 + 4, none⟩ = some (.string ⟨v.t.text.toArray⟩) := by rw [show o + t * 7 + 4 = o + (t * 7 + 4) by omega]; exact hc 4 _ rfl
      have z5 : wr.cell? ⟨b, o + t * 7 + 5, none⟩ = some (.slice v.A v.n v.c) := by rw [show o + t * 7 + 5 = o + (t * 7 + 5) by omega]; exact hc 5 _ rfl
      have z6 : wr.cell? ⟨b, o + t * 7 + 6, none⟩ = some (.int .i64 v.t.r) := by rw [show o + t * 7 + 6 = o + (t * 7 + 6) by omega]; exact hc 6 _ rfl
      have ka := (Below.refl _ wr).alloc (Nat.le_refl _) (.cells #[.int .i64 v.t.kind, .int .i64 v.t.fro, .int .i64 v.t.to_, .string ⟨v.t.name.toArray⟩, .string ⟨v.t.text.toArray⟩, .slice v.A v.n v.c, .int .i64 v.t.r] 26)
      have HB2 := Lib.hid (HB.out.trans (ka.mono HB.out.size))
      have HO2 := Lib.hid (HO.out.kept ka)
      have hopn : op.length ≤ 1000000000 := by have := hop.out; omega
      have hba : w.heap.size ≤ (wr.alloc (.cells #[.int .i64 v.t.kind, .int .i64 v.t.fro, .int .i64 v.t.to_, .string ⟨v.t.name.toArray⟩, .string ⟨v.t.text.toArray⟩, .slice v.A v.n v.c, .int .i64 v.t.r] 26)).heap.size := HB2.out.size
      clear hc hv ka
      by_cases h7 : v.t.kind = 7
      · have HE2 := Lib.hid (hE1.trans (match_open h7))
        rw [h7] at z0 HB2 HO2 hba
        clear hE1 h7
        have hown2 := HO2.out
        unfold OwnS at hown2
        go_wp2_with (at_builtin; refine wpList_appH rfl (.tmp 21) (.tmp 24) 71 9 rfl (.string ⟨#[]⟩) 1 16 Tryz.underlying71 info_str rfl (by decide) w.heap.size _ op.length (op.map strV) rfl hown2 [strV v.t.name] _ rfl (wr.heap.size + 1) (by simp) rfl rfl (by simp [strV, Value.oneCell']) hopn (by decide) hba ?_)
        intro v4 w4 hown4 hg4 hat4
        have HO4 := Lib.hid (OwnS.of hown4)
        have hne : ∀ j, j < w.heap.size → some j ≠ Value.ownBlock _ := fun j hj => ownsRow_lt HO2.out j hj
        have HB4 : Hid (Below w.heap.size w w4) := Lib.hid ((HB2.out.alloc HB2.out.size _).grown hg4 (by rw [World.size_alloc]; omega) fun j hj => by
          have := (ownBlock_lt HO2.out hj).2
          omega)
        clear hown4 hg4 hat4 hne
        go_wp2
        go_roundg (n - (t + 1))
        case measure => have := hg.out; omega
        case rel => exact ⟨t + 1, op ++ [v.t.name], by go_num, by omega, Lib.hid (by omega), Lib.hid (by have := hop.out; simp; omega), HE2, HB4, HO4⟩
      · have k7 : (v.t.kind == 7) = false := by simp [h7]
        by_cases h9 : v.t.kind = 9
        · rw [h9] at z0 HB2 HO2 hba
          clear k7
          rcases List.eq_nil_or_concat op with rfl | ⟨op2, s, rfl⟩
          · have HE2 := Lib.hid (hE1.trans (match_no h9 (by simp)))
            have CL := Lib.hid (last_no w.heap.size _ _ HO2.out)
            clear hE1 h7 h9
            go_wp2_with fail
            refine CL.out.mono ?_
            rintro e0 wq ⟨rfl, hwq⟩
            subst hwq
            go_wp2
            go_ret2
            rw [HE2.out]
            exact ⟨rfl, HB2.out⟩
          · rw [List.concat_eq_append] at *
            have CL := Lib.hid (last_yes w.heap.size _ _ op2 s HO2.out (by have := hop.out; rw [List.length_append] at this; omega))
            have q3 : (wr.alloc (.cells #[.int .i64 9, .int .i64 v.t.fro, .int .i64 v.t.to_, .string ⟨v.t.name.toArray⟩, .string ⟨v.t.text.toArray⟩, .slice v.A v.n v.c, .int .i64 v.t.r] 26)).heap[wr.heap.size]? = some (.cells #[.int .i64 9, .int .i64 v.t.fro, .int .i64 v.t.to_, .string ⟨v.t.name.toArray⟩, .string ⟨v.t.text.toArray⟩, .slice v.A v.n v.c, .int .i64 v.t.r] 26) := hp_new _ _
            have q3q : ∀ q, ((wr.alloc (.cells #[.int .i64 9, .int .i64 v.t.fro, .int .i64 v.t.to_, .string ⟨v.t.name.toArray⟩, .string ⟨v.t.text.toArray⟩, .slice v.A v.n v.c, .int .i64 v.t.r] 26)).drewN q).cell? ⟨wr.heap.size, 3, none⟩ = some (.string ⟨v.t.name.toArray⟩) := fun q => cell_of 3 q3
            by_cases hs : s = v.t.name
            · subst hs
              have HE2 := Lib.hid (hE1.trans (match_pop h9))
              clear hE1 h7 h9
              go_wp2_with fail
              refine CL.out.mono ?_
              rintro e0 w5 ⟨g5, c5, q5, rfl, ho5, rfl⟩
              have x3 := q3q q5
              have HO5 : Hid (OwnS ((wr.alloc (.cells #[.int .i64 9, .int .i64 v.t.fro, .int .i64 v.t.to_, .string ⟨v.t.name.toArray⟩, .string ⟨v.t.text.toArray⟩, .slice v.A v.n v.c, .int .i64 v.t.r] 26)).drewN q5) w.heap.size (.slice (some ⟨g5, 0, none⟩) op2.length c5) op2) := Lib.hid ho5
              have HB5 := Lib.hid (below_drewN' (n := q5) HB2.out)
              unfold strV
              clear ho5 q3 q3q
              generalize (wr.alloc (.cells #[.int .i64 9, .int .i64 v.t.fro, .int .i64 v.t.to_, .string ⟨v.t.name.toArray⟩, .string ⟨v.t.text.toArray⟩, .slice v.A v.n v.c, .int .i64 v.t.r] 26)).drewN q5 = w6 at *
              go_wp2
              go_roundg (n - (t + 1))
              case measure => have := hg.out; omega
              case rel => exact ⟨t + 1, op2, by go_num, by omega, Lib.hid (by omega), Lib.hid (by have := hop.out; rw [List.length_append] at this; omega), HE2, HB5, HO5⟩
            · have HE2 := Lib.hid (hE1.trans (match_no h9 (by simpa using hs)))
              have hbn : (s == v.t.name) = false := by simpa using hs
              clear hE1 h7 h9 hs
              go_wp2_with fail
              refine CL.out.mono ?_
              rintro e0 w5 ⟨g5, c5, q5, rfl, ho5, rfl⟩
              have x3 := q3q q5
              have HB5 := Lib.hid (below_drewN' (n := q5) HB2.out)
              unfold strV
              clear ho5 q3 q3q
              generalize (wr.alloc (.cells #[.int .i64 9, .int .i64 v.t.fro, .int .i64 v.t.to_, .string ⟨v.t.name.toArray⟩, .string ⟨v.t.text.toArray⟩, .slice v.A v.n v.c, .int .i64 v.t.r] 26)).drewN q5 = w6 at *
              go_wp2
              go_ret2
              rw [HE2.out]
              exact ⟨rfl, HB5.out⟩
        · have k9 : (v.t.kind == 9) = false := by simp [h9]
          have HE2 := Lib.hid (hE1.trans (match_skip h7 h9))
          clear hE1 h7 h9
          go_wp2
          go_roundg (n - (t + 1))
          case measure => have := hg.out; omega
          case rel => exact ⟨t + 1, op, by go_num, by omega, Lib.hid (by omega), Lib.hid (by have := hop.out; omega), HE2, HB2, HO2⟩
    · have hti : ¬ (t : Int) < (n : Int) := by omega
      obtain rfl : t = n := by omega
      have HE2 : Hid (R = (t, op.isEmpty)) := Lib.hid (by rw [HE.out, List.drop_of_length_le (by rw [List.length_map, HLn.out]; exact Nat.le_refl _)]; rfl)
      obtain ⟨A4, c4, rfl⟩ := HO.out.form
      have he : ((op.length : Int) == 0) = op.isEmpty := by
        cases op with
        | nil => rfl
        | cons a op => simp; omega
      have he' := Lib.hid he
      go_wp2
      go_ret2
      rw [HE2.out]
      exact ⟨by simp, HB.out⟩
end Go.Proofs.YtmclngahdklfkaaGreatDoor
