/- Texts of ours, joined: Tok4d, Tok5, Tok6. -/
import Derived.Test.YtmclngahdklfkaaGreatDoorRows
import Derived.WalkKit
import Derived.ProofKit
import Derived.OpenShut
import Derived.ShutString
import Derived.ChangeOld
import Derived.Below
import Derived.BigQuiet
import Derived.Deep.QuietTactic
import Derived.Lib.Hide
import Derived.Deep.RegionHeld3
import Derived.Lib.SlBytesConst
import Derived.Laws.CopyOwn
import Derived.Laws.CopyRow
import Derived.Lib.Bytes
import Derived.Deep.LoopGhost
import Derived.Deep.DeepFit
import Derived.Deep.DeepMust
import Derived.WalkSpells
import Derived.WalkLawsBesides
import Derived.Maps.OwnOps
import Derived.Maps.OwnSet
import Derived.Maps.Views
import Derived.Laws.EntriesVeiled
import Derived.Laws.Rows
import Derived.Maps.AppendAt
import Derived.Lib.SmallJoins
import Derived.Test.YtmclngahdklfkaaGreatDoorQ1
import Derived.Test.YtmclngahdklfkaaGreatDoorQ6
import Derived.Test.YtmclngahdklfkaaGreatDoorQ2
import Derived.Test.YtmclngahdklfkaaGreatDoorQ4
import Derived.Test.YtmclngahdklfkaaGreatDoorQ5
import Derived.Test.YtmclngahdklfkaaGreatDoorQ8
import Derived.Test.YtmclngahdklfkaaGreatDoorQ9
import Derived.Test.YtmclngahdklfkaaGreatDoorQ10
import Derived.Test.YtmclngahdklfkaaGreatDoorQ11
import Derived.Test.YtmclngahdklfkaaGreatDoorQ12
import Derived.Test.YtmclngahdklfkaaGreatDoorQ13
import Derived.Test.YtmclngahdklfkaaGreatDoorQ14
import Derived.Test.YtmclngahdklfkaaGreatDoorQ15
import Derived.Test.YtmclngahdklfkaaGreatDoorQ16
import Derived.Test.YtmclngahdklfkaaGreatDoorQ17
import Derived.Test.YtmclngahdklfkaaGreatDoorQ18
import Derived.Test.YtmclngahdklfkaaGreatDoorQ19
import Derived.Test.YtmclngahdklfkaaGreatDoorQ20
import Derived.Test.YtmclngahdklfkaaGreatDoorQ7
/- narthexref11.Next, at any place. -/
namespace Go.Proofs.YtmclngahdklfkaaGreatDoor
open Go.ChangeShapes Go.WideShapes Go.ChangeAt Go.RowKit
set_option linter.unusedVariables false
set_option maxRecDepth 100000 in
set_option maxHeartbeats 4000000 in
theorem refNext_range (A : Option Addr) (n cap : Nat) (at_ : Int) (w : World) (ha : at_ < 0 ∨ (n : Int) < at_) :
    Calls Tryz.prog 11 #[.slice A n cap, .int .i64 at_] w fun e w' => TokPost (noTok, 3) w e w' := by
  have hJ := CJ.start 30 w #[.int .i64 0, .int .i64 0, .int .i64 0, .string ⟨#[]⟩, .string ⟨#[]⟩, .slice none 0 0, .int .i64 0]
  have hi : (Tryz.prog.info? 30).map (·.size) = some 7 := by kernel_rfl
  obtain ⟨sd, hu⟩ := isStruct_of (P := Tryz.prog) (t := 30) (by kernel_rfl)
  have HU := Lib.hid (And.intro hi hu)
  have J0 := Lib.hid hJ
  have JZ := Lib.hid (J0.out.row #[.int .i64 0, .int .i64 0, .int .i64 0, .string ⟨#[]⟩, .string ⟨#[]⟩, .slice none 0 0, .int .i64 0])
  clear hi hu hJ
  by_cases h0 : at_ < 0
  · have hd : decide (at_ < 0) = true := by simpa using h0
    clear ha
    go_enter Tryz.func11, Tryz.ntmps11
    go_wp2_with (refine wpList_store_row rfl _ _ _ rfl w.heap.size #[.int .i64 0, .int .i64 0, .int .i64 0, .string ⟨#[]⟩, .string ⟨#[]⟩, .slice none 0 0, .int .i64 0] rfl rfl _ _ J0.out.2 (by kernel_rfl) rfl (by kernel_rfl) ?_)
    (try simp only [Exit.inBlock, Exit.then])
    exact bodyPost_ret (results_cell2 rfl _ _ w.heap.size _ _ _ _ rfl JZ.out.2 HU.out.2 rfl HU.out.1) rfl (TokPost.no rfl JZ.out.1)
  · have h1 : (n : Int) < at_ := by omega
    clear ha
    go_enter Tryz.func11, Tryz.ntmps11
    go_wp2_with (refine wpList_store_row rfl _ _ _ rfl w.heap.size #[.int .i64 0, .int .i64 0, .int .i64 0, .string ⟨#[]⟩, .string ⟨#[]⟩, .slice none 0 0, .int .i64 0] rfl rfl _ _ J0.out.2 (by kernel_rfl) rfl (by kernel_rfl) ?_)
    (try simp only [Exit.inBlock, Exit.then])
    exact bodyPost_ret (results_cell2 rfl _ _ w.heap.size _ _ _ _ rfl JZ.out.2 HU.out.2 rfl HU.out.1) rfl (TokPost.no rfl JZ.out.1)
set_option maxRecDepth 100000 in
set_option maxHeartbeats 4000000 in
theorem refNext_end (A : Option Addr) (n cap : Nat) (w : World) (hm : n ≤ 40000) :
    Calls Tryz.prog 11 #[.slice A n cap, .int .i64 (n : Int)] w fun e w' => TokPost (noTok, 4) w e w' := by
  have hJ := CJ.start 30 w #[.int .i64 0, .int .i64 0, .int .i64 0, .string ⟨#[]⟩, .string ⟨#[]⟩, .slice none 0 0, .int .i64 0]
  have hi : (Tryz.prog.info? 30).map (·.size) = some 7 := by kernel_rfl
  obtain ⟨sd, hu⟩ := isStruct_of (P := Tryz.prog) (t := 30) (by kernel_rfl)
  have HU := Lib.hid (And.intro hi hu)
  have J0 := Lib.hid hJ
  have JZ := Lib.hid (J0.out.row #[.int .i64 0, .int .i64 0, .int .i64 0, .string ⟨#[]⟩, .string ⟨#[]⟩, .slice none 0 0, .int .i64 0])
  have hn0 : ¬ (n : Int) < 0 := by omega
  clear hi hu hJ
  go_enter Tryz.func11, Tryz.ntmps11
  go_wp2_with (refine wpList_store_row rfl _ _ _ rfl w.heap.size #[.int .i64 0, .int .i64 0, .int .i64 0, .string ⟨#[]⟩, .string ⟨#[]⟩, .slice none 0 0, .int .i64 0] rfl rfl _ _ J0.out.2 (by kernel_rfl) rfl (by kernel_rfl) ?_)
  (try simp only [Exit.inBlock, Exit.then])
  exact bodyPost_ret (results_cell2 rfl _ _ w.heap.size _ _ _ _ rfl JZ.out.2 HU.out.2 rfl HU.out.1) rfl (TokPost.no rfl JZ.out.1)
/-- narthexref11.Next at any place. -/
theorem refNext_c (A : Option Addr) (n cap : Nat) (l : List UInt8) (at_ : Int) (w : World) (h : Byt w w.heap.size A n cap l) (hm : n ≤ 40000) :
    Calls Tryz.prog 11 #[.slice A n cap, .int .i64 at_] w fun e w' => TokPost (nextAt l at_) w e w' := by
  have hln := h.length
  unfold nextAt
  rw [hln]
  by_cases ha : at_ < 0 ∨ (n : Int) < at_
  · rw [if_pos ha]; exact refNext_range A n cap at_ w ha
  · rw [if_neg ha]
    by_cases hn : at_ = (n : Int)
    · rw [if_pos hn, hn]; exact refNext_end A n cap w hm
    · rw [if_neg hn]
      obtain ⟨k, rfl⟩ : ∃ k : Nat, at_ = (k : Int) := ⟨at_.toNat, by omega⟩
      rw [Int.toNat_natCast]
      have hk : k < n := by omega
      cases h0 : [60, 33, 45, 45].isPrefixOf (l.drop k) with
      | true => exact refNext_comment A n cap l k w h hm hk h0
      | false =>
        cases h1 : [60, 33, 91, 67, 68, 65, 84, 65, 91].isPrefixOf (l.drop k) with
        | true => exact refNext_cdata A n cap l k w h hm hk h0 h1
        | false =>
          cases h2 : [60, 63].isPrefixOf (l.drop k) with
          | true => exact refNext_pi A n cap l k w h hm hk h0 h1 h2
          | false =>
            cases h3 : [60, 47].isPrefixOf (l.drop k) with
            | true => exact refNext_close A n cap l k w h hm hk h0 h1 h2 h3
            | false =>
              cases h4 : [60].isPrefixOf (l.drop k) with
              | true => exact refNext_open A n cap l k w h hm hk h0 h1 h2 h3 h4
              | false =>
                cases h5 : [38, 35].isPrefixOf (l.drop k) with
                | true => exact refNext_char A n cap l k w h hm hk h0 h1 h2 h3 h4 h5
                | false =>
                  cases h6 : [38].isPrefixOf (l.drop k) with
                  | true => exact refNext_ref A n cap l k w h hm hk h0 h1 h2 h3 h4 h5 h6
                  | false =>
                    exact refNext_text A n cap l k w h hm hk h0 h1 h2 h3 h4 h5 h6
end Go.Proofs.YtmclngahdklfkaaGreatDoor
/- Tokens turned to the document's; the same ones. -/
namespace Go.Proofs.YtmclngahdklfkaaGreatDoor
open Go.ChangeShapes Go.WideShapes Go.ChangeAt Go.RowKit
set_option linter.unusedVariables false
set_option maxRecDepth 100000 in
set_option maxHeartbeats 4000000 in
theorem like_c (o : TokL) (A : Option Addr) (n c : Nat) (w : World) : Calls Tryz.prog 13 #[.agg #[.int .i64 o.kind, .int .i64 o.fro, .int .i64 o.to_, .string ⟨o.name.toArray⟩, .string ⟨o.text.toArray⟩, .slice A n c, .int .i64 o.r]] w fun e w' => e = .returned (.agg #[.int .i64 o.kind, .int .i64 o.fro, .int .i64 o.to_, .string ⟨o.name.toArray⟩, .string ⟨o.text.toArray⟩, .slice A n c, .int .i64 o.r]) ∧ Below w.heap.size w w' := by
  have hi : (Tryz.prog.info? 30).map (·.size) = some 7 := by kernel_rfl
  obtain ⟨sd, hu⟩ := isStruct_of (P := Tryz.prog) (t := 30) (by kernel_rfl)
  have hq : ((w.alloc (.cells #[.int .i64 o.kind, .int .i64 o.fro, .int .i64 o.to_, .string ⟨o.name.toArray⟩, .string ⟨o.text.toArray⟩, .slice A n c, .int .i64 o.r] 26)).alloc (.cells #[.int .i64 o.kind, .int .i64 o.fro, .int .i64 o.to_, .string ⟨o.name.toArray⟩, .string ⟨o.text.toArray⟩, .slice A n c, .int .i64 o.r] 30)).heap[w.heap.size + 1]? = some (.cells #[.int .i64 o.kind, .int .i64 o.fro, .int .i64 o.to_, .string ⟨o.name.toArray⟩, .string ⟨o.text.toArray⟩, .slice A n c, .int .i64 o.r] 30) := by
    have := hp_new (w.alloc (.cells #[.int .i64 o.kind, .int .i64 o.fro, .int .i64 o.to_, .string ⟨o.name.toArray⟩, .string ⟨o.text.toArray⟩, .slice A n c, .int .i64 o.r] 26)) (.cells #[.int .i64 o.kind, .int .i64 o.fro, .int .i64 o.to_, .string ⟨o.name.toArray⟩, .string ⟨o.text.toArray⟩, .slice A n c, .int .i64 o.r] 30)
    rwa [World.size_alloc] at this
  have HQ := Lib.hid hq
  have HB := Lib.hid (((Below.refl w.heap.size w).alloc (Nat.le_refl _) (.cells #[.int .i64 o.kind, .int .i64 o.fro, .int .i64 o.to_, .string ⟨o.name.toArray⟩, .string ⟨o.text.toArray⟩, .slice A n c, .int .i64 o.r] 26)).alloc (by simp) (.cells #[.int .i64 o.kind, .int .i64 o.fro, .int .i64 o.to_, .string ⟨o.name.toArray⟩, .string ⟨o.text.toArray⟩, .slice A n c, .int .i64 o.r] 30))
  have HU := Lib.hid (And.intro hi hu)
  clear hq hi hu
  go_enter Tryz.func13, Tryz.ntmps13
  go_wp2
  (try simp only [Exit.inBlock, Exit.then])
  exact bodyPost_ret (results_cell_row rfl _ _ (w.heap.size + 1) _ _ _ _ rfl HQ.out HU.out.2 rfl HU.out.1) rfl ⟨rfl, HB.out⟩
set_option maxRecDepth 100000 in
set_option maxHeartbeats 4000000 in
theorem same11_c (o : TokL) (A1 A2 : Option Addr) (n c1 c2 : Nat) (w : World) (h1 : PRd w w.heap.size A1 n c1 o.pairs) (h2 : PRd w w.heap.size A2 n c2 o.pairs) (hm : n ≤ 1000000) :
    Calls Tryz.prog 12 #[.agg #[.int .i64 o.kind, .int .i64 o.fro, .int .i64 o.to_, .string ⟨o.name.toArray⟩, .string ⟨o.text.toArray⟩, .slice A1 n c1, .int .i64 o.r], .agg #[.int .i64 o.kind, .int .i64 o.fro, .int .i64 o.to_, .string ⟨o.name.toArray⟩, .string ⟨o.text.toArray⟩, .slice A2 n c2, .int .i64 o.r]] w fun e w' => e = .returned (.bool true) ∧ Below w.heap.size w w' := by
  have hb := ((Below.refl w.heap.size w).alloc (Nat.le_refl _) (.cells #[.int .i64 o.kind, .int .i64 o.fro, .int .i64 o.to_, .string ⟨o.name.toArray⟩, .string ⟨o.text.toArray⟩, .slice A1 n c1, .int .i64 o.r] 30)).alloc (by simp) (.cells #[.int .i64 o.kind, .int .i64 o.fro, .int .i64 o.to_, .string ⟨o.name.toArray⟩, .string ⟨o.text.toArray⟩, .slice A2 n c2, .int .i64 o.r] 30)
  have HB := Lib.hid hb
  have CS := Lib.hid (same10_c A1 A2 n c1 c2 o.pairs _ ((h1.below hb).more hb.size) ((h2.below hb).more hb.size) hm)
  have q1 : ((w.alloc (.cells #[.int .i64 o.kind, .int .i64 o.fro, .int .i64 o.to_, .string ⟨o.name.toArray⟩, .string ⟨o.text.toArray⟩, .slice A1 n c1, .int .i64 o.r] 30)).alloc (.cells #[.int .i64 o.kind, .int .i64 o.fro, .int .i64 o.to_, .string ⟨o.name.toArray⟩, .string ⟨o.text.toArray⟩, .slice A2 n c2, .int .i64 o.r] 30)).heap[w.heap.size]? = some (.cells #[.int .i64 o.kind, .int .i64 o.fro, .int .i64 o.to_, .string ⟨o.name.toArray⟩, .string ⟨o.text.toArray⟩, .slice A1 n c1, .int .i64 o.r] 30) := by
    rw [Below.heap_alloc _ _ _ (by simp)]; exact hp_new _ _
  have q2 : ((w.alloc (.cells #[.int .i64 o.kind, .int .i64 o.fro, .int .i64 o.to_, .string ⟨o.name.toArray⟩, .string ⟨o.text.toArray⟩, .slice A1 n c1, .int .i64 o.r] 30)).alloc (.cells #[.int .i64 o.kind, .int .i64 o.fro, .int .i64 o.to_, .string ⟨o.name.toArray⟩, .string ⟨o.text.toArray⟩, .slice A2 n c2, .int .i64 o.r] 30)).heap[w.heap.size + 1]? = some (.cells #[.int .i64 o.kind, .int .i64 o.fro, .int .i64 o.to_, .string ⟨o.name.toArray⟩, .string ⟨o.text.toArray⟩, .slice A2 n c2, .int .i64 o.r] 30) := by
    have := hp_new (w.alloc (.cells #[.int .i64 o.kind, .int .i64 o.fro, .int .i64 o.to_, .string ⟨o.name.toArray⟩, .string ⟨o.text.toArray⟩, .slice A1 n c1, .int .i64 o.r] 30)) (.cells #[.int .i64 o.kind, .int .i64 o.fro, .int .i64 o.to_, .string ⟨o.name.toArray⟩, .string ⟨o.text.toArray⟩, .slice A2 n c2, .int .i64 o.r] 30)
    rwa [World.size_alloc] at this
  have x0 := cell_of 0 q1
  have y0 := cell_of 0 q2
  have x1 := cell_of 1 q1
  have y1 := cell_of 1 q2
  have x2 := cell_of 2 q1
  have y2 := cell_of 2 q2
  have x3 := cell_of 3 q1
  have y3 := cell_of 3 q2
  have x4 := cell_of 4 q1
  have y4 := cell_of 4 q2
  have x5 := cell_of 5 q1
  have y5 := cell_of 5 q2
  have x6 := cell_of 6 q1
  have y6 := cell_of 6 q2
  clear hb q1 q2 h1 h2
  go_enter Tryz.func12, Tryz.ntmps12
  go_wp2_with fail
  refine CS.out.mono ?_
  rintro e w1 ⟨rfl, hb⟩
  have B := Lib.hid (HB.out.trans (hb.mono HB.out.size))
  clear hb
  go_wp2
  go_ret
  exact ⟨rfl, B.out⟩
end Go.Proofs.YtmclngahdklfkaaGreatDoor
/- narthexref11.All. -/
namespace Go.Proofs.YtmclngahdklfkaaGreatDoor
open Go.ChangeShapes Go.WideShapes Go.ChangeAt Go.RowKit
set_option linter.unusedVariables false
/-- What the reading of tokens leaves: the row, the place reached, the error. -/
def AllPost (o : List TokL × Nat × Nat) (w : World) (e : Ending) (w' : World) : Prop :=
  ∃ A n c vs, e = .returned (.tuple #[.slice A n c, .int .i64 (o.2.1 : Int), .int .i64 (o.2.2 : Int)]) ∧ vs.map TokV.t = o.1 ∧ TRd w' w'.heap.size A n c vs ∧ Below w.heap.size w w'
theorem AllPost.bad {t x : Nat} {w w' : World} {e : Ending} (he : e = .returned (.tuple #[.slice none 0 0, .int .i64 (t : Int), .int .i64 (x : Int)])) (hb : Below w.heap.size w w') : AllPost ([], t, x) w e w' :=
  ⟨none, 0, 0, [], he, rfl, TRd.nilR _ _, hb⟩
theorem AllPost.good {T : TypeId} {w w' : World} {e : Ending} {vs : List TokV} {base t : Nat} {v : Value} (hG : GrowT T w w' base v vs) (he : e = .returned (.tuple #[v, .int .i64 (t : Int), .int .i64 0])) : AllPost (vs.map TokV.t, t, 0) w e w' := by
  obtain ⟨A, c, rfl, hr⟩ := TRd.ofOwn hG.own hG.prs
  exact ⟨A, vs.length, c, vs, he, rfl, hr, hG.below⟩
theorem nextAt_in (l : List UInt8) (t : Nat) (h : t < l.length) : nextAt l t = nextOut l t := by
  unfold nextAt
  rw [if_neg (by omega), if_neg (by omega), Int.toNat_natCast]
theorem GrowT.fresh {T : TypeId} {w wr : World} {base : Nat} {v : Value} {vs : List TokV} (h : GrowT T w wr base v vs) {b : Nat} (hb : wr.heap.size ≤ b) : some b ≠ v.ownBlock := fun e => by
  have := (ownBlock_lt h.own e.symm).1
  omega
theorem info_tok : ∃ i, Tryz.prog.info? 26 = some i ∧ i.zero = some (.agg #[.int .i64 0, .int .i64 0, .int .i64 0, .string ⟨#[]⟩, .string ⟨#[]⟩, .slice none 0 0, .int .i64 0]) ∧ i.size = 7 ∧ i.bytes = 88 := by
  obtain ⟨i, h1, h2, h3, h4⟩ := info_parts (show (Tryz.prog.info? 26).map (fun i => (i.zero, i.size, i.bytes)) = some (some (.agg #[.int .i64 0, .int .i64 0, .int .i64 0, .string ⟨#[]⟩, .string ⟨#[]⟩, .slice none 0 0, .int .i64 0]), 7, 88) by kernel_rfl)
  exact ⟨i, h1, h2, h3, h4⟩
end Go.Proofs.YtmclngahdklfkaaGreatDoor
