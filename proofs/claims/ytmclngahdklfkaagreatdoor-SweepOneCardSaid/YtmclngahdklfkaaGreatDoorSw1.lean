/- sweep: the row of names that are open. -/
import Derived.Test.YtmclngahdklfkaaGreatDoorRows
import Derived.Test.YtmclngahdklfkaaGreatDoorQX
import Derived.WalkKit
import Derived.ProofKit
import Derived.OpenShut
import Derived.ShutString
import Derived.ChangeOld
import Derived.Below
import Derived.BigQuiet
import Derived.Deep.QuietTactic
import Derived.Lib.Hide
import Derived.Deep.RegionHeld3
import Derived.Lib.SlBytesConst
import Derived.Laws.CopyOwn
import Derived.Laws.CopyRow
import Derived.Lib.Bytes
import Derived.Deep.LoopGhost
import Derived.Deep.DeepFit
import Derived.Deep.DeepMust
import Derived.WalkSpells
import Derived.WalkLawsBesides
import Derived.Maps.OwnOps
import Derived.Maps.OwnSet
import Derived.Maps.Views
import Derived.Laws.EntriesVeiled
import Derived.Laws.Rows
import Derived.Maps.AppendAt
import Derived.Lib.SmallJoins
import Derived.Deep.AppendLies
import Derived.Deep.RegionLaw
import Derived.Deep.RegionWith
import Derived.Deep.RegionWith
import Derived.Test.YtmclngahdklfkaaGreatDoorQ1
import Derived.Test.YtmclngahdklfkaaGreatDoorQ6
import Derived.Test.YtmclngahdklfkaaGreatDoorQ2
import Derived.Test.YtmclngahdklfkaaGreatDoorQ4
import Derived.Test.YtmclngahdklfkaaGreatDoorQ5
import Derived.Test.YtmclngahdklfkaaGreatDoorQ8
import Derived.Test.YtmclngahdklfkaaGreatDoorQ9
import Derived.Test.YtmclngahdklfkaaGreatDoorQ10
import Derived.Test.YtmclngahdklfkaaGreatDoorQ11
import Derived.Test.YtmclngahdklfkaaGreatDoorQ12
import Derived.Test.YtmclngahdklfkaaGreatDoorQ13
import Derived.Test.YtmclngahdklfkaaGreatDoorQ14
import Derived.Test.YtmclngahdklfkaaGreatDoorQ15
import Derived.Test.YtmclngahdklfkaaGreatDoorQ16
import Derived.Test.YtmclngahdklfkaaGreatDoorQ17
import Derived.Test.YtmclngahdklfkaaGreatDoorQ18
import Derived.Test.YtmclngahdklfkaaGreatDoorQ19
import Derived.Test.YtmclngahdklfkaaGreatDoorQ20
import Derived.Test.YtmclngahdklfkaaGreatDoorQ21
import Derived.Test.YtmclngahdklfkaaGreatDoorQ24
import Derived.Test.YtmclngahdklfkaaGreatDoorQ22
import Derived.Test.YtmclngahdklfkaaGreatDoorQ23
import Derived.Test.YtmclngahdklfkaaGreatDoorQ7
import Derived.Test.YtmclngahdklfkaaGreatDoorQ25
import Derived.Test.YtmclngahdklfkaaGreatDoorTok9
import Derived.Test.YtmclngahdklfkaaGreatDoorTok10
import Derived.Test.YtmclngahdklfkaaGreatDoorTok10b
import Derived.Test.YtmclngahdklfkaaGreatDoorTokQ
import Derived.Test.YtmclngahdklfkaaGreatDoorSwP
namespace Go.Proofs.YtmclngahdklfkaaGreatDoor
open Go.ChangeShapes Go.WideShapes Go.ChangeAt Go.RowKit
set_option linter.unusedVariables false
/-- What may turn while the sweeper's row of names turns: the sweeper's block, the row's own, blocks made anew. -/
structure MF (sb : Nat) (W X : World) (sv sv' : Value) : Prop where
  below : Below sb W X
  blk : ∀ k, k < W.heap.size → k ≠ sb → some k ≠ sv.ownBlock → X.heap[k]? = W.heap[k]?
  own : sv'.ownBlock = sv.ownBlock ∨ ∃ g, sv'.ownBlock = some g ∧ W.heap.size ≤ g
theorem MF.ofBelow {sb : Nat} {W X : World} {sv : Value} (hb : Below W.heap.size W X) (hs : sb ≤ W.heap.size) : MF sb W X sv sv := ⟨hb.mono hs, fun k hk _ _ => hb.block k hk, .inl rfl⟩
theorem MF.trans {sb : Nat} {W X Y : World} {a b c : Value} (h1 : MF sb W X a b) (h2 : MF sb X Y b c) : MF sb W Y a c := by
  have hs := h1.below.size
  refine ⟨h1.below.trans h2.below, fun k hk hne hown => ?_, ?_⟩
  · rw [h2.blk k (by omega) hne ?_]
    · exact h1.blk k hk hne hown
    · rcases h1.own with e | ⟨g, e, hg⟩
      · rw [e]; exact hown
      · rw [e]; intro h; cases h; omega
  · rcases h2.own with e | ⟨g, e, hg⟩
    · rw [e]; exact h1.own
    · exact .inr ⟨g, e, by omega⟩
theorem MF.cell {sb i : Nat} {W : World} {a b v : Value} (he : b.ownBlock = a.ownBlock) : MF sb W (W.setCell ⟨sb, i, none⟩ v) a b :=
  ⟨(Below.refl _ _).setCell (p := ⟨sb, i, none⟩) (Nat.le_refl _) v, fun k hk hne _ => hp_other hne, .inl he⟩
theorem MF.keep {sb : Nat} {W X : World} {sv sv' : Value} (h : MF sb W X sv sv') {A : Option Addr} {n cap : Nat} {ps : List PairL} (hp : PRd W W.heap.size A n cap ps) (ho : 0 < cap → ∀ b i, A = some ⟨b, i, none⟩ → b ≠ sb ∧ some b ≠ sv.ownBlock) : PRd X X.heap.size A n cap ps :=
  hp.moveC h.below.size fun h0 b i hA hb => h.blk b hb (ho h0 b i hA).1 (ho h0 b i hA).2
theorem ownS_lt {w : World} {base : Nat} {v : Value} {op : List (List UInt8)} (h : OwnS w base v op) {b : Nat} (hb : v.ownBlock = some b) : b < w.heap.size ∧ base ≤ b := ownBlock_lt h hb
theorem ownS_ne {w : World} {base : Nat} {v : Value} {op : List (List UInt8)} (h : OwnS w base v op) {b : Nat} (hb : b < base) : some b ≠ v.ownBlock := fun e => by
  have := (ownS_lt h e.symm).2
  omega
set_option maxRecDepth 100000 in
set_option maxHeartbeats 4000000 in
theorem push_c (sb base : Nat) (sv : Value) (op : List (List UInt8)) (s : List UInt8) (r : Int) (whole : Bool) (W : World) (hq : W.heap[sb]? = some (.cells #[sv, .int .i64 r, .bool whole] 78)) (ho : OwnS W base sv op) (hsb : sb < base) (hbW : base ≤ W.heap.size) (hop : op.length ≤ 1000000) :
    Calls Tryz.prog 104 #[.pointer (some ⟨sb, 0, none⟩), .string ⟨s.toArray⟩] W fun e w' => e = .returned (.tuple #[]) ∧ ∃ sv', w'.heap[sb]? = some (.cells #[sv', .int .i64 r, .bool whole] 78) ∧ OwnS w' base sv' (op ++ [s]) ∧ MF sb W w' sv sv' := by
  have z0 := cell_of 0 hq
  have hown2 := ho
  unfold OwnS at hown2
  have HQ := Lib.hid hq
  have HO := Lib.hid ho
  have hopn : op.length ≤ 1000000000 := by omega
  have hsW : sb < W.heap.size := by omega
  clear hq ho
  go_enter Tryz.func104, Tryz.ntmps104
  go_wp2_with (at_builtin; refine wpList_appK rfl (.tmp 8) (.tmp 10) 71 9 rfl (.string ⟨#[]⟩) 1 16 Tryz.underlying71 info_str rfl (by decide) base _ op.length (op.map strV) rfl hown2 [strV s] _ rfl rfl rfl (by simp [strV, Value.oneCell']) hopn (by decide) hbW ?_)
  intro v4 w4 hown4 hg4 hat4
  have hs4 := hg4.size
  rw [World.size_alloc] at hs4
  have HO4 := OwnS.of hown4
  obtain ⟨A6, n6, c6, rfl⟩ : ∃ A n c, v4 = .slice A n c := by
    obtain ⟨A6, c6, h6⟩ := HO4.form
    exact ⟨_, _, _, h6⟩
  have hq4 : w4.heap[sb]? = some (.cells #[sv, .int .i64 r, .bool whole] 78) := by
    rw [hg4.block sb (by rw [World.size_alloc]; omega) (ownS_ne HO.out hsb), Below.heap_alloc _ _ _ hsW]
    exact HQ.out
  have x0 := cell_of 0 hq4
  have y0 := free_of 0 hq4
  have hM : MF sb W w4 sv (.slice A6 n6 c6) := by
    refine ⟨(((Below.refl sb W).alloc (Nat.le_of_lt hsW) _).grown hg4 (by rw [World.size_alloc]; omega) fun k hk => ?_), fun k hk hne hown => ?_, ?_⟩
    · have := (ownS_lt HO.out hk).2
      omega
    · rw [hg4.block k (by rw [World.size_alloc]; omega) hown, Below.heap_alloc _ _ _ hk]
    · rcases hat4 with e | e
      · exact .inl e
      · exact .inr ⟨_, e, by omega⟩
  have HF : Hid ((w4.setCell ⟨sb, 0, none⟩ (.slice A6 n6 c6)).heap[sb]? = some (.cells #[.slice A6 n6 c6, .int .i64 r, .bool whole] 78) ∧ OwnS (w4.setCell ⟨sb, 0, none⟩ (.slice A6 n6 c6)) base (.slice A6 n6 c6) (op ++ [s]) ∧ MF sb W (w4.setCell ⟨sb, 0, none⟩ (.slice A6 n6 c6)) sv (.slice A6 n6 c6)) := Lib.hid ⟨hp_set hq4, ownsRow_keep HO4 fun g hg _ => hp_other (by omega), hM.trans (MF.cell rfl)⟩
  clear hown4 hg4 hat4 HO4 hM hq4
  go_wp2
  go_end0
  exact ⟨rfl, _, HF.out.1, HF.out.2.1, HF.out.2.2⟩
set_option maxRecDepth 100000 in
set_option maxHeartbeats 4000000 in
theorem pop_no (sb base : Nat) (sv : Value) (op : List (List UInt8)) (s : List UInt8) (r : Int) (whole : Bool) (W : World) (hq : W.heap[sb]? = some (.cells #[sv, .int .i64 r, .bool whole] 78)) (ho : OwnS W base sv op) (hop : op.length ≤ 1000000) (hn : op.getLast? ≠ some s) :
    Calls Tryz.prog 105 #[.pointer (some ⟨sb, 0, none⟩), .string ⟨s.toArray⟩] W fun e w' => e = .returned (.bool false) ∧ W = w' := by
  have z0 := cell_of 0 hq
  rcases List.eq_nil_or_concat op with rfl | ⟨op2, s2, rfl⟩
  · obtain ⟨A4, c4, rfl⟩ := ho.form
    clear hq ho
    simp only [List.length_nil] at z0
    go_enter Tryz.func105, Tryz.ntmps105
    go_wp2
    go_ret
    exact ⟨rfl, rfl⟩
  · rw [List.concat_eq_append] at *
    obtain ⟨g5, c5, rfl, hc5, hg5, hgl5, hz5, ho5⟩ := ho.last
    have hop2 : op2.length ≤ 1000000 := by rw [List.length_append] at hop; omega
    have hs : s2 ≠ s := by simpa using hn
    have hbn : (s2 == s) = false := by simpa using hs
    have l0 : (0 : Int) ≤ (op2.length : Int) := by omega
    have l1 : (op2.length : Int) < (op2.length : Int) + 1 := by omega
    have l4 : ¬ (op2.length : Int) < 0 := by omega
    have l9 : (op2.length : Int) ≤ 1000000 := by omega
    have l2 : IntKind.i64.wrap (op2.length : Int) = (op2.length : Int) := by rw [IntKind.wrap_i64]; omega
    unfold strV at hz5
    clear hq ho ho5 hop hn hs
    generalize op2.length = m5 at *
    go_enter Tryz.func105, Tryz.ntmps105
    go_wp2
    go_ret
    exact ⟨rfl, rfl⟩
set_option maxRecDepth 100000 in
set_option maxHeartbeats 4000000 in
theorem pop_yes (sb base : Nat) (sv : Value) (op2 : List (List UInt8)) (s : List UInt8) (r : Int) (whole : Bool) (W : World) (hq : W.heap[sb]? = some (.cells #[sv, .int .i64 r, .bool whole] 78)) (ho : OwnS W base sv (op2 ++ [s])) (hsb : sb < base) (hop : op2.length ≤ 1000000) :
    Calls Tryz.prog 105 #[.pointer (some ⟨sb, 0, none⟩), .string ⟨s.toArray⟩] W fun e w' => e = .returned (.bool true) ∧ ∃ sv', w'.heap[sb]? = some (.cells #[sv', .int .i64 r, .bool whole] 78) ∧ OwnS w' base sv' op2 ∧ MF sb W w' sv sv' := by
  have z0 := cell_of 0 hq
  have y0 := free_of 0 hq
  obtain ⟨g5, c5, rfl, hc5, hg5, hgl5, hz5, ho5⟩ := ho.last
  have hbn : (s == s) = true := by simp
  have l0 : (0 : Int) ≤ (op2.length : Int) := by omega
  have l1 : (op2.length : Int) < (op2.length : Int) + 1 := by omega
  have l4 : ¬ (op2.length : Int) < 0 := by omega
  have l9 : (op2.length : Int) ≤ 1000000 := by omega
  have l2 : IntKind.i64.wrap (op2.length : Int) = (op2.length : Int) := by rw [IntKind.wrap_i64]; omega
  have hcut := fun W => run_cutS (w := W) (some ⟨g5, 0, none⟩) (op2.length + 1) c5 op2.length (by omega)
  unfold strV at hz5
  have HF : Hid ((W.setCell ⟨sb, 0, none⟩ (.slice (some ⟨g5, 0, none⟩) op2.length c5)).heap[sb]? = some (.cells #[.slice (some ⟨g5, 0, none⟩) op2.length c5, .int .i64 r, .bool whole] 78) ∧ OwnS (W.setCell ⟨sb, 0, none⟩ (.slice (some ⟨g5, 0, none⟩) op2.length c5)) base (.slice (some ⟨g5, 0, none⟩) op2.length c5) op2 ∧ MF sb W (W.setCell ⟨sb, 0, none⟩ (.slice (some ⟨g5, 0, none⟩) op2.length c5)) (.slice (some ⟨g5, 0, none⟩) (op2.length + 1) c5) (.slice (some ⟨g5, 0, none⟩) op2.length c5)) :=
    Lib.hid ⟨hp_set hq, ownsRow_keep ho5 fun g hg _ => hp_other (by omega), MF.cell rfl⟩
  clear hq ho ho5 hop
  generalize op2.length = m5 at *
  go_enter Tryz.func105, Tryz.ntmps105
  go_wp2
  go_ret
  exact ⟨rfl, _, HF.out.1, HF.out.2.1, HF.out.2.2⟩
end Go.Proofs.YtmclngahdklfkaaGreatDoor
