/- The law CanonOnes. -/
import Derived.Test.YthihkbcdihochaaGreatDoorRows
import Derived.WalkKit
import Derived.ProofKit
import Derived.OpenShut
import Derived.ShutString
import Derived.ChangeOld
import Derived.Below
import Derived.BigQuiet
import Derived.Deep.QuietTactic
import Derived.Lib.Hide
import Derived.Deep.RegionHeld3
import Derived.Lib.SlBytesConst
import Derived.Laws.CopyOwn
import Derived.Laws.CopyRow
import Derived.Lib.Bytes
import Derived.Deep.LoopGhost
import Derived.Deep.DeepFit
import Derived.Deep.DeepMust
import Derived.WalkSpells
import Derived.WalkLawsBesides
import Derived.Maps.OwnOps
import Derived.Maps.OwnSet
import Derived.Maps.Views
import Derived.Laws.EntriesVeiled
import Derived.Laws.Rows
import Derived.Maps.AppendAt
import Derived.Lib.SmallJoins
import Derived.Deep.AppendLies
import Derived.DeepKeys4
import Derived.MapViews
import Derived.Maps.Keyed
import Derived.Carry
import Derived.Lib.ItoaNum
import Derived.Lib.AppendIntMem
import Derived.Deep.RegionWith
import Derived.Test.YthihkbcdihochaaGreatDoorC1
import Derived.Test.YthihkbcdihochaaGreatDoorC2
import Derived.Test.YthihkbcdihochaaGreatDoorC5
import Derived.Test.YthihkbcdihochaaGreatDoorC6
import Derived.Test.YthihkbcdihochaaGreatDoorC7
import Derived.Test.YthihkbcdihochaaGreatDoorC8
import Derived.Test.YthihkbcdihochaaGreatDoorC9
import Derived.Test.YthihkbcdihochaaGreatDoorC10
import Derived.Test.YthihkbcdihochaaGreatDoorC11
import Derived.Test.YthihkbcdihochaaGreatDoorC12
import Derived.Test.YthihkbcdihochaaGreatDoorC13
import Derived.Test.YthihkbcdihochaaGreatDoorC14
namespace Go.Proofs.YthihkbcdihochaaGreatDoor
open Go.ChangeShapes Go.WideShapes Go.ChangeAt Go.RowKit
set_option linter.unusedVariables false
/-- A row of events just laid down, in its block. -/
theorem ERd.lit41 {w : World} {b : Nat} {cs : Array Value} {T : TypeId} {f : Nat × Nat} (vs : List EvV) (n : Nat) (h : w.heap[b]? = some (.cells cs T f)) (hcs : cs = (vs.flatMap EvV.cells).toArray) (hn : vs.length = n) (hm : n ≤ 1000000) (ha : ∀ v ∈ vs, RRd cA 3 w w.heap.size v.A v.n v.c v.e.ats) : ERd w w.heap.size (some ⟨b, 0, none⟩) n n vs :=
  ⟨⟨hn, Nat.le_refl _, by unfold maxLen; omega, (fun e => by cases e), fun _ => ⟨b, 0, rfl, lt_of h, fun i x hx j u hu => by
    have h1 := flat_get (c := EvV.cells) (k := 5) (fun _ => rfl) vs i x hx j u hu
    rw [cell_of _ h, hcs, Nat.zero_add]
    simpa using h1⟩⟩, ha⟩
theorem exT_2 : (⟨(exT 2).toArray⟩ : ByteArray) = ⟨#[60, 97, 32, 120, 109, 108, 110, 115, 61, 34, 117, 34, 32, 120, 109, 108, 110, 115, 58, 110, 48, 61, 34, 118, 34, 32, 110, 48, 58, 98, 61, 34, 49, 34, 62, 60, 47, 97, 62]⟩ := by decide +kernel
set_option maxRecDepth 100000 in
set_option maxHeartbeats 8000000 in
theorem live41_c (w : World) (hW : WC w) (hp : Lib.TabIs Tryz.prog w "internal/strconv.uint64pow10" .u64 Lib.pow10Tab) : Calls Tryz.prog 16 #[] w fun e w' => e = .returned (.bool true) ∧ Below w.heap.size w w' := by
  have ka : Below w.heap.size w ((w.alloc (.cells #[.string ⟨#[118]⟩, .string ⟨#[98]⟩, .string ⟨#[49]⟩] 112)).alloc (.cells #[.int .i64 1, .string ⟨#[117]⟩, .string ⟨#[97]⟩, .slice (some ⟨w.heap.size, 0, none⟩) 1 1, .string ⟨#[]⟩, .int .i64 2, .string ⟨#[117]⟩, .string ⟨#[97]⟩, .slice none 0 0, .string ⟨#[]⟩] 41)) := ((Below.refl _ w).alloc (Nat.le_refl _) _).alloc (by simp) _
  have hq : ((w.alloc (.cells #[.string ⟨#[118]⟩, .string ⟨#[98]⟩, .string ⟨#[49]⟩] 112)).alloc (.cells #[.int .i64 1, .string ⟨#[117]⟩, .string ⟨#[97]⟩, .slice (some ⟨w.heap.size, 0, none⟩) 1 1, .string ⟨#[]⟩, .int .i64 2, .string ⟨#[117]⟩, .string ⟨#[97]⟩, .slice none 0 0, .string ⟨#[]⟩] 41)).heap[w.heap.size + 1]? = some (.cells #[.int .i64 1, .string ⟨#[117]⟩, .string ⟨#[97]⟩, .slice (some ⟨w.heap.size, 0, none⟩) 1 1, .string ⟨#[]⟩, .int .i64 2, .string ⟨#[117]⟩, .string ⟨#[97]⟩, .slice none 0 0, .string ⟨#[]⟩] 41 (0, 0)) := by
    have := hp_new (w.alloc (.cells #[.string ⟨#[118]⟩, .string ⟨#[98]⟩, .string ⟨#[49]⟩] 112)) (.cells #[.int .i64 1, .string ⟨#[117]⟩, .string ⟨#[97]⟩, .slice (some ⟨w.heap.size, 0, none⟩) 1 1, .string ⟨#[]⟩, .int .i64 2, .string ⟨#[117]⟩, .string ⟨#[97]⟩, .slice none 0 0, .string ⟨#[]⟩] 41)
    rwa [World.size_alloc] at this
  have hq0 : ((w.alloc (.cells #[.string ⟨#[118]⟩, .string ⟨#[98]⟩, .string ⟨#[49]⟩] 112)).alloc (.cells #[.int .i64 1, .string ⟨#[117]⟩, .string ⟨#[97]⟩, .slice (some ⟨w.heap.size, 0, none⟩) 1 1, .string ⟨#[]⟩, .int .i64 2, .string ⟨#[117]⟩, .string ⟨#[97]⟩, .slice none 0 0, .string ⟨#[]⟩] 41)).heap[w.heap.size]? = some (.cells #[.string ⟨#[118]⟩, .string ⟨#[98]⟩, .string ⟨#[49]⟩] 112 (0, 0)) := hp_old (hp_new w _)
  have hz : ((w.alloc (.cells #[.string ⟨#[118]⟩, .string ⟨#[98]⟩, .string ⟨#[49]⟩] 112)).alloc (.cells #[.int .i64 1, .string ⟨#[117]⟩, .string ⟨#[97]⟩, .slice (some ⟨w.heap.size, 0, none⟩) 1 1, .string ⟨#[]⟩, .int .i64 2, .string ⟨#[117]⟩, .string ⟨#[97]⟩, .slice none 0 0, .string ⟨#[]⟩] 41)).heap.size = w.heap.size + 2 := by simp
  have C1 : Hid (Calls Tryz.prog 49 #[.slice (some ⟨w.heap.size + 1, 0, none⟩) 2 2] ((w.alloc (.cells #[.string ⟨#[118]⟩, .string ⟨#[98]⟩, .string ⟨#[49]⟩] 112)).alloc (.cells #[.int .i64 1, .string ⟨#[117]⟩, .string ⟨#[97]⟩, .slice (some ⟨w.heap.size, 0, none⟩) 1 1, .string ⟨#[]⟩, .int .i64 2, .string ⟨#[117]⟩, .string ⟨#[97]⟩, .slice none 0 0, .string ⟨#[]⟩] 41)) fun e w' => e = .returned (.tuple #[.string ⟨#[60, 97, 32, 120, 109, 108, 110, 115, 61, 34, 117, 34, 32, 120, 109, 108, 110, 115, 58, 110, 48, 61, 34, 118, 34, 32, 110, 48, 58, 98, 61, 34, 49, 34, 62, 60, 47, 97, 62]⟩, .int .i64 0]) ∧ Below w.heap.size w w') := Lib.hid (by
    generalize ((w.alloc (.cells #[.string ⟨#[118]⟩, .string ⟨#[98]⟩, .string ⟨#[49]⟩] 112)).alloc (.cells #[.int .i64 1, .string ⟨#[117]⟩, .string ⟨#[97]⟩, .slice (some ⟨w.heap.size, 0, none⟩) 1 1, .string ⟨#[]⟩, .int .i64 2, .string ⟨#[117]⟩, .string ⟨#[97]⟩, .slice none 0 0, .string ⟨#[]⟩] 41)) = X at *
    have hE : ERd X X.heap.size (some ⟨w.heap.size + 1, 0, none⟩) 2 2 [exV (X.heap.size - 2), exW] := ERd.lit41 _ 2 hq (by rw [hz]; rfl) rfl (by omega) fun v hv => by
      simp only [List.mem_cons, List.not_mem_nil, or_false] at hv
      rcases hv with rfl | rfl
      · refine ⟨rfl, Nat.le_refl _, by simp [exV, maxLen], (fun e => by cases e), fun _ => ⟨w.heap.size, 0, by rw [hz]; rfl, lt_of hq0, fun i x hx j u hu => ?_⟩⟩
        have h1 := flat_get (c := cA) (k := 3) (fun _ => rfl) exA i x hx j u hu
        rw [cell_of _ hq0, Nat.zero_add]
        have h2 : (#[.string ⟨#[118]⟩, .string ⟨#[98]⟩, .string ⟨#[49]⟩] : Array Value) = (exA.flatMap cA).toArray := rfl
        rw [h2]
        simpa using h1
      · exact RRd.nilR cA 3 X _
    have := cnPut_ex (w.heap.size + 1) X.heap.size X rfl hE (by omega) (hW.below ka) (TabIs_below41 hp ka)
    rw [exT_2] at this
    exact this.mono fun e w' ⟨he, hb⟩ => ⟨he, ka.trans (hb.mono ka.size)⟩)
  clear ka hq hq0 hz hW hp
  go_enter Tryz.func16, Tryz.ntmps16
  go_wp2_with fail
  refine C1.out.mono ?_
  rintro e w1 ⟨rfl, hb⟩
  have HB := Lib.hid hb
  clear hb C1
  go_wp2
  go_ret
  exact ⟨rfl, HB.out⟩
set_option maxRecDepth 100000 in
set_option maxHeartbeats 8000000 in
theorem canonOnes_walk (v : EvV) (space : List UInt8) (w : World) (h : RRd cA 3 w w.heap.size v.A v.n v.c v.e.ats) (hle : EvLe 1048576 v) (hW : WC w) (hp : Lib.TabIs Tryz.prog w "internal/strconv.uint64pow10" .u64 Lib.pow10Tab) :
    Calls Tryz.prog 5 #[.agg v.cells.toArray, .string ⟨space.toArray⟩] w fun e w' => e = .returned (.bool true) ∧ Below w.heap.size w w' := by
  obtain ⟨⟨k, sp, lo, ats, tx⟩, A, n, cap⟩ := v
  simp only at h
  show Calls Tryz.prog 5 #[.agg #[.int .i64 k, .string ⟨sp.toArray⟩, .string ⟨lo.toArray⟩, .slice A n cap, .string ⟨tx.toArray⟩], .string ⟨space.toArray⟩] w fun e w' => e = .returned (.bool true) ∧ Below w.heap.size w w'
  have HP : Hid (∀ W, Below w.heap.size w W → RRd cA 3 W W.heap.size A n cap ats) := Lib.hid fun W hb => (h.below hb).more hb.size
  have LV : Hid (∀ W, Below w.heap.size w W → Calls Tryz.prog 16 #[] W fun e w' => e = .returned (.bool true) ∧ Below W.heap.size W w') := Lib.hid fun W hb => live41_c W (hW.below hb) (TabIs_below41 hp hb)
  have HTB : Hid (∀ W, Below w.heap.size w W → Lib.TabIs Tryz.prog W "internal/strconv.uint64pow10" .u64 Lib.pow10Tab) := Lib.hid fun W hb => TabIs_below41 hp hb
  have J0 := Lib.hid (CJ.start 41 w #[.int .i64 k, .string ⟨sp.toArray⟩, .string ⟨lo.toArray⟩, .slice A n cap, .string ⟨tx.toArray⟩])
  have ka := (Below.refl (w.alloc (.cells #[.int .i64 k, .string ⟨sp.toArray⟩, .string ⟨lo.toArray⟩, .slice A n cap, .string ⟨tx.toArray⟩] 41)).heap.size (w.alloc (.cells #[.int .i64 k, .string ⟨sp.toArray⟩, .string ⟨lo.toArray⟩, .slice A n cap, .string ⟨tx.toArray⟩] 41))).alloc (Nat.le_refl _) (.cells #[.int .i64 k, .string ⟨sp.toArray⟩, .string ⟨lo.toArray⟩, .slice A n cap, .string ⟨tx.toArray⟩] 41)
  have J1 := Lib.hid (J0.out.kept ka)
  have hnum : ats.length = n := h.len
  have CG : Hid (Calls Tryz.prog 15 #[.slice (some ⟨w.heap.size + 1, 0, none⟩) 1 1] ((w.alloc (.cells #[.int .i64 k, .string ⟨sp.toArray⟩, .string ⟨lo.toArray⟩, .slice A n cap, .string ⟨tx.toArray⟩] 41)).alloc (.cells #[.int .i64 k, .string ⟨sp.toArray⟩, .string ⟨lo.toArray⟩, .slice A n cap, .string ⟨tx.toArray⟩] 41)) fun e w' => e = .returned (.bool (greatE ([(⟨⟨k, sp, lo, ats, tx⟩, A, n, cap⟩ : EvV)].map EvV.e))) ∧ Below ((w.alloc (.cells #[.int .i64 k, .string ⟨sp.toArray⟩, .string ⟨lo.toArray⟩, .slice A n cap, .string ⟨tx.toArray⟩] 41)).alloc (.cells #[.int .i64 k, .string ⟨sp.toArray⟩, .string ⟨lo.toArray⟩, .slice A n cap, .string ⟨tx.toArray⟩] 41)).heap.size ((w.alloc (.cells #[.int .i64 k, .string ⟨sp.toArray⟩, .string ⟨lo.toArray⟩, .slice A n cap, .string ⟨tx.toArray⟩] 41)).alloc (.cells #[.int .i64 k, .string ⟨sp.toArray⟩, .string ⟨lo.toArray⟩, .slice A n cap, .string ⟨tx.toArray⟩] 41)) w') := Lib.hid (by
    have hq := hp_new (w.alloc (.cells #[.int .i64 k, .string ⟨sp.toArray⟩, .string ⟨lo.toArray⟩, .slice A n cap, .string ⟨tx.toArray⟩] 41)) (.cells #[.int .i64 k, .string ⟨sp.toArray⟩, .string ⟨lo.toArray⟩, .slice A n cap, .string ⟨tx.toArray⟩] 41)
    rw [World.size_alloc] at hq
    exact refGreat_c _ 1 1 [(⟨⟨k, sp, lo, ats, tx⟩, A, n, cap⟩ : EvV)] _ (ERd.lit41 _ 1 hq rfl rfl (by omega) fun v hv => by
      rw [List.mem_singleton] at hv
      subst hv
      exact HP.out _ J1.out.1) (by omega) fun v hv => by
        rw [List.mem_singleton] at hv
        subst hv
        exact hle)
  have z0 := cell_of 0 J0.out.2
  have z1 := cell_of 1 J0.out.2
  have z2 := cell_of 2 J0.out.2
  have z3 := cell_of 3 J0.out.2
  have z4 := cell_of 4 J0.out.2
  have hsz : (⟨space.toArray⟩ : ByteArray).size = space.length := by simp [ByteArray.size]
  have hsp0 : (0 : Int) ≤ (space.length : Int) := by omega
  clear ka h hle hW hp
  cases hg : greatE ([(⟨⟨k, sp, lo, ats, tx⟩, A, n, cap⟩ : EvV)].map EvV.e) with
  | true =>
    rw [hg] at CG
    clear hg hnum
    go_enter Tryz.func5, Tryz.ntmps5
    go_wp2_with fail
    refine CG.out.mono ?_
    rintro e w1 ⟨rfl, hb⟩
    have J2 := Lib.hid (J1.out.kept hb)
    clear hb CG
    go_wp2_with fail
    refine (LV.out _ J2.out.1).mono ?_
    rintro e w2 ⟨rfl, hb⟩
    have HB2 := Lib.hid (J2.out.1.trans (hb.mono J2.out.1.size))
    clear hb
    go_wp2
    go_ret
    exact ⟨rfl, HB2.out⟩
  | false =>
    rw [hg] at CG
    have hsm := (greatE_no hg (fun v hv => by rw [List.mem_singleton] at hv; subst hv; exact hnum)).2 _ List.mem_cons_self
    by_cases hl : space.length ≤ 300
    · have hli : ¬ (space.length : Int) > 300 := by omega
      have C1 : Hid (∀ W, Below w.heap.size w W → Calls Tryz.prog 17 #[.agg #[.int .i64 k, .string ⟨sp.toArray⟩, .string ⟨lo.toArray⟩, .slice A n cap, .string ⟨tx.toArray⟩], .string ⟨space.toArray⟩] W fun e w' => e = .returned (.tuple #[.string ⟨(cnOne ⟨k, sp, lo, ats, tx⟩ space).1.toArray⟩, .string ⟨(cnOne ⟨k, sp, lo, ats, tx⟩ space).2.toArray⟩]) ∧ Below W.heap.size W w') := Lib.hid fun W hb => cnOne_c k sp lo tx space A n cap ats W (HP.out W hb) hsm (by omega) (HTB.out W hb)
      have C2 : Hid (∀ W, Below w.heap.size w W → Calls Tryz.prog 18 #[.agg #[.int .i64 k, .string ⟨sp.toArray⟩, .string ⟨lo.toArray⟩, .slice A n cap, .string ⟨tx.toArray⟩], .string ⟨space.toArray⟩] W fun e w' => e = .returned (.tuple #[.string ⟨(cnOne ⟨k, sp, lo, ats, tx⟩ space).1.toArray⟩, .string ⟨(cnOne ⟨k, sp, lo, ats, tx⟩ space).2.toArray⟩]) ∧ Below W.heap.size W w') := Lib.hid fun W hb => rfOne_c k sp lo tx space A n cap ats W (HP.out W hb) hsm (by omega)
      generalize cnOne ⟨k, sp, lo, ats, tx⟩ space = R at *
      obtain ⟨R1, R2⟩ := R
      simp only at C1 C2
      clear hg hsm hnum hl
      go_enter Tryz.func5, Tryz.ntmps5
      go_wp2_with fail
      refine CG.out.mono ?_
      rintro e w1 ⟨rfl, hb⟩
      have J2 := Lib.hid (J1.out.kept hb)
      clear hb CG J1 J0 z0 z1 z2 z3 z4
      have z0 := cell_of 0 J2.out.2
      have z1 := cell_of 1 J2.out.2
      have z2 := cell_of 2 J2.out.2
      have z3 := cell_of 3 J2.out.2
      have z4 := cell_of 4 J2.out.2
      go_wp2_with fail
      refine (C1.out _ J2.out.1).mono ?_
      rintro e w2 ⟨rfl, hb⟩
      have J3 := Lib.hid (J2.out.kept hb)
      clear hb C1 J2 z0 z1 z2 z3 z4
      have z0 := cell_of 0 J3.out.2
      have z1 := cell_of 1 J3.out.2
      have z2 := cell_of 2 J3.out.2
      have z3 := cell_of 3 J3.out.2
      have z4 := cell_of 4 J3.out.2
      go_wp2_with fail
      refine (C2.out _ J3.out.1).mono ?_
      rintro e w3 ⟨rfl, hb⟩
      have J4 := Lib.hid (J3.out.kept hb)
      clear hb C2 J3 z0 z1 z2 z3 z4
      go_wp2_with fail
      refine (LV.out _ J4.out.1).mono ?_
      rintro e w4 ⟨rfl, hb⟩
      have HB2 := Lib.hid (J4.out.1.trans (hb.mono J4.out.1.size))
      clear hb
      go_wp2
      go_ret
      exact ⟨rfl, HB2.out⟩
    · have hli : (space.length : Int) > 300 := by omega
      clear hg hsm hnum hl
      go_enter Tryz.func5, Tryz.ntmps5
      go_wp2_with fail
      refine CG.out.mono ?_
      rintro e w1 ⟨rfl, hb⟩
      have J2 := Lib.hid (J1.out.kept hb)
      clear hb CG
      go_wp2_with fail
      refine (LV.out _ J2.out.1).mono ?_
      rintro e w2 ⟨rfl, hb⟩
      have HB2 := Lib.hid (J2.out.1.trans (hb.mono J2.out.1.size))
      clear hb
      go_wp2
      go_ret
      exact ⟨rfl, HB2.out⟩
theorem canonOnes_law (v : EvV) (s : ByteArray) (w : World) (h : RRd cA 3 w w.heap.size v.A v.n v.c v.e.ats) (hle : EvLe 1048576 v) (hW : WC w) (hp : Lib.TabIs Tryz.prog w "internal/strconv.uint64pow10" .u64 Lib.pow10Tab) :
    Calls Tryz.prog 5 #[.agg v.cells.toArray, .string s] w fun e w' => e = .returned (.bool true) ∧ Below w.heap.size w w' := by
  obtain ⟨d⟩ := s
  have e : (⟨d⟩ : ByteArray) = ⟨d.toList.toArray⟩ := by simp
  rw [e]
  exact canonOnes_walk v d.toList w h hle hW hp
end Go.Proofs.YthihkbcdihochaaGreatDoor
