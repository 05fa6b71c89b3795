/- The laws of layer 40. -/
import Derived.Test.YtocbofeanfdggaaDoorRows
import Derived.WalkKit
import Derived.ProofKit
import Derived.OpenShut
import Derived.ShutString
import Derived.ChangeOld
import Derived.Below
import Derived.BigQuiet
import Derived.Deep.QuietTactic
import Derived.Lib.Hide
import Derived.Deep.RegionHeld3
import Derived.Lib.SlBytesConst
import Derived.Laws.CopyOwn
import Derived.Laws.CopyRow
import Derived.Lib.Bytes
import Derived.Deep.LoopGhost
import Derived.Deep.DeepFit
import Derived.Deep.DeepMust
import Derived.WalkSpells
import Derived.WalkLawsBesides
import Derived.Maps.OwnOps
import Derived.Maps.OwnSet
import Derived.Maps.Views
import Derived.Laws.EntriesVeiled
import Derived.Laws.Rows
import Derived.Maps.AppendAt
import Derived.Lib.SmallJoins
import Derived.Deep.AppendLies
import Derived.Deep.RegionLaw
import Derived.Deep.RegionWith
import Derived.Lib.IndexAny
import Derived.Test.YtocbofeanfdggaaDoorQ1
import Derived.Test.YtocbofeanfdggaaDoorQ2
import Derived.Test.YtocbofeanfdggaaDoorQ3
import Derived.Test.YtocbofeanfdggaaDoorQ4
import Derived.Test.YtocbofeanfdggaaDoorQ5
import Derived.Test.YtocbofeanfdggaaDoorQ6
import Derived.Test.YtocbofeanfdggaaDoorQ11
import Derived.Test.YtocbofeanfdggaaDoorQ12
import Derived.Test.YtocbofeanfdggaaDoorQ13
import Derived.Test.YtocbofeanfdggaaDoorQ14
import Derived.Test.YtocbofeanfdggaaDoorQ17
import Derived.Test.YtocbofeanfdggaaDoorQ18
import Derived.Test.YtocbofeanfdggaaDoorQ20
import Derived.Test.YtocbofeanfdggaaDoorQ21
import Derived.Test.YtocbofeanfdggaaDoorQ22
import Derived.Test.YtocbofeanfdggaaDoorQ23
import Derived.Test.YtocbofeanfdggaaDoorQ24
import Derived.Test.YtocbofeanfdggaaDoorQ29
import Derived.Test.YtocbofeanfdggaaDoorQ30
import Derived.Test.YtocbofeanfdggaaDoorQ31
import Derived.Test.YtocbofeanfdggaaDoorQ32
namespace Go.Proofs.YtocbofeanfdggaaDoor
open Go.ChangeShapes Go.WideShapes Go.ChangeAt Go.RowKit
set_option linter.unusedVariables false
/-- A row of events just laid down. -/
theorem ERd.lit {w : World} {b : Nat} {cs : Array Value} {T : TypeId} {f : Nat × Nat} (vs : List EvV) (n : Nat) (h : w.heap[b]? = some (.cells cs T f)) (hcs : cs = (vs.flatMap EvV.cells).toArray) (hn : vs.length = n) (hm : n ≤ 1000000) (ha : ∀ v ∈ vs, RRd cA 3 w w.heap.size v.A v.n v.c v.e.ats) : ERd w w.heap.size (some ⟨b, 0, none⟩) n n vs :=
  ⟨⟨hn, Nat.le_refl _, by unfold maxLen; omega, (fun e => by cases e), fun _ => ⟨b, 0, rfl, lt_of h, fun i x hx j u hu => by
    have h1 := flat_get (c := EvV.cells) (k := 5) (fun _ => rfl) vs i x hx j u hu
    rw [cell_of _ h, hcs, Nat.zero_add]
    simpa using h1⟩⟩, ha⟩
def evA : EvV := ⟨⟨1, [], [97], [], []⟩, none, 0, 0⟩
def evB : EvV := ⟨⟨2, [], [98], [], []⟩, none, 0, 0⟩
def evC : EvV := ⟨⟨2, [], [97], [], []⟩, none, 0, 0⟩
theorem live40_1 : checkE ([evA, evB].map EvV.e) = (1, 7) := by decide +kernel
theorem live40_2 : checkE ([evA, evC].map EvV.e) = (2, 0) := by decide +kernel
theorem ev_small : ∀ v ∈ [evA, evB, evC], EvLe 5000 v ∧ v.e.ats = [] ∧ v.A = none ∧ v.n = 0 ∧ v.c = 0 := by
  intro v hv
  simp only [List.mem_cons, List.not_mem_nil, or_false] at hv
  rcases hv with rfl | rfl | rfl <;> exact ⟨⟨by decide, by decide, by decide, by decide, fun a ha => by cases ha⟩, rfl, rfl, rfl, rfl⟩
theorem ev_row (v : EvV) (hv : v ∈ [evA, evB, evC]) (w : World) (B : Nat) : RRd cA 3 w B v.A v.n v.c v.e.ats := by
  obtain ⟨_, h1, h2, h3, h4⟩ := ev_small v hv
  rw [h1, h2, h3, h4]
  exact RRd.nilR cA 3 w B
theorem live40_lit (v1 v2 : EvV) (h1 : v1 ∈ [evA, evB, evC]) (h2 : v2 ∈ [evA, evB, evC]) (w : World) (b : Nat) (cs : Array Value) (T : TypeId) (f : Nat × Nat) (h : w.heap[b]? = some (.cells cs T f)) (hcs : cs = ([v1, v2].flatMap EvV.cells).toArray) : ERd w w.heap.size (some ⟨b, 0, none⟩) 2 2 [v1, v2] :=
  ERd.lit _ 2 h hcs rfl (by omega) fun v hv => by
    simp only [List.mem_cons, List.not_mem_nil, or_false] at hv
    rcases hv with rfl | rfl
    · exact ev_row _ h1 w _
    · exact ev_row _ h2 w _
theorem live40_le (v1 v2 : EvV) (h1 : v1 ∈ [evA, evB, evC]) (h2 : v2 ∈ [evA, evB, evC]) : ∀ v ∈ [v1, v2], EvLe 5000 v := fun v hv => by
  simp only [List.mem_cons, List.not_mem_nil, or_false] at hv
  rcases hv with rfl | rfl
  · exact (ev_small _ h1).1
  · exact (ev_small _ h2).1
set_option maxRecDepth 100000 in
set_option maxHeartbeats 4000000 in
theorem live40_c (w : World) (hW : WC w) : Calls Tryd.prog 12 #[] w fun e w' => e = .returned (.bool true) ∧ Below w.heap.size w w' := by
  have J0 := Lib.hid (CJ.start 37 w #[.string ⟨#[]⟩, .string ⟨#[97]⟩])
  have ka := (Below.refl (w.alloc (.cells #[.string ⟨#[]⟩, .string ⟨#[97]⟩] 37)).heap.size (w.alloc (.cells #[.string ⟨#[]⟩, .string ⟨#[97]⟩] 37))).alloc (Nat.le_refl _) (.cells #[.int .i64 1, .string ⟨#[]⟩, .string ⟨#[97]⟩, .slice none 0 0, .string ⟨#[]⟩, .int .i64 2, .string ⟨#[]⟩, .string ⟨#[98]⟩, .slice none 0 0, .string ⟨#[]⟩] 40)
  have J1 := Lib.hid (J0.out.kept ka)
  have C1 : Hid (Calls Tryd.prog 15 #[.slice (some ⟨w.heap.size + 1, 0, none⟩) 2 2] ((w.alloc (.cells #[.string ⟨#[]⟩, .string ⟨#[97]⟩] 37)).alloc (.cells #[.int .i64 1, .string ⟨#[]⟩, .string ⟨#[97]⟩, .slice none 0 0, .string ⟨#[]⟩, .int .i64 2, .string ⟨#[]⟩, .string ⟨#[98]⟩, .slice none 0 0, .string ⟨#[]⟩] 40)) fun e w' => e = .returned (.tuple #[.int .i64 1, .int .i64 7]) ∧ Below ((w.alloc (.cells #[.string ⟨#[]⟩, .string ⟨#[97]⟩] 37)).alloc (.cells #[.int .i64 1, .string ⟨#[]⟩, .string ⟨#[97]⟩, .slice none 0 0, .string ⟨#[]⟩, .int .i64 2, .string ⟨#[]⟩, .string ⟨#[98]⟩, .slice none 0 0, .string ⟨#[]⟩] 40)).heap.size ((w.alloc (.cells #[.string ⟨#[]⟩, .string ⟨#[97]⟩] 37)).alloc (.cells #[.int .i64 1, .string ⟨#[]⟩, .string ⟨#[97]⟩, .slice none 0 0, .string ⟨#[]⟩, .int .i64 2, .string ⟨#[]⟩, .string ⟨#[98]⟩, .slice none 0 0, .string ⟨#[]⟩] 40)) w') := Lib.hid (by
    have hq := hp_new (w.alloc (.cells #[.string ⟨#[]⟩, .string ⟨#[97]⟩] 37)) (.cells #[.int .i64 1, .string ⟨#[]⟩, .string ⟨#[97]⟩, .slice none 0 0, .string ⟨#[]⟩, .int .i64 2, .string ⟨#[]⟩, .string ⟨#[98]⟩, .slice none 0 0, .string ⟨#[]⟩] 40)
    rw [World.size_alloc] at hq
    have := check_c _ 2 2 [evA, evB] _ (live40_lit evA evB (by simp) (by simp) _ _ _ _ _ hq rfl) (by omega) (live40_le _ _ (by simp) (by simp)) (hW.below J1.out.1)
    rw [live40_1] at this
    exact this)
  have C2 : Hid (∀ W, Below w.heap.size w W → Calls Tryd.prog 17 #[.slice (some ⟨W.heap.size, 0, none⟩) 2 2] (W.alloc (.cells #[.int .i64 1, .string ⟨#[]⟩, .string ⟨#[97]⟩, .slice none 0 0, .string ⟨#[]⟩, .int .i64 2, .string ⟨#[]⟩, .string ⟨#[97]⟩, .slice none 0 0, .string ⟨#[]⟩] 40)) fun e w' => e = .returned (.bool true) ∧ Below w.heap.size w w') := Lib.hid fun W hb => by
    have kb := hb.alloc hb.size (.cells #[.int .i64 1, .string ⟨#[]⟩, .string ⟨#[97]⟩, .slice none 0 0, .string ⟨#[]⟩, .int .i64 2, .string ⟨#[]⟩, .string ⟨#[97]⟩, .slice none 0 0, .string ⟨#[]⟩] 40)
    have hq := hp_new W (.cells #[.int .i64 1, .string ⟨#[]⟩, .string ⟨#[97]⟩, .slice none 0 0, .string ⟨#[]⟩, .int .i64 2, .string ⟨#[]⟩, .string ⟨#[97]⟩, .slice none 0 0, .string ⟨#[]⟩] 40)
    have := right_c _ 2 2 [evA, evC] _ (live40_lit evA evC (by simp) (by simp) _ _ _ _ _ hq rfl) (by omega) (live40_le _ _ (by simp) (by simp)) (hW.below kb)
    rw [live40_2] at this
    exact this.mono fun e w' ⟨he, hb2⟩ => ⟨he, kb.trans (hb2.mono kb.size)⟩
  have z0 := cell_of 0 J0.out.2
  have z1 := cell_of 1 J0.out.2
  clear ka hW
  go_enter Tryd.func12, Tryd.ntmps12
  go_wp2_with fail
  refine C1.out.mono ?_
  rintro e w1 ⟨rfl, hb⟩
  have J2 := Lib.hid (J1.out.kept hb)
  have C3 := Lib.hid (C2.out w1 J2.out.1)
  clear hb z0 z1 C1 C2
  have z0 := cell_of 0 J2.out.2
  have z1 := cell_of 1 J2.out.2
  go_wp2_with fail
  refine C3.out.mono ?_
  rintro e w2 ⟨rfl, hb⟩
  have HB := Lib.hid hb
  clear hb
  go_wp2
  go_ret
  exact ⟨rfl, HB.out⟩
set_option maxRecDepth 100000 in
set_option maxHeartbeats 8000000 in
theorem checkOnes_walk (v : EvV) (w : World) (h : RRd cA 3 w w.heap.size v.A v.n v.c v.e.ats) (hle : EvLe 1048576 v) (hW : WC w) :
    Calls Tryd.prog 4 #[.agg v.cells.toArray] w fun e w' => e = .returned (.bool true) ∧ Below w.heap.size w w' := by
  obtain ⟨⟨k, sp, lo, ats, tx⟩, A, n, cap⟩ := v
  simp only at h
  show Calls Tryd.prog 4 #[.agg #[.int .i64 k, .string ⟨sp.toArray⟩, .string ⟨lo.toArray⟩, .slice A n cap, .string ⟨tx.toArray⟩]] w fun e w' => e = .returned (.bool true) ∧ Below w.heap.size w w'
  have HP : Hid (∀ W, Below w.heap.size w W → RRd cA 3 W W.heap.size A n cap ats) := Lib.hid fun W hb => (h.below hb).more hb.size
  have LV : Hid (∀ W, Below w.heap.size w W → Calls Tryd.prog 12 #[] W fun e w' => e = .returned (.bool true) ∧ Below W.heap.size W w') := Lib.hid fun W hb => live40_c W (hW.below hb)
  have HWW : Hid (∀ W, Below w.heap.size w W → WC W) := Lib.hid fun W hb => hW.below hb
  have J0 := Lib.hid (CJ.start 40 w #[.int .i64 k, .string ⟨sp.toArray⟩, .string ⟨lo.toArray⟩, .slice A n cap, .string ⟨tx.toArray⟩])
  have ka := (Below.refl (w.alloc (.cells #[.int .i64 k, .string ⟨sp.toArray⟩, .string ⟨lo.toArray⟩, .slice A n cap, .string ⟨tx.toArray⟩] 40)).heap.size (w.alloc (.cells #[.int .i64 k, .string ⟨sp.toArray⟩, .string ⟨lo.toArray⟩, .slice A n cap, .string ⟨tx.toArray⟩] 40))).alloc (Nat.le_refl _) (.cells #[.int .i64 k, .string ⟨sp.toArray⟩, .string ⟨lo.toArray⟩, .slice A n cap, .string ⟨tx.toArray⟩] 40)
  have J1 := Lib.hid (J0.out.kept ka)
  have hnum : ats.length = n := h.len
  have CG : Hid (Calls Tryd.prog 6 #[.slice (some ⟨w.heap.size + 1, 0, none⟩) 1 1] ((w.alloc (.cells #[.int .i64 k, .string ⟨sp.toArray⟩, .string ⟨lo.toArray⟩, .slice A n cap, .string ⟨tx.toArray⟩] 40)).alloc (.cells #[.int .i64 k, .string ⟨sp.toArray⟩, .string ⟨lo.toArray⟩, .slice A n cap, .string ⟨tx.toArray⟩] 40)) fun e w' => e = .returned (.bool (greatE ([(⟨⟨k, sp, lo, ats, tx⟩, A, n, cap⟩ : EvV)].map EvV.e))) ∧ Below ((w.alloc (.cells #[.int .i64 k, .string ⟨sp.toArray⟩, .string ⟨lo.toArray⟩, .slice A n cap, .string ⟨tx.toArray⟩] 40)).alloc (.cells #[.int .i64 k, .string ⟨sp.toArray⟩, .string ⟨lo.toArray⟩, .slice A n cap, .string ⟨tx.toArray⟩] 40)).heap.size ((w.alloc (.cells #[.int .i64 k, .string ⟨sp.toArray⟩, .string ⟨lo.toArray⟩, .slice A n cap, .string ⟨tx.toArray⟩] 40)).alloc (.cells #[.int .i64 k, .string ⟨sp.toArray⟩, .string ⟨lo.toArray⟩, .slice A n cap, .string ⟨tx.toArray⟩] 40)) w') := Lib.hid (by
    have hq := hp_new (w.alloc (.cells #[.int .i64 k, .string ⟨sp.toArray⟩, .string ⟨lo.toArray⟩, .slice A n cap, .string ⟨tx.toArray⟩] 40)) (.cells #[.int .i64 k, .string ⟨sp.toArray⟩, .string ⟨lo.toArray⟩, .slice A n cap, .string ⟨tx.toArray⟩] 40)
    rw [World.size_alloc] at hq
    exact refGreat_c _ 1 1 [(⟨⟨k, sp, lo, ats, tx⟩, A, n, cap⟩ : EvV)] _ (ERd.lit _ 1 hq rfl rfl (by omega) fun v hv => by
      rw [List.mem_singleton] at hv
      subst hv
      exact HP.out _ J1.out.1) (by omega) fun v hv => by
        rw [List.mem_singleton] at hv
        subst hv
        exact hle)
  have z0 := cell_of 0 J0.out.2
  have z1 := cell_of 1 J0.out.2
  have z2 := cell_of 2 J0.out.2
  have z3 := cell_of 3 J0.out.2
  have z4 := cell_of 4 J0.out.2
  clear ka h hle hW
  cases hg : greatE ([(⟨⟨k, sp, lo, ats, tx⟩, A, n, cap⟩ : EvV)].map EvV.e) with
  | true =>
    rw [hg] at CG
    clear hg hnum
    go_enter Tryd.func4, Tryd.ntmps4
    go_wp2_with fail
    refine CG.out.mono ?_
    rintro e w1 ⟨rfl, hb⟩
    have J2 := Lib.hid (J1.out.kept hb)
    clear hb CG
    go_wp2_with fail
    refine (LV.out _ J2.out.1).mono ?_
    rintro e w2 ⟨rfl, hb⟩
    have HB2 := Lib.hid (J2.out.1.trans (hb.mono J2.out.1.size))
    clear hb
    go_wp2
    go_ret
    exact ⟨rfl, HB2.out⟩
  | false =>
    rw [hg] at CG
    have hsm := (greatE_no hg (fun v hv => by rw [List.mem_singleton] at hv; subst hv; exact hnum)).2 _ List.mem_cons_self
    have JJ : ∀ W W', Hid (CJ 40 w W #[.int .i64 k, .string ⟨sp.toArray⟩, .string ⟨lo.toArray⟩, .slice A n cap, .string ⟨tx.toArray⟩]) → Below W.heap.size W W' → Hid (CJ 40 w W' #[.int .i64 k, .string ⟨sp.toArray⟩, .string ⟨lo.toArray⟩, .slice A n cap, .string ⟨tx.toArray⟩]) ∧ W'.cell? ⟨w.heap.size, 0, none⟩ = some (.int .i64 k) ∧ W'.cell? ⟨w.heap.size, 1, none⟩ = some (.string ⟨sp.toArray⟩) ∧ W'.cell? ⟨w.heap.size, 2, none⟩ = some (.string ⟨lo.toArray⟩) ∧ W'.cell? ⟨w.heap.size, 3, none⟩ = some (.slice A n cap) ∧ W'.cell? ⟨w.heap.size, 4, none⟩ = some (.string ⟨tx.toArray⟩) := fun W W' hJ hb =>
      ⟨Lib.hid (hJ.out.kept hb), cell_of 0 (hJ.out.kept hb).2, cell_of 1 (hJ.out.kept hb).2, cell_of 2 (hJ.out.kept hb).2, cell_of 3 (hJ.out.kept hb).2, cell_of 4 (hJ.out.kept hb).2⟩
    have C1 : Hid (∀ W, Hid (CJ 40 w W #[.int .i64 k, .string ⟨sp.toArray⟩, .string ⟨lo.toArray⟩, .slice A n cap, .string ⟨tx.toArray⟩]) → Calls Tryd.prog 13 #[.agg #[.int .i64 k, .string ⟨sp.toArray⟩, .string ⟨lo.toArray⟩, .slice A n cap, .string ⟨tx.toArray⟩]] W fun e w' => e = .returned (.int .i64 (oneE ⟨k, sp, lo, ats, tx⟩ : Nat)) ∧ Hid (CJ 40 w w' #[.int .i64 k, .string ⟨sp.toArray⟩, .string ⟨lo.toArray⟩, .slice A n cap, .string ⟨tx.toArray⟩]) ∧ w'.cell? ⟨w.heap.size, 0, none⟩ = some (.int .i64 k) ∧ w'.cell? ⟨w.heap.size, 1, none⟩ = some (.string ⟨sp.toArray⟩) ∧ w'.cell? ⟨w.heap.size, 2, none⟩ = some (.string ⟨lo.toArray⟩) ∧ w'.cell? ⟨w.heap.size, 3, none⟩ = some (.slice A n cap) ∧ w'.cell? ⟨w.heap.size, 4, none⟩ = some (.string ⟨tx.toArray⟩)) := Lib.hid fun W hJ =>
      (ckOne5_c k sp lo tx A n cap ats W (HP.out _ hJ.out.1) hsm (HWW.out _ hJ.out.1)).mono fun e w' ⟨he, hb⟩ => ⟨he, JJ W w' hJ hb⟩
    have C2 : Hid (∀ W, Hid (CJ 40 w W #[.int .i64 k, .string ⟨sp.toArray⟩, .string ⟨lo.toArray⟩, .slice A n cap, .string ⟨tx.toArray⟩]) → Calls Tryd.prog 14 #[.agg #[.int .i64 k, .string ⟨sp.toArray⟩, .string ⟨lo.toArray⟩, .slice A n cap, .string ⟨tx.toArray⟩]] W fun e w' => e = .returned (.int .i64 (oneE ⟨k, sp, lo, ats, tx⟩ : Nat)) ∧ Hid (CJ 40 w w' #[.int .i64 k, .string ⟨sp.toArray⟩, .string ⟨lo.toArray⟩, .slice A n cap, .string ⟨tx.toArray⟩]) ∧ w'.cell? ⟨w.heap.size, 0, none⟩ = some (.int .i64 k) ∧ w'.cell? ⟨w.heap.size, 1, none⟩ = some (.string ⟨sp.toArray⟩) ∧ w'.cell? ⟨w.heap.size, 2, none⟩ = some (.string ⟨lo.toArray⟩) ∧ w'.cell? ⟨w.heap.size, 3, none⟩ = some (.slice A n cap) ∧ w'.cell? ⟨w.heap.size, 4, none⟩ = some (.string ⟨tx.toArray⟩)) := Lib.hid fun W hJ =>
      (refOne5_c k sp lo tx A n cap ats W (HP.out _ hJ.out.1) hsm).mono fun e w' ⟨he, hb⟩ => ⟨he, JJ W w' hJ hb⟩
    have C3 : Hid (∀ W, Hid (CJ 40 w W #[.int .i64 k, .string ⟨sp.toArray⟩, .string ⟨lo.toArray⟩, .slice A n cap, .string ⟨tx.toArray⟩]) → Calls Tryd.prog 12 #[] W fun e w' => e = .returned (.bool true) ∧ Hid (CJ 40 w w' #[.int .i64 k, .string ⟨sp.toArray⟩, .string ⟨lo.toArray⟩, .slice A n cap, .string ⟨tx.toArray⟩]) ∧ w'.cell? ⟨w.heap.size, 0, none⟩ = some (.int .i64 k) ∧ w'.cell? ⟨w.heap.size, 1, none⟩ = some (.string ⟨sp.toArray⟩) ∧ w'.cell? ⟨w.heap.size, 2, none⟩ = some (.string ⟨lo.toArray⟩) ∧ w'.cell? ⟨w.heap.size, 3, none⟩ = some (.slice A n cap) ∧ w'.cell? ⟨w.heap.size, 4, none⟩ = some (.string ⟨tx.toArray⟩)) := Lib.hid fun W hJ =>
      (LV.out W hJ.out.1).mono fun e w' ⟨he, hb⟩ => ⟨he, JJ W w' hJ hb⟩
    have HFB : ∀ W, Hid (CJ 40 w W #[.int .i64 k, .string ⟨sp.toArray⟩, .string ⟨lo.toArray⟩, .slice A n cap, .string ⟨tx.toArray⟩]) → Below w.heap.size w W := fun W h => h.out.1
    clear hg hnum hsm LV
    generalize oneE ⟨k, sp, lo, ats, tx⟩ = R at *
    go_enter Tryd.func4, Tryd.ntmps4
    go_wp2_with fail
    refine CG.out.mono ?_
    rintro e w1 ⟨rfl, hb⟩
    obtain ⟨J2, z0, z1, z2, z3, z4⟩ := JJ _ w1 J1 hb
    have d0 : w1.drew.cell? ⟨w.heap.size, 0, none⟩ = some (.int .i64 k) := z0
    have d1 : w1.drew.cell? ⟨w.heap.size, 1, none⟩ = some (.string ⟨sp.toArray⟩) := z1
    have d2 : w1.drew.cell? ⟨w.heap.size, 2, none⟩ = some (.string ⟨lo.toArray⟩) := z2
    have d3 : w1.drew.cell? ⟨w.heap.size, 3, none⟩ = some (.slice A n cap) := z3
    have d4 : w1.drew.cell? ⟨w.heap.size, 4, none⟩ = some (.string ⟨tx.toArray⟩) := z4
    have J2d : Hid (CJ 40 w w1.drew #[.int .i64 k, .string ⟨sp.toArray⟩, .string ⟨lo.toArray⟩, .slice A n cap, .string ⟨tx.toArray⟩]) := Lib.hid ⟨below_drewN' (n := 1) J2.out.1, J2.out.2⟩
    clear hb CG J0 J1
    go_wp2_with fail
    go_region_held3 (fun w' => w'.cell? ⟨w.heap.size, 0, none⟩ = some (.int .i64 k) ∧ w'.cell? ⟨w.heap.size, 1, none⟩ = some (.string ⟨sp.toArray⟩) ∧ w'.cell? ⟨w.heap.size, 2, none⟩ = some (.string ⟨lo.toArray⟩) ∧ w'.cell? ⟨w.heap.size, 3, none⟩ = some (.slice A n cap) ∧ w'.cell? ⟨w.heap.size, 4, none⟩ = some (.string ⟨tx.toArray⟩) ∧ Hid (CJ 40 w w' #[.int .i64 k, .string ⟨sp.toArray⟩, .string ⟨lo.toArray⟩, .slice A n cap, .string ⟨tx.toArray⟩])) (first | exact ⟨by assumption, by assumption, by assumption, by assumption, by assumption, by assumption⟩) (first
      | (go_at_call 13; refine (C1.out _ (by assumption)).mono ?_; rintro e W2 ⟨rfl, HQ2, g0, g1, g2, g3, g4⟩)
      | (go_at_call 14; refine (C2.out _ (by assumption)).mono ?_; rintro e W2 ⟨rfl, HQ2, g0, g1, g2, g3, g4⟩)
      | (go_at_call 12; refine (C3.out _ (by assumption)).mono ?_; rintro e W2 ⟨rfl, HQ2, g0, g1, g2, g3, g4⟩))
    all_goals
      go_wp2
      go_ret
      exact ⟨rfl, HFB _ (by assumption)⟩
set_option maxRecDepth 100000 in
set_option maxHeartbeats 8000000 in
theorem checkAlls_walk (A : Option Addr) (n cap : Nat) (vs : List EvV) (w : World) (h : ERd w w.heap.size A n cap vs) (hm : n ≤ 1048576) (hle : ∀ v ∈ vs, EvLe 1048576 v) (hW : WC w) :
    Calls Tryd.prog 5 #[.slice A n cap] w fun e w' => e = .returned (.bool true) ∧ Below w.heap.size w w' := by
  have HP : Hid (∀ W, Below w.heap.size w W → ERd W W.heap.size A n cap vs) := Lib.hid fun W hb => (h.below hb).more hb.size
  have LV : Hid (∀ W, Below w.heap.size w W → Calls Tryd.prog 12 #[] W fun e w' => e = .returned (.bool true) ∧ Below W.heap.size W w') := Lib.hid fun W hb => live40_c W (hW.below hb)
  have CG := Lib.hid (refGreat_c A n cap vs w h hm hle)
  have hnum : vs.length = n := h.row.len
  have hats : ∀ v ∈ vs, v.e.ats.length = v.n := fun v hv => (h.ats v hv).len
  cases hg : greatE (vs.map EvV.e) with
  | true =>
    rw [hg] at CG
    clear hg hnum h hle hW hats
    go_enter Tryd.func5, Tryd.ntmps5
    go_wp2_with fail
    refine CG.out.mono ?_
    rintro e w1 ⟨rfl, hb⟩
    have HB1 := Lib.hid hb
    clear hb CG
    go_wp2_with fail
    refine (LV.out _ HB1.out).mono ?_
    rintro e w2 ⟨rfl, hb⟩
    have HB2 := Lib.hid (HB1.out.trans (hb.mono HB1.out.size))
    clear hb
    go_wp2
    go_ret
    exact ⟨rfl, HB2.out⟩
  | false =>
    rw [hg] at CG
    obtain ⟨hl, hsm⟩ := greatE_no hg hats
    have C1 : Hid (∀ W, Below w.heap.size w W → Calls Tryd.prog 15 #[.slice A n cap] W fun e w' => e = .returned (.tuple #[.int .i64 ((checkE (vs.map EvV.e)).1 : Nat), .int .i64 ((checkE (vs.map EvV.e)).2 : Nat)]) ∧ Below W.heap.size W w') := Lib.hid fun W hb => check_c A n cap vs W (HP.out W hb) (by omega) hsm (hW.below hb)
    have C2 : Hid (∀ W, Below w.heap.size w W → Calls Tryd.prog 16 #[.slice A n cap] W fun e w' => e = .returned (.tuple #[.int .i64 ((checkE (vs.map EvV.e)).1 : Nat), .int .i64 ((checkE (vs.map EvV.e)).2 : Nat)]) ∧ Below W.heap.size W w') := Lib.hid fun W hb => refCheck_c A n cap vs W (HP.out W hb) (by omega) hsm
    have C3 : Hid (∀ W, Below w.heap.size w W → Calls Tryd.prog 17 #[.slice A n cap] W fun e w' => e = .returned (.bool (((checkE (vs.map EvV.e)).2 : Int) == 0)) ∧ Below W.heap.size W w') := Lib.hid fun W hb => right_c A n cap vs W (HP.out W hb) (by omega) hsm (hW.below hb)
    clear hg hnum h hle hW hats hl hsm
    generalize checkE (vs.map EvV.e) = R at *
    obtain ⟨R1, R2⟩ := R
    simp only at C1 C2 C3
    obtain ⟨z, hz⟩ : ∃ z, ((R2 : Int) == 0) = z := ⟨_, rfl⟩
    rw [hz] at C3
    go_enter Tryd.func5, Tryd.ntmps5
    go_wp2_with fail
    refine CG.out.mono ?_
    rintro e w1 ⟨rfl, hb⟩
    have HB1 := Lib.hid hb
    clear hb CG
    go_wp2_with fail
    refine (C1.out _ HB1.out).mono ?_
    rintro e w2 ⟨rfl, hb⟩
    have HB2 := Lib.hid (HB1.out.trans (hb.mono HB1.out.size))
    clear hb
    go_wp2_with fail
    refine (C2.out _ HB2.out).mono ?_
    rintro e w3 ⟨rfl, hb⟩
    have HB3 := Lib.hid (HB2.out.trans (hb.mono HB2.out.size))
    clear hb
    go_wp2_with fail
    refine (C3.out _ HB3.out).mono ?_
    rintro e w4 ⟨rfl, hb⟩
    have HB4 := Lib.hid (HB3.out.trans (hb.mono HB3.out.size))
    clear hb
    go_wp2_with fail
    refine (LV.out _ HB4.out).mono ?_
    rintro e w5 ⟨rfl, hb⟩
    have HB5 := Lib.hid (HB4.out.trans (hb.mono HB4.out.size))
    clear hb
    go_wp2
    go_ret
    exact ⟨rfl, HB5.out⟩
end Go.Proofs.YtocbofeanfdggaaDoor
