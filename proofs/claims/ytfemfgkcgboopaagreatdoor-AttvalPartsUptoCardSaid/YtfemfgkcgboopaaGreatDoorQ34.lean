/- Texts of ours, joined: GsK. -/
import Derived.Test.YtfemfgkcgboopaaGreatDoorRows
import Derived.WalkKit
import Derived.ProofKit
import Derived.OpenShut
import Derived.ShutString
import Derived.ChangeOld
import Derived.Below
import Derived.BigQuiet
import Derived.Deep.QuietTactic
import Derived.Lib.Hide
import Derived.Deep.RegionHeld3
import Derived.Lib.SlBytesConst
import Derived.Laws.CopyOwn
import Derived.Laws.CopyRow
import Derived.Lib.Bytes
import Derived.Deep.LoopGhost
import Derived.Deep.DeepFit
import Derived.Deep.DeepMust
import Derived.WalkSpells
import Derived.WalkLawsBesides
import Derived.Laws.EntriesVeiled
import Derived.Laws.Rows
import Derived.Maps.OwnOps
import Derived.Maps.OwnSet
import Derived.Maps.Views
import Derived.Maps.AppendAt
import Derived.Deep.AppendLies
import Derived.DeepKeys4
import Derived.MapViews
import Derived.Maps.Keyed
import Derived.Deep.RegionLaw
import Derived.Deep.RegionWith
import Derived.StillTailTactics
import Derived.Deep.CutRange
import Derived.Test.YtfemfgkcgboopaaGreatDoorQ1
import Derived.Test.YtfemfgkcgboopaaGreatDoorQ13
import Derived.Test.YtfemfgkcgboopaaGreatDoorQ16
import Derived.Test.YtfemfgkcgboopaaGreatDoorQ2
import Derived.Test.YtfemfgkcgboopaaGreatDoorQ3
import Derived.Test.YtfemfgkcgboopaaGreatDoorQ4
import Derived.Test.YtfemfgkcgboopaaGreatDoorQ9
import Derived.Test.YtfemfgkcgboopaaGreatDoorQ15
import Derived.Test.YtfemfgkcgboopaaGreatDoorQ14
import Derived.Test.YtfemfgkcgboopaaGreatDoorQ10
import Derived.Test.YtfemfgkcgboopaaGreatDoorQ17
import Derived.Test.YtfemfgkcgboopaaGreatDoorQ23
import Derived.Test.YtfemfgkcgboopaaGreatDoorQ24
import Derived.Test.YtfemfgkcgboopaaGreatDoorQ19
import Derived.Test.YtfemfgkcgboopaaGreatDoorQ20
import Derived.Test.YtfemfgkcgboopaaGreatDoorQ32
import Derived.Test.YtfemfgkcgboopaaGreatDoorQ26
import Derived.Test.YtfemfgkcgboopaaGreatDoorQ33
/- The costs of all entities. -/
namespace Go.Proofs.YtfemfgkcgboopaaGreatDoor
open Go.ChangeShapes Go.WideShapes Go.ChangeAt Go.RowKit
set_option linter.unusedVariables false
def zeroZ : Nat × Nat × Nat := (0, 0, 0)
theorem zeros_flat (n : Nat) : (List.replicate n zeroZ).flatMap cZ = List.replicate (n * 3) (.int .i64 0) := by
  induction n with
  | zero => rfl
  | succ n ih =>
    rw [List.replicate_succ, List.flatMap_cons, ih, show (n + 1) * 3 = n * 3 + 1 + 1 + 1 by omega, List.replicate_succ, List.replicate_succ, List.replicate_succ]
    rfl
theorem made3 (k : Nat) (x : Value) : madeCells #[x, x, x] k = (List.replicate k x).toArray := by
  apply Array.ext
  · simp [madeCells]
  · intro i h1 h2
    have h3 : i % 3 < 3 := Nat.mod_lt _ (by decide)
    simp only [madeCells, Array.getElem_map, Array.getElem_range, List.getElem_toArray, List.getElem_replicate]
    rcases (show i % 3 = 0 ∨ i % 3 = 1 ∨ i % 3 = 2 by omega) with h | h | h <;> simp [h]
theorem mk_size (w : World) (n : Nat) (hn : n ≤ 100000) : (Instr.makeSlice 52 (.int .i64 (n : Int)) (.int .i64 (n : Int))).run Tryz.prog w = .ok (.slice (some ⟨w.heap.size, 0, none⟩) n n) (w.alloc (.cells ((List.replicate n zeroZ).flatMap cZ).toArray 27)) := by
  have h : (Tryz.prog.info? 27).map (fun i => (i.zero, i.size, i.bytes)) = some (some (.agg #[.int .i64 0, .int .i64 0, .int .i64 0]), 3, 24) := by kernel_rfl
  obtain ⟨i, h1, h2, h3, h4⟩ := info_parts h
  have := run_make (P := Tryz.prog) w 52 27 i (.agg #[.int .i64 0, .int .i64 0, .int .i64 0]) Tryz.underlying52 h1 h2 .i64 .i64 (n : Int) (n : Int) (by omega) (by omega) (by rw [h4]; omega) (by omega)
  rw [h3, Int.toNat_natCast, show (Value.agg #[.int .i64 0, .int .i64 0, .int .i64 0]).cells = #[.int .i64 0, .int .i64 0, .int .i64 0] from rfl, made3, ← zeros_flat] at this
  exact this
def noEn : EntT := ⟨[], [], false, [], [], []⟩
/-- One round over the entities: what each costs by what is known so far. -/
def rowsZ (g : List EntT) (zc : List Nat) : Nat → List Nat
  | 0 => zc
  | k + 1 => (rowsZ g zc k).set k (costT g (rowsZ g zc k) ((g[k]?.getD noEn).tx))
def roundsZ (g : List EntT) : Nat → List Nat
  | 0 => List.replicate g.length 0
  | m + 1 => rowsZ g (roundsZ g m) g.length
theorem rowsZ_len (g : List EntT) (zc : List Nat) (k : Nat) : (rowsZ g zc k).length = zc.length := by
  induction k with
  | zero => rfl
  | succ k ih => rw [rowsZ, List.length_set, ih]
theorem roundsZ_len (g : List EntT) (m : Nat) : (roundsZ g m).length = g.length := by
  induction m with
  | zero => simp [roundsZ]
  | succ m ih => rw [roundsZ, rowsZ_len, ih]
/-- Sizes in a block of the call's own. -/
def ZJ (Z : Nat) (zs : List (Nat × Nat × Nat)) (w W : World) : Prop := Below Z w W ∧ W.heap[Z]? = some (.cells (zs.flatMap cZ).toArray 27 (0, 0))
theorem ZJ.kept {Z : Nat} {zs : List (Nat × Nat × Nat)} {w W W' : World} (h : ZJ Z zs w W) (hb : Below W.heap.size W W') : ZJ Z zs w W' := ⟨h.1.trans (hb.mono (Nat.le_of_lt (lt_of h.2))), (hb.block _ (lt_of h.2)).trans h.2⟩
theorem ZJ.row {Z n : Nat} {zs : List (Nat × Nat × Nat)} {w W : World} (h : ZJ Z zs w W) (hn : zs.length = n) (hm : n ≤ 100000) : RRd cZ 3 W W.heap.size (some ⟨Z, 0, none⟩) n n zs :=
  ⟨hn, Nat.le_refl _, by unfold maxLen; omega, (fun e => by cases e), fun _ => ⟨Z, 0, rfl, lt_of h.2, fun i x hx j u hu => by
    have h1 := flat_get (c := cZ) (k := 3) (fun _ => rfl) zs i x hx j u hu
    rw [cell_of _ h.2, Nat.zero_add, List.getElem?_toArray]
    exact h1⟩⟩
theorem flat_set3 : ∀ (zs : List (Nat × Nat × Nat)) (k : Nat) (z : Nat × Nat × Nat), k < zs.length → (((zs.flatMap cZ).set (k * 3) (.int .i64 (z.1 : Nat))).set (k * 3 + 1) (.int .i64 (z.2.1 : Nat))).set (k * 3 + 2) (.int .i64 (z.2.2 : Nat)) = (zs.set k z).flatMap cZ
  | [], k, z, h => by simp at h
  | y :: zs, 0, z, h => by simp [cZ]
  | y :: zs, k + 1, z, h => by
    have ih := flat_set3 zs k z (by simpa using h)
    rw [List.flatMap_cons, List.set_cons_succ, List.flatMap_cons, ← ih]
    have e : (k + 1) * 3 = k * 3 + 1 + 1 + 1 := by omega
    rw [e]
    simp only [cZ, List.cons_append, List.nil_append, List.set_cons_succ]
theorem ZJ.put {Z k : Nat} {zs : List (Nat × Nat × Nat)} {w W : World} (h : ZJ Z zs w W) (hk : k < zs.length) (a b c : Nat) : ZJ Z (zs.set k (a, b, c)) w (((W.setCell ⟨Z, k * 3, none⟩ (.int .i64 (a : Nat))).setCell ⟨Z, k * 3 + 1, none⟩ (.int .i64 (b : Nat))).setCell ⟨Z, k * 3 + 2, none⟩ (.int .i64 (c : Nat))) := by
  refine ⟨((h.1.setCell (p := ⟨Z, _, none⟩) (Nat.le_refl _) _).setCell (p := ⟨Z, _, none⟩) (Nat.le_refl _) _).setCell (p := ⟨Z, _, none⟩) (Nat.le_refl _) _, ?_⟩
  rw [hp_set (hp_set (hp_set h.2)), List.setIfInBounds_toArray, List.setIfInBounds_toArray, List.setIfInBounds_toArray]
  rw [← flat_set3 zs k (a, b, c) hk]
theorem ZJ.cells {Z k : Nat} {zs : List (Nat × Nat × Nat)} {w W : World} (h : ZJ Z zs w W) (hk : k < zs.length) : ∃ a b c : Nat, W.cell? ⟨Z, k * 3, none⟩ = some (.int .i64 (a : Nat)) ∧ W.cell? ⟨Z, k * 3 + 1, none⟩ = some (.int .i64 (b : Nat)) ∧ W.cell? ⟨Z, k * 3 + 2, none⟩ = some (.int .i64 (c : Nat)) := by
  have hx := List.getElem?_eq_getElem hk
  have h1 := fun j u hu => flat_get (c := cZ) (k := 3) (fun _ => rfl) zs k _ hx j u hu
  refine ⟨zs[k].1, zs[k].2.1, zs[k].2.2, ?_, ?_, ?_⟩
  · rw [cell_of _ h.2, List.getElem?_toArray]; have := h1 0 _ rfl; simpa using this
  · rw [cell_of _ h.2, List.getElem?_toArray]; have := h1 1 _ rfl; simpa using this
  · rw [cell_of _ h.2, List.getElem?_toArray]; have := h1 2 _ rfl; simpa using this
set_option maxRecDepth 100000 in
set_option maxHeartbeats 16000000 in
/-- ref20.All. -/
theorem rfSizes_c (A : Option Addr) (n cap : Nat) (l : List EntT) (w : World) (h : RRd cE 6 w w.heap.size A n cap l) (hm : n ≤ 100) (hx : ∀ x ∈ l, x.tx.length ≤ 20000) :
    Calls Tryz.prog 21 #[.slice A n cap] w fun e w' => ∃ (Z : Nat) (zs : List (Nat × Nat × Nat)), e = .returned (.slice (some ⟨Z, 0, none⟩) (innerE l).length (innerE l).length) ∧ zs.map (·.1) = roundsZ (innerE l) ((innerE l).length + 1) ∧ (∀ z ∈ zs, z.1 ≤ 9223372036854775807 ∧ z.2.1 ≤ 9223372036854775807 ∧ z.2.2 ≤ 20000) ∧ RRd cZ 3 w' w'.heap.size (some ⟨Z, 0, none⟩) (innerE l).length (innerE l).length zs ∧ Below w.heap.size w w' := by
  have CI := Lib.hid (rfInner_c A n cap l w h (by omega))
  have hil := inner_len l []
  have hln := h.len
  have hin : (innerE l).length ≤ 100 := by
    have : (innerE l).length ≤ l.length := by simpa [innerE] using hil
    omega
  have HXS : Hid (∀ x ∈ innerE l, x.tx.length ≤ 20000) := Lib.hid fun x hx2 => hx x ((inner_sub l [] x (fun _ h => h) hx2).resolve_right (fun h => by cases h))
  clear h hx hil hln
  generalize innerE l = g at *
  obtain ⟨m, hm9⟩ : ∃ m, g.length = m := ⟨_, rfl⟩
  have HM := Lib.hid hm9
  rw [hm9] at CI hin
  rw [hm9]
  clear hm9
  go_enter Tryz.func21, Tryz.ntmps21
  go_wp2_with fail
  refine CI.out.mono ?_
  rintro e w1 ⟨OA, oc, rfl, ho, hb1⟩
  rw [← HM.out] at ho
  obtain ⟨A1, c1, hv1, hr1⟩ := OwnC.rrd (c := cE) (k := 6) (fun _ => rfl) (by decide) ho
  cases hv1
  have KB := Lib.hid hb1
  have HP : Hid (∀ W, Below w1.heap.size w1 W → RRd cE 6 W W.heap.size OA g.length oc g) := Lib.hid fun W hb => (hr1.below hb).more hb.size
  rw [HM.out] at HP
  have mk := mk_size w1 m (by omega)
  have HZ0 : Hid (ZJ w1.heap.size (List.replicate m zeroZ) w1 (w1.alloc (.cells ((List.replicate m zeroZ).flatMap cZ).toArray 27))) := Lib.hid ⟨(Below.refl _ _).alloc (Nat.le_refl _) _, hp_new _ _⟩
  clear CI ho hb1 hr1
  obtain ⟨Z, hZ⟩ : ∃ Z, w1.heap.size = Z := ⟨_, rfl⟩
  rw [hZ] at mk HZ0
  go_wp2_with fail
  clear mk
  generalize ((List.replicate m zeroZ).flatMap cZ).toArray = C0 at *
  go_loopg [5] (m + 1) (fun gg nv wr => ∃ (t : Nat) (zs : List (Nat × Nat × Nat)), nv = .int .i64 (t : Int) ∧ t ≤ m + 1 ∧ Hid (gg + t = m + 1) ∧ Hid (zs.map (·.1) = roundsZ g t) ∧ Hid (∀ z ∈ zs, z.1 ≤ 9223372036854775807 ∧ z.2.1 ≤ 9223372036854775807 ∧ z.2.2 ≤ t * 100) ∧ Hid (ZJ Z zs w1 wr))
  case atStart => exact ⟨0, _, rfl, Nat.zero_le _, Lib.hid rfl, Lib.hid (by rw [List.map_replicate, roundsZ, HM.out]; rfl), Lib.hid (fun z hz => by rw [List.mem_replicate] at hz; rw [hz.2]; exact ⟨Nat.zero_le _, Nat.zero_le _, Nat.zero_le _⟩), HZ0⟩
  case round =>
    clear HZ0
    obtain ⟨t, zs, rfl, ht, hg, HZM, HZB, HZ⟩ := hrel
    have ht0 : (0 : Int) ≤ (t : Int) := by omega
    have ht9 : (t : Int) ≤ 101 := by omega
    by_cases htm : t ≤ m
    · have hti : (t : Int) ≤ (m : Int) := by omega
      have I0 : Hid (zs.map (·.1) = rowsZ g (roundsZ g t) 0) := HZM
      have I1 : Hid (∀ z ∈ zs, z.1 ≤ 9223372036854775807 ∧ z.2.1 ≤ 9223372036854775807 ∧ z.2.2 ≤ t * 100 + 0) := HZB
      go_wp2_with fail
      go_loopg [6] (m) (fun gg nv wr => ∃ (k : Nat) (zs : List (Nat × Nat × Nat)), nv = .int .i64 (k : Int) ∧ k ≤ m ∧ Hid (gg + k = m) ∧ Hid (zs.map (·.1) = rowsZ g (roundsZ g t) k) ∧ Hid (∀ z ∈ zs, z.1 ≤ 9223372036854775807 ∧ z.2.1 ≤ 9223372036854775807 ∧ z.2.2 ≤ t * 100 + k) ∧ Hid (ZJ Z zs w1 wr))
      case atStart => exact ⟨0, zs, rfl, Nat.zero_le _, Lib.hid rfl, I0, I1, HZ⟩
      case round =>
        clear I0 I1 HZ HZM HZB
        obtain ⟨k, zs, rfl, hk, hgk, HZM, HZB, HZ⟩ := hrel
        have hk0 : (0 : Int) ≤ (k : Int) := by omega
        have hk9 : (k : Int) ≤ 100 := by omega
        by_cases hkm : k < m
        · have hki : (k : Int) < (m : Int) := by omega
          have hzl : zs.length = m := by
            have := congrArg List.length HZM.out
            rw [List.length_map, rowsZ_len, roundsZ_len, HM.out] at this
            exact this
          have hbw : Below w1.heap.size w1 wr := by rw [hZ]; exact HZ.out.1
          obtain ⟨b1, o1, x, rfl, hb1, hx, hc1⟩ := (HP.out wr hbw).cell hkm
          have hxl := HXS.out x (List.mem_of_getElem? hx)
          have u1 : wr.cell? ⟨b1, o1 + k * 6 + 1, none⟩ = some (.string ⟨x.tx.toArray⟩) := by rw [show o1 + k * 6 + 1 = o1 + (k * 6 + 1) by omega]; exact hc1 1 _ rfl
          have CT := Lib.hid (rfText_c (some ⟨b1, o1, none⟩) m oc g (some ⟨Z, 0, none⟩) m zs (t * 100 + k) x.tx wr (HP.out wr hbw) (HZ.out.row hzl (by omega)) (by omega) HZB.out (by omega) hxl)
          have HROW : Hid (rowsZ g (roundsZ g t) (k + 1) = (rowsZ g (roundsZ g t) k).set k (costT g (zs.map (·.1)) x.tx)) := Lib.hid (by rw [rowsZ, HZM.out, hx]; rfl)
          have HZL := Lib.hid hzl
          obtain ⟨ct, hct⟩ : ∃ c, costT g (zs.map (·.1)) x.tx = c := ⟨_, rfl⟩
          have hct9 : ct ≤ 9223372036854775807 := by rw [← hct]; exact satN_le _
          rw [hct] at CT HROW
          generalize x.tx = xt at *
          clear hb1 hx hc1 hbw hzl hct
          go_wp2_with fail
          refine CT.out.mono ?_
          rintro e w5 ⟨L, Dd, rfl, hL, hD, hb5⟩
          have HZ5 := Lib.hid (HZ.out.kept hb5)
          obtain ⟨za, zb, zc, y0, y1, y2⟩ := HZ5.out.cells (k := k) (by rw [HZL.out]; exact hkm)
          have q0 := free_of (k * 3) HZ5.out.2
          have q1 := free_of (k * 3 + 1) HZ5.out.2
          have q2 := free_of (k * 3 + 2) HZ5.out.2
          have HZ6 := Lib.hid (HZ5.out.put (k := k) (by rw [HZL.out]; exact hkm) ct L Dd)
          have HZM6 : Hid ((zs.set k (ct, L, Dd)).map (·.1) = rowsZ g (roundsZ g t) (k + 1)) := Lib.hid (by rw [HROW.out, ← HZM.out, List.map_set])
          have HZB6 : Hid (∀ z ∈ zs.set k (ct, L, Dd), z.1 ≤ 9223372036854775807 ∧ z.2.1 ≤ 9223372036854775807 ∧ z.2.2 ≤ t * 100 + (k + 1)) := Lib.hid fun z hz => by
            rcases List.mem_or_eq_of_mem_set hz with h9 | h9
            · have := HZB.out z h9; omega
            · subst h9; simp only; omega
          clear CT hb5 HZ u1 HZ5 hD hL
          go_wp2
          go_roundg (m - (k + 1))
          case measure => have := hgk.out; omega
          case rel => exact ⟨k + 1, _, by go_num, by omega, Lib.hid (by have := hgk.out; omega), HZM6, HZB6, HZ6⟩
        · have hki : ¬ (k : Int) < (m : Int) := by omega
          obtain rfl : k = m := by omega
          have HZM6 : Hid (zs.map (·.1) = roundsZ g (t + 1)) := Lib.hid (by rw [HZM.out, roundsZ, HM.out])
          have HZB6 : Hid (∀ z ∈ zs, z.1 ≤ 9223372036854775807 ∧ z.2.1 ≤ 9223372036854775807 ∧ z.2.2 ≤ (t + 1) * 100) := Lib.hid fun z hz => by have := HZB.out z hz; omega
          go_wp2
          go_roundg (k + 1 - (t + 1))
          case measure => have := hg.out; omega
          case rel => exact ⟨t + 1, zs, by go_num, by omega, Lib.hid (by have := hg.out; omega), HZM6, HZB6, HZ⟩
    · have hti : ¬ (t : Int) ≤ (m : Int) := by omega
      obtain rfl : t = m + 1 := by omega
      have hzl : zs.length = m := by
        have := congrArg List.length HZM.out
        rw [List.length_map, roundsZ_len, HM.out] at this
        exact this
      have HZR := Lib.hid (HZ.out.row hzl (by omega))
      have HBW : Hid (Below w.heap.size w wr) := Lib.hid (KB.out.trans (HZ.out.1.mono (by rw [← hZ]; exact KB.out.size)))
      have HZB6 : Hid (∀ z ∈ zs, z.1 ≤ 9223372036854775807 ∧ z.2.1 ≤ 9223372036854775807 ∧ z.2.2 ≤ 20000) := Lib.hid fun z hz => by have := HZB.out z hz; omega
      clear hzl HZ
      go_wp2
      go_ret
      exact ⟨Z, rfl, zs, HZM.out, (fun a b c h => HZB6.out (a, b, c) h), HZR.out, HBW.out⟩
set_option maxRecDepth 100000 in
set_option maxHeartbeats 8000000 in
/-- ref20.Of. -/
theorem rfCost_c (A : Option Addr) (n cap : Nat) (l : List EntT) (s : List UInt8) (w : World) (h : RRd cE 6 w w.heap.size A n cap l) (hm : n ≤ 100) (hx : ∀ x ∈ l, x.tx.length ≤ 20000) (hs : s.length ≤ 20000) :
    Calls Tryz.prog 8 #[.slice A n cap, .string ⟨s.toArray⟩] w fun e w' => ∃ L Dd : Nat, e = .returned (.agg #[.int .i64 (costT (innerE l) (roundsZ (innerE l) ((innerE l).length + 1)) s : Nat), .int .i64 (L : Nat), .int .i64 (Dd : Nat)]) ∧ Below w.heap.size w w' := by
  have ka := (Below.refl w.heap.size w).alloc (Nat.le_refl _) (.cells #[.int .i64 0, .int .i64 0, .int .i64 0] 27)
  have hq0 := hp_new w (.cells #[.int .i64 0, .int .i64 0, .int .i64 0] 27)
  have HP : Hid (∀ W, Below w.heap.size w W → RRd cE 6 W W.heap.size A n cap l) := Lib.hid fun W hb => (h.below hb).more hb.size
  have CI := Lib.hid (rfInner_c A n cap l _ (HP.out _ ka) (by omega))
  have CS := Lib.hid fun W hW => rfSizes_c A n cap l W (HP.out W hW) hm hx
  have hil := inner_len l []
  have hln := h.len
  have hin : (innerE l).length ≤ 100 := by
    have : (innerE l).length ≤ l.length := by simpa [innerE] using hil
    omega
  have KA := Lib.hid ka
  have HQ0 := Lib.hid hq0
  clear h hx hil hln ka hq0
  obtain ⟨zc, hzc⟩ : ∃ c, costT (innerE l) (roundsZ (innerE l) ((innerE l).length + 1)) s = c := ⟨_, rfl⟩
  have HZC := Lib.hid hzc
  rw [hzc]
  clear hzc
  go_enter Tryz.func8, Tryz.ntmps8
  go_wp2_with fail
  refine CI.out.mono ?_
  rintro e w1 ⟨OA, oc, rfl, ho, hb1⟩
  obtain ⟨A1, c1, hv1, hr1⟩ := OwnC.rrd (c := cE) (k := 6) (fun _ => rfl) (by decide) ho
  cases hv1
  have KB := Lib.hid (KA.out.trans (hb1.mono KA.out.size))
  have HQ1 : Hid (w1.heap[w.heap.size]? = some (.cells #[.int .i64 0, .int .i64 0, .int .i64 0] 27 (0, 0))) := Lib.hid ((hb1.block _ (by simp)).trans HQ0.out)
  have CS1 := Lib.hid (CS.out _ KB.out)
  have HR1 := Lib.hid hr1
  clear CI CS ho hb1 hr1 KA HQ0
  go_wp2_with fail
  refine CS1.out.mono ?_
  rintro e w2 ⟨Z, zs, rfl, hzm, hzb, hzr, hb2⟩
  have KC := Lib.hid (KB.out.trans (hb2.mono KB.out.size))
  have HQ2 : Hid (w2.heap[w.heap.size]? = some (.cells #[.int .i64 0, .int .i64 0, .int .i64 0] 27 (0, 0))) := Lib.hid ((hb2.block _ (lt_of HQ1.out)).trans HQ1.out)
  have CT := rfText_c OA (innerE l).length oc (innerE l) (some ⟨Z, 0, none⟩) (innerE l).length zs 20000 s w2 ((HR1.out.below hb2).more hb2.size) hzr (by omega) hzb (by omega) hs
  rw [hzm, HZC.out] at CT
  have HCT := Lib.hid CT
  clear CT CS1 hzm hzb hzr hb2 HR1 HQ1
  generalize (innerE l).length = m at *
  go_wp2_with fail
  refine HCT.out.mono ?_
  rintro e w3 ⟨L, Dd, rfl, hL, hD, hb3⟩
  have hq3 : w3.heap[w.heap.size]? = some (.cells #[.int .i64 0, .int .i64 0, .int .i64 0] 27 (0, 0)) := (hb3.block _ (lt_of HQ2.out)).trans HQ2.out
  have KD := Lib.hid (KC.out.trans (hb3.mono KC.out.size))
  have hi : (Tryz.prog.info? 27).map (·.size) = some 3 := by kernel_rfl
  obtain ⟨d, hu⟩ := isStruct_of (P := Tryz.prog) (t := 27) (by kernel_rfl)
  have HU := Lib.hid (And.intro hi hu)
  have HQ4 : Hid ((w3.setRow w.heap.size #[.int .i64 ((zc : Nat) : Int), .int .i64 ((L : Nat) : Int), .int .i64 ((Dd : Nat) : Int)]).heap[w.heap.size]? = some (.cells #[.int .i64 ((zc : Nat) : Int), .int .i64 ((L : Nat) : Int), .int .i64 ((Dd : Nat) : Int)] 27 (0, 0))) := Lib.hid (setRow_heap _ _ _ _ _ _ hq3)
  have HBF : Hid (Below w.heap.size w (w3.setRow w.heap.size #[.int .i64 ((zc : Nat) : Int), .int .i64 ((L : Nat) : Int), .int .i64 ((Dd : Nat) : Int)])) := Lib.hid (by
    have hb9 := KD.out
    refine ⟨hb9.os, hb9.tape, hb9.output, ?_, fun k hk => ?_⟩
    · have := hb9.size
      simpa [World.setRow] using this
    · rw [setRow_other _ _ _ _ (by omega)]
      exact hb9.block k hk)
  clear hi hu hb3 HCT hL hD HQ2
  go_wp2_with (first | (refine wpList_store_row rfl _ _ _ rfl w.heap.size #[.int .i64 ((zc : Nat) : Int), .int .i64 ((L : Nat) : Int), .int .i64 ((Dd : Nat) : Int)] rfl rfl _ _ hq3 (by kernel_rfl) rfl (by kernel_rfl) ?_))
  (try simp only [Exit.inBlock, Exit.then])
  exact bodyPost_ret (results_cell_row rfl _ _ w.heap.size _ _ _ _ rfl HQ4.out HU.out.2 rfl HU.out.1) rfl ⟨L, Dd, rfl, HBF.out⟩
end Go.Proofs.YtfemfgkcgboopaaGreatDoor
