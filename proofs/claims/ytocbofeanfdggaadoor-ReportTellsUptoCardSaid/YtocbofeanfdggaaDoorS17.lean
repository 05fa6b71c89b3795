/- Texts of ours, joined: CkC, CkI, CkD, CkJ, CkK. -/
import Derived.Test.YtocbofeanfdggaaDoorRows
import Derived.WalkKit
import Derived.ProofKit
import Derived.OpenShut
import Derived.ShutString
import Derived.ChangeOld
import Derived.Below
import Derived.BigQuiet
import Derived.Deep.QuietTactic
import Derived.Lib.Hide
import Derived.Deep.RegionHeld3
import Derived.Lib.SlBytesConst
import Derived.Laws.CopyOwn
import Derived.Laws.CopyRow
import Derived.Lib.Bytes
import Derived.Deep.LoopGhost
import Derived.Deep.DeepFit
import Derived.Deep.DeepMust
import Derived.WalkSpells
import Derived.WalkLawsBesides
import Derived.Maps.OwnOps
import Derived.Maps.OwnSet
import Derived.Maps.Views
import Derived.Laws.EntriesVeiled
import Derived.Laws.Rows
import Derived.Maps.AppendAt
import Derived.Lib.SmallJoins
import Derived.Deep.AppendLies
import Derived.DeepKeys4
import Derived.MapViews
import Derived.Maps.Keyed
import Derived.WideKeyEntry
import Derived.Deep.RegionWith
import Derived.Test.YtocbofeanfdggaaDoorS1
import Derived.Test.YtocbofeanfdggaaDoorS3
import Derived.Test.YtocbofeanfdggaaDoorS5
import Derived.Test.YtocbofeanfdggaaDoorS4
import Derived.Test.YtocbofeanfdggaaDoorS16
import Derived.Test.YtocbofeanfdggaaDoorS6
import Derived.Deep.RegionLaw
import Derived.Lib.IndexAny
/- check.One, next, Check, Right. -/
namespace Go.Proofs.YtocbofeanfdggaaDoor
open Go.ChangeShapes Go.WideShapes Go.ChangeAt Go.RowKit
set_option linter.unusedVariables false
end Go.Proofs.YtocbofeanfdggaaDoor
/- The document's One (of layer 40), of an event whose parts fit its kind. -/
namespace Go.Proofs.YtocbofeanfdggaaDoor
open Go.ChangeShapes Go.WideShapes Go.ChangeAt Go.RowKit
set_option linter.unusedVariables false
end Go.Proofs.YtocbofeanfdggaaDoor
/- The document's One (of layer 40). -/
namespace Go.Proofs.YtocbofeanfdggaaDoor
open Go.ChangeShapes Go.WideShapes Go.ChangeAt Go.RowKit
set_option linter.unusedVariables false
end Go.Proofs.YtocbofeanfdggaaDoor
/- The document's Check (of layer 40). -/
namespace Go.Proofs.YtocbofeanfdggaaDoor
open Go.ChangeShapes Go.WideShapes Go.ChangeAt Go.RowKit
set_option linter.unusedVariables false
end Go.Proofs.YtocbofeanfdggaaDoor
/- How many bytes events have; what is more than statements ask. -/
namespace Go.Proofs.YtocbofeanfdggaaDoor
open Go.ChangeShapes Go.WideShapes Go.ChangeAt Go.RowKit
set_option linter.unusedVariables false
def lenA (a : List UInt8 × List UInt8 × List UInt8) : Nat := a.1.length + a.2.1.length + a.2.2.length
def sumB : List (List UInt8 × List UInt8 × List UInt8) → Nat
  | [] => 0
  | a :: l => lenA a + sumB l
def bytesE (e : EvT) : Nat := e.sp.length + e.lo.length + e.tx.length + sumB e.ats
def sumE : List EvT → Nat
  | [] => 0
  | e :: l => bytesE e + e.ats.length + sumE l
def greatE (l : List EvT) : Bool := decide (100 < l.length) || decide (5000 < sumE (l.take 200))
theorem sumB_app (l t : List (List UInt8 × List UInt8 × List UInt8)) : sumB (l ++ t) = sumB l + sumB t := by
  induction l with
  | nil => simp [sumB]
  | cons a l ih => rw [List.cons_append, sumB, sumB, ih]; omega
theorem sumE_app (l t : List EvT) : sumE (l ++ t) = sumE l + sumE t := by
  induction l with
  | nil => simp [sumE]
  | cons a l ih => rw [List.cons_append, sumE, sumE, ih]; omega
theorem sumB_snoc {ats : List (List UInt8 × List UInt8 × List UInt8)} {t : Nat} {x : List UInt8 × List UInt8 × List UInt8} (h : ats[t]? = some x) : sumB (ats.take (t + 1)) = sumB (ats.take t) + lenA x := by
  rw [List.take_add_one, h, sumB_app]
  simp [sumB]
theorem sumB_le {B : Nat} : ∀ ats : List (List UInt8 × List UInt8 × List UInt8), (∀ a ∈ ats, lenA a ≤ B) → sumB ats ≤ ats.length * B
  | [], _ => by simp [sumB]
  | a :: l, h => by
    have h1 := h a List.mem_cons_self
    have h2 := sumB_le l fun b hb => h b (List.mem_cons_of_mem _ hb)
    rw [sumB, List.length_cons, Nat.add_mul]
    omega
theorem sumB_mem : ∀ {ats : List (List UInt8 × List UInt8 × List UInt8)} {a : List UInt8 × List UInt8 × List UInt8}, a ∈ ats → lenA a ≤ sumB ats
  | b :: l, a, h => by
    rw [sumB]
    rcases List.mem_cons.1 h with rfl | h
    · omega
    · have := sumB_mem h; omega
theorem sumE_mem : ∀ {l : List EvT} {e : EvT}, e ∈ l → bytesE e + e.ats.length ≤ sumE l
  | b :: l, a, h => by
    rw [sumE]
    rcases List.mem_cons.1 h with rfl | h
    · omega
    · have := sumE_mem h; omega
/-- Events that are not more than statements ask: few, and short. -/
theorem greatE_no {vs : List EvV} (h : greatE (vs.map EvV.e) = false) (hn : ∀ v ∈ vs, v.e.ats.length = v.n) : vs.length ≤ 100 ∧ ∀ v ∈ vs, EvLe 5000 v := by
  unfold greatE at h
  simp only [Bool.or_eq_false_iff, decide_eq_false_iff_not, List.length_map] at h
  have hl : vs.length ≤ 100 := by omega
  refine ⟨hl, fun v hv => ?_⟩
  rw [List.take_of_length_le (by rw [List.length_map]; omega)] at h
  have h1 := sumE_mem (List.mem_map.2 ⟨v, hv, rfl⟩ : v.e ∈ vs.map EvV.e)
  have h2 := hn v hv
  unfold bytesE at h1
  refine ⟨by omega, by omega, by omega, by omega, fun a ha => ?_⟩
  have h3 := sumB_mem ha
  unfold lenA at h3
  omega
theorem lenA_le {b : Nat} {v : EvV} (h : EvLe b v) : ∀ a ∈ v.e.ats, lenA a ≤ 3 * b := fun a ha => by
  have := h.ats a ha
  unfold lenA
  omega
theorem bytesE_le {v : EvV} (h : EvLe 1048576 v) (hn : v.e.ats.length = v.n) : bytesE v.e ≤ 4000000000000 := by
  have h1 := sumB_le v.e.ats (lenA_le h)
  have h2 := h.sp
  have h3 := h.lo
  have h4 := h.tx
  have h5 := h.n
  have h6 : v.e.ats.length * (3 * 1048576) ≤ 1048576 * (3 * 1048576) := Nat.mul_le_mul_right _ (by omega)
  unfold bytesE
  omega
theorem sumE_le : ∀ (vs : List EvV), (∀ v ∈ vs, EvLe 1048576 v ∧ v.e.ats.length = v.n) → sumE (vs.map EvV.e) ≤ vs.length * 4000002000000
  | [], _ => by simp [sumE]
  | v :: l, h => by
    obtain ⟨h1, h2⟩ := h v List.mem_cons_self
    have h3 := sumE_le l fun b hb => h b (List.mem_cons_of_mem _ hb)
    have h4 := bytesE_le h1 h2
    have h5 := h1.n
    rw [List.map_cons, sumE, List.length_cons, Nat.add_mul]
    omega
set_option maxRecDepth 100000 in
set_option maxHeartbeats 8000000 in
theorem refBytes_c (k : Int) (sp lo tx : List UInt8) (A : Option Addr) (n cap : Nat) (ats : List (List UInt8 × List UInt8 × List UInt8)) (w : World) (h : RRd cA 3 w w.heap.size A n cap ats) (hle : EvLe 1048576 ⟨⟨k, sp, lo, ats, tx⟩, A, n, cap⟩) :
    Calls Tryd.prog 18 #[.agg #[.int .i64 k, .string ⟨sp.toArray⟩, .string ⟨lo.toArray⟩, .slice A n cap, .string ⟨tx.toArray⟩]] w fun e w' => e = .returned (.int .i64 (bytesE ⟨k, sp, lo, ats, tx⟩ : Nat)) ∧ Below w.heap.size w w' := by
  have HP : Hid (∀ W, Below w.heap.size w W → RRd cA 3 W W.heap.size A n cap ats) := Lib.hid fun W hb => (h.below hb).more hb.size
  have HLN : Hid (ats.length = n) := Lib.hid h.len
  have h1 : sp.length ≤ 1048576 := hle.sp
  have h2 : lo.length ≤ 1048576 := hle.lo
  have h3 : tx.length ≤ 1048576 := hle.tx
  have h4 : n ≤ 1048576 := hle.n
  have HAL : Hid (∀ a ∈ ats, a.1.length ≤ 1048576 ∧ a.2.1.length ≤ 1048576 ∧ a.2.2.length ≤ 1048576) := Lib.hid hle.ats
  have HSL : Hid (∀ t, sumB (ats.take t) ≤ 4000000000000) := Lib.hid fun t => by
    have g1 := sumB_le (B := 3 * 1048576) (ats.take t) fun a ha => lenA_le hle a (List.mem_of_mem_take ha)
    have g2 : (ats.take t).length ≤ 1048576 := by have := h.len; rw [List.length_take]; omega
    have g3 : (ats.take t).length * (3 * 1048576) ≤ 1048576 * (3 * 1048576) := Nat.mul_le_mul_right _ g2
    omega
  have i1 : (sp.length : Int) ≤ 1048576 := by omega
  have i2 : (lo.length : Int) ≤ 1048576 := by omega
  have i3 : (tx.length : Int) ≤ 1048576 := by omega
  have i4 : (n : Int) ≤ 1048576 := by omega
  have HB0 : Hid (bytesE ⟨k, sp, lo, ats, tx⟩ = sp.length + lo.length + tx.length + sumB (ats.take n)) := Lib.hid (by rw [List.take_of_length_le (by rw [h.len]; exact Nat.le_refl _)]; rfl)
  have J0 := Lib.hid (CJ.start 40 w #[.int .i64 k, .string ⟨sp.toArray⟩, .string ⟨lo.toArray⟩, .slice A n cap, .string ⟨tx.toArray⟩])
  have z0 := cell_of 0 J0.out.2
  have z1 := cell_of 1 J0.out.2
  have z2 := cell_of 2 J0.out.2
  have z4 := cell_of 4 J0.out.2
  obtain ⟨R, hR⟩ : ∃ q, bytesE ⟨k, sp, lo, ats, tx⟩ = q := ⟨_, rfl⟩
  rw [hR] at HB0 ⊢
  obtain ⟨c0, hc0⟩ : ∃ q, sp.length + lo.length + tx.length = q := ⟨_, rfl⟩
  have HC0 : Hid ((sp.length : Int) + (lo.length : Int) + (tx.length : Int) = ((c0 + sumB (ats.take 0) : Nat) : Int)) := Lib.hid (by simp [sumB]; omega)
  rw [hc0] at HB0
  have hc9 : c0 ≤ 4000000 := by omega
  have HC9 := Lib.hid hc9
  clear h hle hR h1 h2 h3 h4 hc0 hc9
  go_enter Tryd.func18, Tryd.ntmps18
  go_wp2
  clear z0 z1 z2 z4 i1 i2 i3
  go_loopg [3, 4] (n) (fun g s i wr => ∃ t : Nat, i = .int .i64 (t : Int) ∧ s = .int .i64 ((c0 + sumB (ats.take t) : Nat) : Int) ∧ t ≤ n ∧ Hid (g + t = n) ∧ Hid (CJ 40 w wr #[.int .i64 k, .string ⟨sp.toArray⟩, .string ⟨lo.toArray⟩, .slice A n cap, .string ⟨tx.toArray⟩]))
  case atStart => exact ⟨0, rfl, by rw [HC0.out], Nat.zero_le _, Lib.hid rfl, J0⟩
  case round =>
    obtain ⟨t, rfl, rfl, ht, hg, HJ⟩ := hrel
    have ht0 : (0 : Int) ≤ (t : Int) := by omega
    have ht9 : (t : Int) ≤ 1048576 := by omega
    have z3 := cell_of 3 HJ.out.2
    by_cases htn : t < n
    · have hti : (t : Int) < (n : Int) := by omega
      obtain ⟨b1, o1, x, rfl, hb1, hx, hc1⟩ := (HP.out _ HJ.out.1).cell htn
      have hx3 := HAL.out x (List.mem_of_getElem? hx)
      have HSS := Lib.hid (sumB_snoc hx)
      obtain ⟨xs, xl, xv⟩ := x
      have y0 : wr.cell? ⟨b1, o1 + t * 3, none⟩ = some (.string ⟨xs.toArray⟩) := by rw [show o1 + t * 3 = o1 + (t * 3 + 0) by omega]; exact hc1 0 _ rfl
      have y1 : wr.cell? ⟨b1, o1 + t * 3 + 1, none⟩ = some (.string ⟨xl.toArray⟩) := by rw [show o1 + t * 3 + 1 = o1 + (t * 3 + 1) by omega]; exact hc1 1 _ rfl
      have y2 : wr.cell? ⟨b1, o1 + t * 3 + 2, none⟩ = some (.string ⟨xv.toArray⟩) := by rw [show o1 + t * 3 + 2 = o1 + (t * 3 + 2) by omega]; exact hc1 2 _ rfl
      simp only at hx3
      have l1 : (xs.length : Int) ≤ 1048576 := by omega
      have l2 : (xl.length : Int) ≤ 1048576 := by omega
      have l3 : (xv.length : Int) ≤ 1048576 := by omega
      have HS9 := HSL.out t
      obtain ⟨S, hS⟩ : ∃ q, c0 + sumB (ats.take t) = q := ⟨_, rfl⟩
      have hS9 : (S : Int) ≤ 5000000000000 := by have := HC9.out; omega
      have hS0 : (0 : Int) ≤ (S : Int) := by omega
      have HSN : Hid ((S : Int) + (xs.length : Int) + (xl.length : Int) + (xv.length : Int) = ((c0 + sumB (ats.take (t + 1)) : Nat) : Int)) := Lib.hid (by
        have := HSS.out
        unfold lenA at this
        simp only at this
        omega)
      rw [hS]
      clear hb1 hx hc1 hx3 HS9 hS
      go_wp2_with fail
      go_quiet (fail)
      have HJ2 : Hid (CJ 40 w (wr.drewN nq) _) := Lib.hid ⟨below_drewN' HJ.out.1, HJ.out.2⟩
      clear y0 y1 y2 z3
      generalize wr.drewN nq = wq at *
      go_wp2
      go_roundg (n - (t + 1))
      case measure => have := hg.out; omega
      case rel => exact ⟨t + 1, by go_num, by rw [HSN.out], by omega, Lib.hid (by have := hg.out; omega), HJ2⟩
    · have hti : ¬ (t : Int) < (n : Int) := by omega
      obtain rfl : t = n := by omega
      go_wp2
      go_ret
      exact ⟨by rw [HB0.out]; rfl, HJ.out.1⟩
set_option maxRecDepth 100000 in
set_option maxHeartbeats 8000000 in
theorem refGreat_c (A : Option Addr) (n cap : Nat) (vs : List EvV) (w : World) (h : ERd w w.heap.size A n cap vs) (hm : n ≤ 1048576) (hle : ∀ v ∈ vs, EvLe 1048576 v) :
    Calls Tryd.prog 6 #[.slice A n cap] w fun e w' => e = .returned (.bool (greatE (vs.map EvV.e))) ∧ Below w.heap.size w w' := by
  have HP : Hid (∀ W, Below w.heap.size w W → ERd W W.heap.size A n cap vs) := Lib.hid fun W hb => (h.below hb).more hb.size
  have HLN : Hid (vs.length = n) := Lib.hid h.row.len
  have HE := Lib.hid hle
  have HSL : Hid (∀ t, t ≤ 200 → sumE ((vs.take t).map EvV.e) ≤ 800000400000000) := Lib.hid fun t ht => by
    have g1 := sumE_le (vs.take t) fun v hv => ⟨hle v (List.mem_of_mem_take hv), (h.ats v (List.mem_of_mem_take hv)).len⟩
    have g2 : (vs.take t).length ≤ 200 := by rw [List.length_take]; omega
    have g3 : (vs.take t).length * 4000002000000 ≤ 200 * 4000002000000 := Nat.mul_le_mul_right _ g2
    omega
  have HB0 : Hid (greatE (vs.map EvV.e) = (decide (100 < n) || decide (5000 < sumE ((vs.take 200).map EvV.e)))) := Lib.hid (by unfold greatE; rw [List.length_map, h.row.len, List.map_take])
  have i4 : (n : Int) ≤ 1048576 := by omega
  obtain ⟨R, hR⟩ : ∃ q, greatE (vs.map EvV.e) = q := ⟨_, rfl⟩
  rw [hR] at HB0 ⊢
  clear h hle hR hm
  go_enter Tryd.func6, Tryd.ntmps6
  go_wp2
  go_loopg [3, 4] (n) (fun g s i wr => ∃ t : Nat, i = .int .i64 (t : Int) ∧ s = .int .i64 ((sumE ((vs.take t).map EvV.e) : Nat) : Int) ∧ t ≤ n ∧ t ≤ 200 ∧ Hid (g + t = n) ∧ Hid (Below w.heap.size w wr))
  case atStart => exact ⟨0, rfl, rfl, Nat.zero_le _, Nat.zero_le _, Lib.hid rfl, Lib.hid (Below.refl _ _)⟩
  case round =>
    obtain ⟨t, rfl, rfl, ht, ht2, hg, HB⟩ := hrel
    have ht0 : (0 : Int) ≤ (t : Int) := by omega
    have ht9 : (t : Int) ≤ 200 := by omega
    have HS9 := HSL.out t ht2
    by_cases htn : t < n ∧ t < 200
    · have hti : (t : Int) < (n : Int) := by omega
      have htj : (t : Int) < 200 := by omega
      obtain ⟨b1, o1, x, hAe, hb1, hx, hc1⟩ := (HP.out _ HB.out).row.cell htn.1
      subst hAe
      have hmem := List.mem_of_getElem? hx
      have hex := HE.out x hmem
      have HSS : Hid (sumE ((vs.take (t + 1)).map EvV.e) = sumE ((vs.take t).map EvV.e) + (bytesE x.e + x.e.ats.length)) := Lib.hid (by
        rw [List.take_add_one, hx, List.map_append, sumE_app]
        simp [sumE])
      have hxa := ((HP.out _ HB.out).ats x hmem).len
      have hbl := bytesE_le hex hxa
      have hxn := hex.n
      have CB : Hid (∀ W, Hid (Below w.heap.size w W) → Calls Tryd.prog 18 #[.agg #[.int .i64 x.e.kind, .string ⟨x.e.sp.toArray⟩, .string ⟨x.e.lo.toArray⟩, .slice x.A x.n x.c, .string ⟨x.e.tx.toArray⟩]] W fun e w' => e = .returned (.int .i64 (bytesE x.e : Nat)) ∧ Hid (Below w.heap.size w w') ∧ w'.cell? ⟨b1, o1 + t * 5, none⟩ = some (.int .i64 x.e.kind) ∧ w'.cell? ⟨b1, o1 + t * 5 + 1, none⟩ = some (.string ⟨x.e.sp.toArray⟩) ∧ w'.cell? ⟨b1, o1 + t * 5 + 2, none⟩ = some (.string ⟨x.e.lo.toArray⟩) ∧ w'.cell? ⟨b1, o1 + t * 5 + 3, none⟩ = some (.slice x.A x.n x.c) ∧ w'.cell? ⟨b1, o1 + t * 5 + 4, none⟩ = some (.string ⟨x.e.tx.toArray⟩)) := Lib.hid fun W hW =>
        (refBytes_c x.e.kind x.e.sp x.e.lo x.e.tx x.A x.n x.c x.e.ats W ((HP.out _ hW.out).ats x hmem) hex).mono fun e w' ⟨he, hb⟩ => by
          obtain ⟨b2, o2, y, e2, _, hy, hc2⟩ := (HP.out _ (hW.out.trans (hb.mono hW.out.size))).row.cell htn.1
          cases e2
          rw [hx] at hy
          cases hy
          exact ⟨he, Lib.hid (hW.out.trans (hb.mono hW.out.size)), hc2 0 _ rfl, hc2 1 _ rfl, hc2 2 _ rfl, hc2 3 _ rfl, hc2 4 _ rfl⟩
      have y0 : wr.cell? ⟨b1, o1 + t * 5, none⟩ = some (.int .i64 x.e.kind) := hc1 0 _ rfl
      have y1 : wr.cell? ⟨b1, o1 + t * 5 + 1, none⟩ = some (.string ⟨x.e.sp.toArray⟩) := hc1 1 _ rfl
      have y2 : wr.cell? ⟨b1, o1 + t * 5 + 2, none⟩ = some (.string ⟨x.e.lo.toArray⟩) := hc1 2 _ rfl
      have y3 : wr.cell? ⟨b1, o1 + t * 5 + 3, none⟩ = some (.slice x.A x.n x.c) := hc1 3 _ rfl
      have y4 : wr.cell? ⟨b1, o1 + t * 5 + 4, none⟩ = some (.string ⟨x.e.tx.toArray⟩) := hc1 4 _ rfl
      obtain ⟨S, hS⟩ : ∃ q, sumE ((vs.take t).map EvV.e) = q := ⟨_, rfl⟩
      rw [hS] at HSS HS9
      rw [hS]
      obtain ⟨bb, hbb⟩ : ∃ q, bytesE x.e = q := ⟨_, rfl⟩
      rw [hbb] at HSS hbl CB
      rw [hxa] at HSS
      clear hS hb1 hx hc1 hmem hex hxa hbb
      obtain ⟨⟨k, sp, lo, ats, tx⟩, XA, xn, xc⟩ := x
      simp only at HSS hbl CB y0 y1 y2 y3 y4 hxn
      have l1 : (S : Int) ≤ 800000400000000 := by omega
      have l2 : (bb : Int) ≤ 4000000000000 := by omega
      have l3 : (xn : Int) ≤ 1048576 := by omega
      have l4 : (0 : Int) ≤ (S : Int) := by omega
      have l5 : (0 : Int) ≤ (bb : Int) := by omega
      have l6 : (0 : Int) ≤ (xn : Int) := by omega
      have HSN : Hid ((S : Int) + (bb : Int) + (xn : Int) = ((sumE ((vs.take (t + 1)).map EvV.e) : Nat) : Int)) := Lib.hid (by
        have := HSS.out
        omega)
      clear HS9 hbl hxn
      have d0 : wr.drew.cell? ⟨b1, o1 + t * 5, none⟩ = some (.int .i64 k) := y0
      have d1 : wr.drew.cell? ⟨b1, o1 + t * 5 + 1, none⟩ = some (.string ⟨sp.toArray⟩) := y1
      have d2 : wr.drew.cell? ⟨b1, o1 + t * 5 + 2, none⟩ = some (.string ⟨lo.toArray⟩) := y2
      have d3 : wr.drew.cell? ⟨b1, o1 + t * 5 + 3, none⟩ = some (.slice XA xn xc) := y3
      have d4 : wr.drew.cell? ⟨b1, o1 + t * 5 + 4, none⟩ = some (.string ⟨tx.toArray⟩) := y4
      have HBd : Hid (Below w.heap.size w wr.drew) := Lib.hid (below_drewN' (n := 1) HB.out)
      have HFB : ∀ W, Hid (Below w.heap.size w W) → Hid (Below w.heap.size w W) := fun _ h => h
      go_wp2_with fail
      go_region_held3 (fun w' => w'.cell? ⟨b1, o1 + t * 5, none⟩ = some (.int .i64 k) ∧ w'.cell? ⟨b1, o1 + t * 5 + 1, none⟩ = some (.string ⟨sp.toArray⟩) ∧ w'.cell? ⟨b1, o1 + t * 5 + 2, none⟩ = some (.string ⟨lo.toArray⟩) ∧ w'.cell? ⟨b1, o1 + t * 5 + 3, none⟩ = some (.slice XA xn xc) ∧ w'.cell? ⟨b1, o1 + t * 5 + 4, none⟩ = some (.string ⟨tx.toArray⟩) ∧ Hid (Below w.heap.size w w')) (first | exact ⟨by assumption, by assumption, by assumption, by assumption, by assumption, by assumption⟩) (first
        | (go_at_call 18; refine (CB.out _ (by assumption)).mono ?_; rintro e W2 ⟨rfl, HQ2, g0, g1, g2, g3, g4⟩))
      have w1 : IntKind.i64.wrap ((S : Int) + (bb : Int)) = (S : Int) + (bb : Int) := by rw [IntKind.wrap_i64]; omega
      have w2 : IntKind.i64.wrap ((S : Int) + (bb : Int) + (xn : Int)) = (S : Int) + (bb : Int) + (xn : Int) := by rw [IntKind.wrap_i64]; omega
      rw [w1, w2]
      clear l1 l2 l3 w1 w2
      go_wp2
      go_roundg (n - (t + 1))
      case measure => have := hg.out; omega
      case rel => exact ⟨t + 1, by go_num, by rw [HSN.out], by omega, by omega, Lib.hid (by have := hg.out; omega), HFB _ (by assumption)⟩
    · have hex : (¬ (t : Int) < (n : Int)) ∨ ((t : Int) < (n : Int) ∧ ¬ (t : Int) < 200) := by omega
      have HT : Hid ((vs.take t) = vs.take 200) := Lib.hid (by
        rcases Nat.lt_or_ge t n with h1 | h1
        · rw [show t = 200 by omega]
        · rw [List.take_of_length_le (by rw [HLN.out]; omega), List.take_of_length_le (by rw [HLN.out]; omega)])
      have HB1 : Hid (R = (decide (100 < n) || decide (5000 < sumE ((vs.take t).map EvV.e)))) := Lib.hid (by rw [HB0.out, HT.out])
      obtain ⟨S, hS⟩ : ∃ q, sumE ((vs.take t).map EvV.e) = q := ⟨_, rfl⟩
      rw [hS] at HB1 ⊢
      clear hS HS9 HT
      by_cases h1 : 100 < n
      · have h1i : (100 : Int) < (n : Int) := by omega
        rw [decide_eq_true h1] at HB1
        rcases hex with hti | ⟨hti, htj⟩
        all_goals
          go_wp2
          go_ret
          exact ⟨by rw [HB1.out]; rfl, HB.out⟩
      · have h1i : ¬ (100 : Int) < (n : Int) := by omega
        rw [decide_eq_false h1] at HB1
        by_cases h2 : 5000 < S
        · have h2i : (5000 : Int) < (S : Int) := by omega
          rw [decide_eq_true h2] at HB1
          rcases hex with hti | ⟨hti, htj⟩
          all_goals
            go_wp2
            go_ret
            exact ⟨by rw [HB1.out]; rfl, HB.out⟩
        · have h2i : ¬ (5000 : Int) < (S : Int) := by omega
          rw [decide_eq_false h2] at HB1
          rcases hex with hti | ⟨hti, htj⟩
          all_goals
            go_wp2
            go_ret
            exact ⟨by rw [HB1.out]; rfl, HB.out⟩
end Go.Proofs.YtocbofeanfdggaaDoor
