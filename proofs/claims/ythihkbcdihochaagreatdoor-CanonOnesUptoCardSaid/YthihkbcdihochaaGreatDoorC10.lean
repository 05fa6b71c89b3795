/- Texts of ours, joined: CnL, CnZ, CkN, CnT, CkA, CkF, CkG, RunU, RunV. -/
import Derived.Test.YthihkbcdihochaaGreatDoorRows
import Derived.WalkKit
import Derived.ProofKit
import Derived.OpenShut
import Derived.ShutString
import Derived.ChangeOld
import Derived.Below
import Derived.BigQuiet
import Derived.Deep.QuietTactic
import Derived.Lib.Hide
import Derived.Deep.RegionHeld3
import Derived.Lib.SlBytesConst
import Derived.Laws.CopyOwn
import Derived.Laws.CopyRow
import Derived.Lib.Bytes
import Derived.Deep.LoopGhost
import Derived.Deep.DeepFit
import Derived.Deep.DeepMust
import Derived.WalkSpells
import Derived.WalkLawsBesides
import Derived.Maps.OwnOps
import Derived.Maps.OwnSet
import Derived.Maps.Views
import Derived.Laws.EntriesVeiled
import Derived.Laws.Rows
import Derived.Maps.AppendAt
import Derived.Lib.SmallJoins
import Derived.Deep.AppendLies
import Derived.DeepKeys4
import Derived.MapViews
import Derived.Maps.Keyed
import Derived.Carry
import Derived.Lib.ItoaNum
import Derived.Lib.AppendIntMem
import Derived.Deep.RegionWith
import Derived.Test.YthihkbcdihochaaGreatDoorC1
import Derived.Test.YthihkbcdihochaaGreatDoorC2
import Derived.Test.YthihkbcdihochaaGreatDoorC5
import Derived.Test.YthihkbcdihochaaGreatDoorC6
import Derived.Test.YthihkbcdihochaaGreatDoorC7
import Derived.Test.YthihkbcdihochaaGreatDoorC8
import Derived.Test.YthihkbcdihochaaGreatDoorC9
import Derived.Deep.RegionLaw
import Derived.Test.YthihkbcdihochaaGreatDoorC4
import Derived.Test.YthihkbcdihochaaGreatDoorC3
import Derived.RangeFuncNested
import Derived.RangeFuncBound
import Derived.RangeFuncCalls
import Derived.RangeFuncLeaves
import Derived.RangeFuncBox
import Derived.Shelf.Abstract
import Derived.Shelf.RegionOpen
import Derived.OwnWalkIn
import Derived.TacticsInMore
import Derived.LoopNIn
import Derived.LoopIn
/- canon.long, where every name is short. -/
namespace Go.Proofs.YthihkbcdihochaaGreatDoor
open Go.ChangeShapes Go.WideShapes Go.ChangeAt Go.RowKit
set_option linter.unusedVariables false
/-- While canon.long reads: the event's block, the numbers. -/
def LK (cs : Array Value) (sps : List (List UInt8)) (mb : Nat) (w W : World) : Prop := CJ 41 w W cs ∧ AtM W mb sps
theorem LK.kept {cs : Array Value} {sps : List (List UInt8)} {mb : Nat} {w W W' : World} (h : LK cs sps mb w W) (hb : Below W.heap.size W W') : LK cs sps mb w W' := ⟨h.1.kept hb, h.2.kept (hb.block _ h.2.lt)⟩
def LH (cs : Array Value) (sps : List (List UInt8)) (mb : Nat) (q : Nat) (xs xl xv : List UInt8) (w W : World) : Prop := LK cs sps mb w W ∧ W.heap[q]? = some (.cells #[.string ⟨xs.toArray⟩, .string ⟨xl.toArray⟩, .string ⟨xv.toArray⟩] 112 (0, 0))
theorem LH.kept {cs : Array Value} {sps : List (List UInt8)} {mb q : Nat} {xs xl xv : List UInt8} {w W W' : World} (h : LH cs sps mb q xs xl xv w W) (hb : Below W.heap.size W W') : LH cs sps mb q xs xl xv w W' := ⟨h.1.kept hb, (hb.block _ (lt_of h.2)).trans h.2⟩
theorem LH.drew {cs : Array Value} {sps : List (List UInt8)} {mb q : Nat} {xs xl xv : List UInt8} {w W : World} (h : LH cs sps mb q xs xl xv w W) : LH cs sps mb q xs xl xv w W.drew := ⟨⟨⟨h.1.1.1.drew, h.1.1.2⟩, h.1.2.kept rfl⟩, h.2⟩
set_option maxRecDepth 100000 in
set_option maxHeartbeats 8000000 in
/-- A name that is short enough is not long. -/
theorem cnLong_c (k : Int) (sp lo tx : List UInt8) (A : Option Addr) (n cap : Nat) (ats : List (List UInt8 × List UInt8 × List UInt8)) (w : World) (h : RRd cA 3 w w.heap.size A n cap ats) (hle : EvLe 100 ⟨⟨k, sp, lo, ats, tx⟩, A, n, cap⟩) (k3 : ¬ k = 3) (k5 : ¬ k = 5) (hp : Lib.TabIs Tryz.prog w "internal/strconv.uint64pow10" .u64 Lib.pow10Tab) :
    Calls Tryz.prog 110 #[.agg #[.int .i64 k, .string ⟨sp.toArray⟩, .string ⟨lo.toArray⟩, .slice A n cap, .string ⟨tx.toArray⟩]] w fun e w' => e = .returned (.bool false) ∧ Below w.heap.size w w' := by
  have h2 : lo.length ≤ 100 := hle.lo
  have hn : n ≤ 100 := hle.n
  have HP : Hid (∀ W, Below w.heap.size w W → RRd cA 3 W W.heap.size A n cap ats) := Lib.hid fun W hb => (h.below hb).more hb.size
  have HTB : Hid (∀ W, Below w.heap.size w W → Lib.TabIs Tryz.prog W "internal/strconv.uint64pow10" .u64 Lib.pow10Tab) := Lib.hid fun W hb => TabIs_below41 hp hb
  have HLN : Hid (ats.length = n) := Lib.hid h.len
  have HAL : Hid (∀ a ∈ ats, a.1.length ≤ 100 ∧ a.2.1.length ≤ 100 ∧ a.2.2.length ≤ 100) := Lib.hid hle.ats
  have NM : Hid (∀ W, Below w.heap.size w W → Calls Tryz.prog 115 #[.slice A n cap] W fun e w' => ∃ OA oc, e = .returned (.tuple #[.map (some W.heap.size), .slice OA (spcs [] ats).length oc]) ∧ AtM w' W.heap.size (spcs [] ats) ∧ OwnX w' (W.heap.size + 1) (.slice OA (spcs [] ats).length oc) (spcs [] ats) ∧ Below W.heap.size W w') := Lib.hid fun W hb => numbers_c A n cap ats W (HP.out W hb) (by omega) (fun a ha => by have := (HAL.out a ha).1; omega)
  have hsm : (spcs [] ats).length ≤ 5000 := by have h5 := spcs_len [] ats; have := HLN.out; simp only [List.length_nil] at h5; omega
  have HHS : Hid (∀ a ∈ ats, a.1 = [] ∨ a.1 = xmlSp ∨ a.1 ∈ spcs [] ats) := Lib.hid fun a ha => by
    by_cases e1 : a.1 = []
    · exact .inl e1
    · by_cases e2 : a.1 = xmlSp
      · exact .inr (.inl e2)
      · exact .inr (.inr (spcs_has.2 a ha (by unfold ownSp; simp [e1, e2])))
  have EL := Lib.hid (fun W => cnElem_c sp lo W (by omega))
  have hel : (elemL sp lo).length ≤ 104 := by
    unfold elemL
    split
    · simp
      omega
    · omega
  obtain ⟨e1, he1⟩ : ∃ q, elemL sp lo = q := ⟨_, rfl⟩
  rw [he1] at EL hel
  have hel1 : ¬ ((e1.length : Nat) : Int) > 1024 := by omega
  have hsz1 : (⟨e1.toArray⟩ : ByteArray).size = e1.length := by simp [ByteArray.size]
  have I0 := Lib.hid (CJ.start 41 w #[.int .i64 k, .string ⟨sp.toArray⟩, .string ⟨lo.toArray⟩, .slice A n cap, .string ⟨tx.toArray⟩])
  have z0 := cell_of 0 I0.out.2
  have z1 := cell_of 1 I0.out.2
  have z2 := cell_of 2 I0.out.2
  clear h hle he1 hp h2
  go_enter Tryz.func110, Tryz.ntmps110
  go_wp2_with fail
  refine (EL.out _).mono ?_
  rintro e w1 ⟨rfl, hb⟩
  have I1 := Lib.hid (I0.out.kept hb)
  clear hb I0 EL z0 z1 z2
  have z3 := cell_of 3 I1.out.2
  go_wp2_with fail
  refine (NM.out _ I1.out.1).mono ?_
  rintro e w4 ⟨OA, oc, rfl, hM, hO, hb⟩
  have K4 : Hid (LK #[.int .i64 k, .string ⟨sp.toArray⟩, .string ⟨lo.toArray⟩, .slice A n cap, .string ⟨tx.toArray⟩] (spcs [] ats) w1.heap.size w w4) := Lib.hid ⟨I1.out.kept hb, hM⟩
  obtain ⟨mb, hmb⟩ : ∃ q, w1.heap.size = q := ⟨_, rfl⟩
  rw [hmb] at K4 ⊢
  obtain ⟨sps, hsps⟩ : ∃ q, spcs [] ats = q := ⟨_, rfl⟩
  rw [hsps] at K4 HHS hsm ⊢
  clear hM hO hb hmb hsps I1 NM z3
  have z3 : w4.cell? ⟨w.heap.size, 3, none⟩ = some (.slice A n cap) := by rw [cell_of 3 K4.out.1.2]; rfl
  go_wp2_with fail
  go_loopg [31] (n) (fun g i wr => ∃ t : Nat, i = .int .i64 (t : Int) ∧ t ≤ n ∧ Hid (g + t = n) ∧ Hid (LK #[.int .i64 k, .string ⟨sp.toArray⟩, .string ⟨lo.toArray⟩, .slice A n cap, .string ⟨tx.toArray⟩] sps mb w wr))
  case atStart => exact ⟨0, rfl, Nat.zero_le _, Lib.hid rfl, K4⟩
  case round =>
    clear z3 K4
    obtain ⟨t2, rfl, ht2, hg2, HK⟩ := hrel
    have ht0 : (0 : Int) ≤ (t2 : Int) := by omega
    have ht9 : (t2 : Int) ≤ 5000 := by omega
    by_cases htn2 : t2 < n
    · have hti2 : (t2 : Int) < (n : Int) := by omega
      obtain ⟨b1, o1, x, hAe, hb1, hx, hc1⟩ := (HP.out _ HK.out.1.1).cell htn2
      obtain ⟨hx1, hx2, hx3⟩ := HAL.out x (List.mem_of_getElem? hx)
      have hmem := HHS.out x (List.mem_of_getElem? hx)
      obtain ⟨xs, xl, xv⟩ := x
      simp only at hx1 hx2 hx3 hmem
      have y0 : wr.cell? ⟨b1, o1 + t2 * 3, none⟩ = some (.string ⟨xs.toArray⟩) := by rw [show o1 + t2 * 3 = o1 + (t2 * 3 + 0) by omega]; exact hc1 0 _ rfl
      have y1 : wr.cell? ⟨b1, o1 + t2 * 3 + 1, none⟩ = some (.string ⟨xl.toArray⟩) := by rw [show o1 + t2 * 3 + 1 = o1 + (t2 * 3 + 1) by omega]; exact hc1 1 _ rfl
      have y2 : wr.cell? ⟨b1, o1 + t2 * 3 + 2, none⟩ = some (.string ⟨xv.toArray⟩) := by rw [show o1 + t2 * 3 + 2 = o1 + (t2 * 3 + 2) by omega]; exact hc1 2 _ rfl
      have PX := Lib.hid (fun w1 hM hb => cnPrefix_c xs xl sps mb w1 hM hsm (by omega) hmem (HTB.out w1 hb))
      have hfl := prefL_le sps xs hsm
      subst hAe
      obtain ⟨F, hF⟩ : ∃ q, prefL sps xs = q := ⟨_, rfl⟩
      rw [hF] at PX hfl
      have hf0 : (0 : Int) ≤ (F.length : Int) := by omega
      have hf9 : (F.length : Int) ≤ 30 := by omega
      have hl0 : (0 : Int) ≤ (xl.length : Int) := by omega
      have hl9 : (xl.length : Int) ≤ 100 := by omega
      have hgt : ¬ (F.length : Int) + (xl.length : Int) > 1024 := by omega
      have hsF : (⟨F.toArray⟩ : ByteArray).size = F.length := by simp [ByteArray.size]
      have hsL : (⟨xl.toArray⟩ : ByteArray).size = xl.length := by simp [ByteArray.size]
      have hJ : Hid (LH #[.int .i64 k, .string ⟨sp.toArray⟩, .string ⟨lo.toArray⟩, .slice (some ⟨b1, o1, none⟩) n cap, .string ⟨tx.toArray⟩] sps mb wr.heap.size xs xl xv w (wr.alloc (.cells #[.string ⟨xs.toArray⟩, .string ⟨xl.toArray⟩, .string ⟨xv.toArray⟩] 112)).drew) := Lib.hid (LH.drew ⟨HK.out.kept ((Below.refl _ wr).alloc (Nat.le_refl _) _), hp_new wr _⟩)
      have PJ : Hid (∀ w1, Hid (LH #[.int .i64 k, .string ⟨sp.toArray⟩, .string ⟨lo.toArray⟩, .slice (some ⟨b1, o1, none⟩) n cap, .string ⟨tx.toArray⟩] sps mb wr.heap.size xs xl xv w w1) → Calls Tryz.prog 116 #[.agg #[.string ⟨xs.toArray⟩, .string ⟨xl.toArray⟩], .map (some mb)] w1 fun e w' => e = .returned (.string ⟨F.toArray⟩) ∧ AtG wr.heap.size xs xl xv w' ∧ Hid (LH #[.int .i64 k, .string ⟨sp.toArray⟩, .string ⟨lo.toArray⟩, .slice (some ⟨b1, o1, none⟩) n cap, .string ⟨tx.toArray⟩] sps mb wr.heap.size xs xl xv w w')) := Lib.hid fun w1 h => (PX.out w1 h.out.1.2 h.out.1.1.1).mono fun e w' ⟨he, hb⟩ => ⟨he, CnH.at_ (h.out.kept hb).2, Lib.hid (h.out.kept hb)⟩
      clear PX HK hF hx1 hx2 hx3 hmem hfl hb1 hx hc1
      unfold AtG at PJ
      go_wp2_with fail
      obtain ⟨a0, a1, a2⟩ := CnH.at_ hJ.out.2
      go_region_held3 (fun w' => w'.cell? ⟨wr.heap.size, 0, none⟩ = some (.string ⟨xs.toArray⟩) ∧ w'.cell? ⟨wr.heap.size, 1, none⟩ = some (.string ⟨xl.toArray⟩) ∧ w'.cell? ⟨wr.heap.size, 2, none⟩ = some (.string ⟨xv.toArray⟩)) (first | exact ⟨by assumption, by assumption, by assumption⟩) (first
          | (go_at_call 116; refine (PJ.out _ (by assumption)).mono ?_; rintro e w4 ⟨rfl, ⟨b0, b1, b2⟩, hj4⟩))
      all_goals
        have hwr : IntKind.i64.wrap ((F.length : Int) + (xl.length : Int)) = (F.length : Int) + (xl.length : Int) := by rw [IntKind.wrap_i64]; omega
        go_wp2
        go_roundg (n - (t2 + 1))
        case measure => have := hg2.out; omega
        case rel => exact ⟨t2 + 1, by go_num, by omega, Lib.hid (by have := hg2.out; omega), Lib.hid hj4.out.1⟩
    · have hti2 : ¬ (t2 : Int) < (n : Int) := by omega
      go_wp2
      go_ret
      exact ⟨rfl, HK.out.1.1⟩
end Go.Proofs.YthihkbcdihochaaGreatDoor
/- slices.ContainsFunc over events, where none is so. -/
namespace Go.Proofs.YthihkbcdihochaaGreatDoor
open Go.ChangeShapes Go.WideShapes Go.ChangeAt Go.RowKit
set_option linter.unusedVariables false
set_option maxRecDepth 100000 in
set_option maxHeartbeats 4000000 in
/-- No event of a row is so. -/
theorem evIndex_no (fid : FuncId) (A : Option Addr) (n cap : Nat) (l : List EvV) (w : World) (h : RRd EvV.cells 5 w w.heap.size A n cap l) (hm : n ≤ 1000000)
    (ec : ∀ args w, (callFunc fid args).run Tryz.prog w = .ok (.enter fid args) w) (HM : ∀ x ∈ l, ∀ W, Below w.heap.size w W → Calls Tryz.prog fid #[.agg #[.int .i64 x.e.kind, .string ⟨x.e.sp.toArray⟩, .string ⟨x.e.lo.toArray⟩, .slice x.A x.n x.c, .string ⟨x.e.tx.toArray⟩]] W fun e w' => e = .returned (.bool false) ∧ Below W.heap.size W w') :
    Calls Tryz.prog 157 #[.slice A n cap, .func (.func fid) #[] #[]] w fun e w' => e = .returned (.int .i64 (-1)) ∧ Below w.heap.size w w' := by
  have HP : Hid (∀ W, Below w.heap.size w W → RRd EvV.cells 5 W W.heap.size A n cap l) := Lib.hid fun W hb => (h.below hb).more hb.size
  have HMM := Lib.hid HM
  clear h HM
  go_enter Tryz.func157, Tryz.ntmps157
  go_wp2
  go_loopg [8] (n) (fun g i wr => ∃ t : Nat, i = .int .i64 (t : Int) ∧ t ≤ n ∧ Hid (g + t = n) ∧ Hid (Below w.heap.size w wr))
  case atStart => exact ⟨0, rfl, Nat.zero_le _, Lib.hid rfl, Lib.hid (Below.refl _ _)⟩
  case round =>
    obtain ⟨t, rfl, ht, hg, HB⟩ := hrel
    have ht0 : (0 : Int) ≤ (t : Int) := by omega
    have ht9 : (t : Int) ≤ 1000000 := by omega
    by_cases htn : t < n
    · have hti : (t : Int) < (n : Int) := by omega
      obtain ⟨b1, o1, x, rfl, hb1, hx, hc1⟩ := (HP.out _ HB.out).cell htn
      have HC := Lib.hid (HMM.out x (List.mem_of_getElem? hx) wr HB.out)
      have y0 : wr.cell? ⟨b1, o1 + t * 5, none⟩ = some (.int .i64 x.e.kind) := by rw [show o1 + t * 5 = o1 + (t * 5 + 0) by omega]; exact hc1 0 _ rfl
      have y1 : wr.cell? ⟨b1, o1 + t * 5 + 1, none⟩ = some (.string ⟨x.e.sp.toArray⟩) := by rw [show o1 + t * 5 + 1 = o1 + (t * 5 + 1) by omega]; exact hc1 1 _ rfl
      have y2 : wr.cell? ⟨b1, o1 + t * 5 + 2, none⟩ = some (.string ⟨x.e.lo.toArray⟩) := by rw [show o1 + t * 5 + 2 = o1 + (t * 5 + 2) by omega]; exact hc1 2 _ rfl
      have y3 : wr.cell? ⟨b1, o1 + t * 5 + 3, none⟩ = some (.slice x.A x.n x.c) := by rw [show o1 + t * 5 + 3 = o1 + (t * 5 + 3) by omega]; exact hc1 3 _ rfl
      have y4 : wr.cell? ⟨b1, o1 + t * 5 + 4, none⟩ = some (.string ⟨x.e.tx.toArray⟩) := by rw [show o1 + t * 5 + 4 = o1 + (t * 5 + 4) by omega]; exact hc1 4 _ rfl
      clear hb1 hx hc1
      go_wp2_with fail
      refine HC.out.mono ?_
      rintro e w2 ⟨rfl, hb2⟩
      have HB2 := Lib.hid (HB.out.trans (hb2.mono HB.out.size))
      clear hb2
      go_wp2
      go_roundg (n - (t + 1))
      case measure => have := hg.out; omega
      case rel => exact ⟨t + 1, by go_num, by omega, Lib.hid (by have := hg.out; omega), HB2⟩
    · have hti : ¬ (t : Int) < (n : Int) := by omega
      go_wp2
      go_ret
      exact ⟨rfl, HB.out⟩
set_option maxRecDepth 100000 in
set_option maxHeartbeats 4000000 in
theorem evContains_no (fid : FuncId) (A : Option Addr) (n cap : Nat) (l : List EvV) (w : World) (h : RRd EvV.cells 5 w w.heap.size A n cap l) (hm : n ≤ 1000000)
    (ec : ∀ args w, (callFunc fid args).run Tryz.prog w = .ok (.enter fid args) w) (HM : ∀ x ∈ l, ∀ W, Below w.heap.size w W → Calls Tryz.prog fid #[.agg #[.int .i64 x.e.kind, .string ⟨x.e.sp.toArray⟩, .string ⟨x.e.lo.toArray⟩, .slice x.A x.n x.c, .string ⟨x.e.tx.toArray⟩]] W fun e w' => e = .returned (.bool false) ∧ Below W.heap.size W w') :
    Calls Tryz.prog 109 #[.slice A n cap, .func (.func fid) #[] #[]] w fun e w' => e = .returned (.bool false) ∧ Below w.heap.size w w' := by
  have C1 := Lib.hid (evIndex_no fid A n cap l w h hm ec HM)
  clear h hm HM
  go_enter Tryz.func109, Tryz.ntmps109
  go_wp2_with fail
  refine C1.out.mono ?_
  rintro e w1 ⟨rfl, hb⟩
  have HB := Lib.hid hb
  clear hb
  go_wp2
  go_ret
  exact ⟨rfl, HB.out⟩
end Go.Proofs.YthihkbcdihochaaGreatDoor
/- check.names. -/
namespace Go.Proofs.YthihkbcdihochaaGreatDoor
open Go.ChangeShapes Go.WideShapes Go.ChangeAt Go.RowKit
set_option linter.unusedVariables false
theorem wpList_appH {P : Program} {ops : Array Oper} {rest : List Oper} {o : Oper} {a : Act} {Q : Exit → Act → World → Prop} {w : World} (hgd : o.guard = none) (s x : Operand) (t e : TypeId)
    (ho : o.op = .call { callee := .builtin .append, args := #[s, x], argTypes := #[t, t] }) (z : Value) (k bytes : Nat) (ht : P.underlying t = some (.slice e))
    (hi : ∃ i, P.info? e = some i ∧ i.zero = some z ∧ i.size = k ∧ i.bytes = bytes) (hzs : z.cells.size = k) (hk : 0 < k)
    (base : Nat) (v : Value) (n : Nat) (xs : List Value) (hs : a.eval s = v) (hown : w.ownsRow base e k v n xs) (us : List Value) (us' : Array Value) (hus : us' = us.toArray) (H : Nat) (hH : w.heap.size = H) (hx : a.eval x = .slice (some ⟨H, 0, none⟩) 1 1)
    (hl : us.length = k) (h1 : ∀ u ∈ us, u.oneCell' = true) (hn : n ≤ 1000000000) (hby : bytes ≤ 1000) (hbase : base ≤ w.heap.size)
    (h : ∀ v' w', w'.ownsRow base e k v' (n + 1) (xs ++ us) → (w.alloc (.cells us' e)).grownBy w' v.ownBlock → (v'.ownBlock = v.ownBlock ∨ v'.ownBlock = some (w.heap.size + 1)) → wpList P ops Q rest (a.put o.dst v') w') : wpList P ops Q (o :: rest) a (w.alloc (.cells us' e)) := by
  subst hH
  exact wpList_appK hgd s x t e ho z k bytes ht hi hzs hk base v n xs hs hown us us' hus hx hl h1 hn hby hbase h
theorem info_name : ∃ i, Tryz.prog.info? 38 = some i ∧ i.zero = some (.agg #[.string ⟨#[]⟩, .string ⟨#[]⟩]) ∧ i.size = 2 ∧ i.bytes = 32 := by
  have h : (Tryz.prog.info? 38).map (fun i => (i.zero, i.size, i.bytes)) = some (some (.agg #[.string ⟨#[]⟩, .string ⟨#[]⟩]), 2, 32) := by kernel_rfl
  obtain ⟨i, hi, he⟩ := Option.map_eq_some_iff.1 h
  simp only [Prod.mk.injEq] at he
  exact ⟨i, hi, he.1, he.2.1, he.2.2⟩
/-- A row of names of the call's own. -/
def OwnN (w : World) (base : Nat) (v : Value) (l : List (List UInt8 × List UInt8)) : Prop := w.ownsRow base 38 2 v l.length (l.flatMap cN)
theorem OwnN.kept {w w' : World} {base : Nat} {v : Value} {l : List (List UInt8 × List UInt8)} (h : OwnN w base v l) (hb : Below w.heap.size w w') : OwnN w' base v l := ownsRow_keep h fun g _ hg => hb.block g hg
theorem OwnN.ge {w : World} {base : Nat} {v : Value} {l : List (List UInt8 × List UInt8)} (h : OwnN w base v l) {b : Nat} (hb : v.ownBlock = some b) : base ≤ b := by
  obtain ⟨hl, ⟨hv, _⟩ | ⟨g, cap, cur, hv, hg, hh, r⟩⟩ := h
  · rw [hv] at hb; simp [Value.ownBlock] at hb
  · rw [hv] at hb; simp [Value.ownBlock] at hb; subst hb; exact hg
theorem OwnN.snoc {w' : World} {base : Nat} {v' : Value} {l : List (List UInt8 × List UInt8)} {x : List UInt8 × List UInt8} (h : w'.ownsRow base 38 2 v' (l.length + 1) (l.flatMap cN ++ cN x)) : OwnN w' base v' (l ++ [x]) := by
  unfold OwnN
  rw [List.length_append, List.flatMap_append, List.flatMap_singleton]
  exact h
theorem namesA_snoc {ats : List (List UInt8 × List UInt8 × List UInt8)} {t : Nat} {x : List UInt8 × List UInt8 × List UInt8} (h : ats[t]? = some x) : namesA (ats.take (t + 1)) = namesA (ats.take t) ++ [(x.1, x.2.1)] := by
  rw [List.take_add_one, h]
  simp [namesA]
set_option maxRecDepth 100000 in
set_option maxHeartbeats 8000000 in
theorem ckNames_c (k : Int) (sp lo tx : List UInt8) (A : Option Addr) (n cap : Nat) (ats : List (List UInt8 × List UInt8 × List UInt8)) (w : World) (h : RRd cA 3 w w.heap.size A n cap ats) (hm : n ≤ 100000) :
    Calls Tryz.prog 235 #[.agg #[.int .i64 k, .string ⟨sp.toArray⟩, .string ⟨lo.toArray⟩, .slice A n cap, .string ⟨tx.toArray⟩]] w fun e w' => ∃ A2 c2, e = .returned (.slice A2 (namesE ⟨k, sp, lo, ats, tx⟩).length c2) ∧ RRd cN 2 w' w'.heap.size A2 (namesE ⟨k, sp, lo, ats, tx⟩).length c2 (namesE ⟨k, sp, lo, ats, tx⟩) ∧ Below w.heap.size w w' := by
  have J0 := Lib.hid (CJ.start 41 w #[.int .i64 k, .string ⟨sp.toArray⟩, .string ⟨lo.toArray⟩, .slice A n cap, .string ⟨tx.toArray⟩])
  have HP : Hid (∀ W, Below w.heap.size w W → RRd cA 3 W W.heap.size A n cap ats) := Lib.hid fun W hb => (h.below hb).more hb.size
  have HLN : Hid (ats.length = n) := Lib.hid h.len
  have z0 := cell_of 0 J0.out.2
  have z1 := cell_of 1 J0.out.2
  have z2 := cell_of 2 J0.out.2
  have z3 := cell_of 3 J0.out.2
  have z4 := cell_of 4 J0.out.2
  clear h
  have key : ∀ (pre : List (List UInt8 × List UInt8)) (V : Value) (W : World), Hid (OwnN W w.heap.size V pre) → Hid (CJ 41 w W #[.int .i64 k, .string ⟨sp.toArray⟩, .string ⟨lo.toArray⟩, .slice A n cap, .string ⟨tx.toArray⟩]) → True := fun _ _ _ _ _ => trivial
  clear key
  by_cases h35 : k = 3 ∨ k = 5
  · have HE : Hid (namesE ⟨k, sp, lo, ats, tx⟩ = [] ++ namesA ats) := Lib.hid (by unfold namesE; rw [if_pos h35]; rfl)
    rw [HE.out]
    have O0 : Hid (OwnN (w.alloc (.cells #[.int .i64 k, .string ⟨sp.toArray⟩, .string ⟨lo.toArray⟩, .slice A n cap, .string ⟨tx.toArray⟩] 41)) w.heap.size (.slice none 0 0) []) := Lib.hid ⟨rfl, .inl ⟨rfl, rfl⟩⟩
    clear HE
    rcases h35 with rfl | rfl
    all_goals
      go_enter Tryz.func235, Tryz.ntmps235
      go_wp2
      go_loopg [3, 22] (n) (fun g v i wr => ∃ t : Nat, i = .int .i64 (t : Int) ∧ t ≤ n ∧ Hid (g + t = n) ∧ Hid (OwnN wr w.heap.size v (([] : List (List UInt8 × List UInt8)) ++ namesA (ats.take t))) ∧ Hid (Below w.heap.size w wr))
      case atStart => exact ⟨0, rfl, Nat.zero_le _, Lib.hid rfl, Lib.hid (by simpa [namesA] using O0.out), Lib.hid J0.out.1⟩
      case round =>
        obtain ⟨t, rfl, ht, hg, HO, HB⟩ := hrel
        have ht0 : (0 : Int) ≤ (t : Int) := by omega
        have ht9 : (t : Int) ≤ 100000 := by omega
        by_cases htn : t < n
        · have hti : (t : Int) < (n : Int) := by omega
          obtain ⟨b1, o1, x, rfl, hb1, hx, hc1⟩ := (HP.out _ HB.out).cell htn
          have HSN := Lib.hid (namesA_snoc hx)
          obtain ⟨xs, xl, xv⟩ := x
          have y0 : wr.cell? ⟨b1, o1 + t * 3, none⟩ = some (.string ⟨xs.toArray⟩) := by rw [show o1 + t * 3 = o1 + (t * 3 + 0) by omega]; exact hc1 0 _ rfl
          have y1 : wr.cell? ⟨b1, o1 + t * 3 + 1, none⟩ = some (.string ⟨xl.toArray⟩) := by rw [show o1 + t * 3 + 1 = o1 + (t * 3 + 1) by omega]; exact hc1 1 _ rfl
          have y2 : wr.cell? ⟨b1, o1 + t * 3 + 2, none⟩ = some (.string ⟨xv.toArray⟩) := by rw [show o1 + t * 3 + 2 = o1 + (t * 3 + 2) by omega]; exact hc1 2 _ rfl
          have hlen : (([] : List (List UInt8 × List UInt8)) ++ namesA (ats.take t)).length ≤ 1000000000 := by
            rw [List.length_append]
            simp [namesA]
            omega
          obtain ⟨L, hL⟩ : ∃ L, ([] : List (List UInt8 × List UInt8)) ++ namesA (ats.take t) = L := ⟨_, rfl⟩
          rw [hL] at HO hlen
          have HL := Lib.hid hL
          have ka := (Below.refl wr.heap.size wr).alloc (Nat.le_refl _) (.cells #[.string ⟨xs.toArray⟩, .string ⟨xl.toArray⟩, .string ⟨xv.toArray⟩] 112)
          have hown : (wr.alloc (.cells #[.string ⟨xs.toArray⟩, .string ⟨xl.toArray⟩, .string ⟨xv.toArray⟩] 112)).ownsRow w.heap.size 38 2 _ L.length (L.flatMap cN) := HO.out.kept ka
          have HB2 := Lib.hid (HB.out.trans (ka.mono HB.out.size))
          have hba : w.heap.size ≤ (wr.alloc (.cells #[.string ⟨xs.toArray⟩, .string ⟨xl.toArray⟩, .string ⟨xv.toArray⟩] 112)).heap.size := HB2.out.size
          clear hb1 hx hc1 ka hL
          go_wp2_with (first
            | (at_builtin; refine wpList_appH rfl (.tmp 26) (.tmp 29) 236 38 rfl (.agg #[.string ⟨#[]⟩, .string ⟨#[]⟩]) 2 32 Tryz.underlying236 info_name rfl (by decide) w.heap.size _ _ _ rfl hown (cN (xs, xl)) _ rfl (wr.heap.size + 1) (by simp) rfl rfl (by simp [cN, Value.oneCell']) hlen (by decide) hba ?_))
          intro v6 w6 hown6 hg6 hat6
          have O6 : Hid (OwnN w6 w.heap.size v6 (L ++ [(xs, xl)])) := Lib.hid (OwnN.snoc hown6)
          have kb := (Below.refl (wr.alloc (.cells #[.string ⟨xs.toArray⟩, .string ⟨xl.toArray⟩, .string ⟨xv.toArray⟩] 112)).heap.size _).alloc (Nat.le_refl _) (.cells (cN (xs, xl)).toArray 38)
          have HB6 : Hid (Below w.heap.size w w6) := Lib.hid ((HB2.out.trans (kb.mono hba)).grown hg6 (by rw [World.size_alloc]; omega) (fun j hj => OwnN.ge (l := L) hown hj))
          clear hown6 hg6 hat6 kb hown
          go_wp2
          go_roundg (n - (t + 1))
          case measure => have := hg.out; omega
          case rel => exact ⟨t + 1, by go_num, by omega, Lib.hid (by have := hg.out; omega), Lib.hid (by rw [HSN.out, ← List.append_assoc, HL.out]; exact O6.out), HB6⟩
        · have hti : ¬ (t : Int) < (n : Int) := by omega
          have hO := HO.out
          rw [show ats.take t = ats from List.take_of_length_le (by rw [HLN.out]; omega)] at hO
          obtain ⟨A2, c2, hv, hr⟩ := RRd.ofOwn (c := cN) (fun _ => rfl) (by decide) hO
          subst hv
          have HR := Lib.hid hr
          clear hO hr
          go_wp2
          go_ret
          exact ⟨A2, c2, rfl, HR.out, HB.out⟩
  · have HE : Hid (namesE ⟨k, sp, lo, ats, tx⟩ = [(sp, lo)] ++ namesA ats) := Lib.hid (by unfold namesE; rw [if_neg h35]; rfl)
    rw [HE.out]
    have k3 : (k != 3) = true := by simp; omega
    have k5 : (k != 5) = true := by simp; omega
    have own0 : (w.alloc (.cells #[.int .i64 k, .string ⟨sp.toArray⟩, .string ⟨lo.toArray⟩, .slice A n cap, .string ⟨tx.toArray⟩] 41)).ownsRow w.heap.size 38 2 (.slice none 0 0) ([] : List (List UInt8 × List UInt8)).length (([] : List (List UInt8 × List UInt8)).flatMap cN) := ⟨rfl, .inl ⟨rfl, rfl⟩⟩
    have hba : w.heap.size ≤ (w.alloc (.cells #[.int .i64 k, .string ⟨sp.toArray⟩, .string ⟨lo.toArray⟩, .slice A n cap, .string ⟨tx.toArray⟩] 41)).heap.size := by simp
    clear HE h35
    go_enter Tryz.func235, Tryz.ntmps235
    go_wp2_with (first
      | (at_builtin; refine wpList_appH rfl (.tmp 14) (.tmp 17) 236 38 rfl (.agg #[.string ⟨#[]⟩, .string ⟨#[]⟩]) 2 32 Tryz.underlying236 info_name rfl (by decide) w.heap.size _ _ _ rfl own0 (cN (sp, lo)) _ rfl (w.heap.size + 1) (by simp) rfl rfl (by simp [cN, Value.oneCell']) (by decide) (by decide) hba ?_))
    intro v5 w5 hown5 hg5 hat5
    have O0 : Hid (OwnN w5 w.heap.size v5 [(sp, lo)]) := Lib.hid (OwnN.snoc (l := []) hown5)
    have ka := (Below.refl (w.alloc (.cells #[.int .i64 k, .string ⟨sp.toArray⟩, .string ⟨lo.toArray⟩, .slice A n cap, .string ⟨tx.toArray⟩] 41)).heap.size (w.alloc (.cells #[.int .i64 k, .string ⟨sp.toArray⟩, .string ⟨lo.toArray⟩, .slice A n cap, .string ⟨tx.toArray⟩] 41))).alloc (Nat.le_refl _) (.cells (cN (sp, lo)).toArray 38)
    have hg6 : Below (w.alloc (.cells #[.int .i64 k, .string ⟨sp.toArray⟩, .string ⟨lo.toArray⟩, .slice A n cap, .string ⟨tx.toArray⟩] 41)).heap.size (w.alloc (.cells #[.int .i64 k, .string ⟨sp.toArray⟩, .string ⟨lo.toArray⟩, .slice A n cap, .string ⟨tx.toArray⟩] 41)) w5 := ka.grown hg5 ka.size (fun j hj => by cases hj)
    have J5 := Lib.hid (J0.out.kept hg6)
    clear hown5 hg5 hat5 ka hg6 z0 z1 z2 z3 z4 own0 hba
    have z3 := cell_of 3 J5.out.2
    go_wp2
    go_loopg [3, 22] (n) (fun g v i wr => ∃ t : Nat, i = .int .i64 (t : Int) ∧ t ≤ n ∧ Hid (g + t = n) ∧ Hid (OwnN wr w.heap.size v ([(sp, lo)] ++ namesA (ats.take t))) ∧ Hid (Below w.heap.size w wr))
    case atStart => exact ⟨0, rfl, Nat.zero_le _, Lib.hid rfl, Lib.hid (by simpa [namesA] using O0.out), Lib.hid J5.out.1⟩
    case round =>
      obtain ⟨t, rfl, ht, hg, HO, HB⟩ := hrel
      have ht0 : (0 : Int) ≤ (t : Int) := by omega
      have ht9 : (t : Int) ≤ 100000 := by omega
      by_cases htn : t < n
      · have hti : (t : Int) < (n : Int) := by omega
        obtain ⟨b1, o1, x, rfl, hb1, hx, hc1⟩ := (HP.out _ HB.out).cell htn
        have HSN := Lib.hid (namesA_snoc hx)
        obtain ⟨xs, xl, xv⟩ := x
        have y0 : wr.cell? ⟨b1, o1 + t * 3, none⟩ = some (.string ⟨xs.toArray⟩) := by rw [show o1 + t * 3 = o1 + (t * 3 + 0) by omega]; exact hc1 0 _ rfl
        have y1 : wr.cell? ⟨b1, o1 + t * 3 + 1, none⟩ = some (.string ⟨xl.toArray⟩) := by rw [show o1 + t * 3 + 1 = o1 + (t * 3 + 1) by omega]; exact hc1 1 _ rfl
        have y2 : wr.cell? ⟨b1, o1 + t * 3 + 2, none⟩ = some (.string ⟨xv.toArray⟩) := by rw [show o1 + t * 3 + 2 = o1 + (t * 3 + 2) by omega]; exact hc1 2 _ rfl
        have hlen : ([(sp, lo)] ++ namesA (ats.take t)).length ≤ 1000000000 := by
          rw [List.length_append]
          simp [namesA]
          omega
        obtain ⟨L, hL⟩ : ∃ L, [(sp, lo)] ++ namesA (ats.take t) = L := ⟨_, rfl⟩
        rw [hL] at HO hlen
        have HL := Lib.hid hL
        have ka := (Below.refl wr.heap.size wr).alloc (Nat.le_refl _) (.cells #[.string ⟨xs.toArray⟩, .string ⟨xl.toArray⟩, .string ⟨xv.toArray⟩] 112)
        have hown : (wr.alloc (.cells #[.string ⟨xs.toArray⟩, .string ⟨xl.toArray⟩, .string ⟨xv.toArray⟩] 112)).ownsRow w.heap.size 38 2 _ L.length (L.flatMap cN) := HO.out.kept ka
        have HB2 := Lib.hid (HB.out.trans (ka.mono HB.out.size))
        have hba : w.heap.size ≤ (wr.alloc (.cells #[.string ⟨xs.toArray⟩, .string ⟨xl.toArray⟩, .string ⟨xv.toArray⟩] 112)).heap.size := HB2.out.size
        clear hb1 hx hc1 ka hL
        go_wp2_with (first
          | (at_builtin; refine wpList_appH rfl (.tmp 26) (.tmp 29) 236 38 rfl (.agg #[.string ⟨#[]⟩, .string ⟨#[]⟩]) 2 32 Tryz.underlying236 info_name rfl (by decide) w.heap.size _ _ _ rfl hown (cN (xs, xl)) _ rfl (wr.heap.size + 1) (by simp) rfl rfl (by simp [cN, Value.oneCell']) hlen (by decide) hba ?_))
        intro v6 w6 hown6 hg6 hat6
        have O6 : Hid (OwnN w6 w.heap.size v6 (L ++ [(xs, xl)])) := Lib.hid (OwnN.snoc hown6)
        have kb := (Below.refl (wr.alloc (.cells #[.string ⟨xs.toArray⟩, .string ⟨xl.toArray⟩, .string ⟨xv.toArray⟩] 112)).heap.size _).alloc (Nat.le_refl _) (.cells (cN (xs, xl)).toArray 38)
        have HB6 : Hid (Below w.heap.size w w6) := Lib.hid ((HB2.out.trans (kb.mono hba)).grown hg6 (by rw [World.size_alloc]; omega) (fun j hj => OwnN.ge (l := L) hown hj))
        clear hown6 hg6 hat6 kb hown
        go_wp2
        go_roundg (n - (t + 1))
        case measure => have := hg.out; omega
        case rel => exact ⟨t + 1, by go_num, by omega, Lib.hid (by have := hg.out; omega), Lib.hid (by rw [HSN.out, ← List.append_assoc, HL.out]; exact O6.out), HB6⟩
      · have hti : ¬ (t : Int) < (n : Int) := by omega
        have hO := HO.out
        rw [show ats.take t = ats from List.take_of_length_le (by rw [HLN.out]; omega)] at hO
        obtain ⟨A2, c2, hv, hr⟩ := RRd.ofOwn (c := cN) (fun _ => rfl) (by decide) hO
        subst hv
        have HR := Lib.hid hr
        clear hO hr
        go_wp2
        go_ret
        exact ⟨A2, c2, rfl, HR.out, HB.out⟩
end Go.Proofs.YthihkbcdihochaaGreatDoor
/- The row of default namespaces. -/
namespace Go.Proofs.YthihkbcdihochaaGreatDoor
open Go.ChangeShapes Go.WideShapes Go.ChangeAt Go.RowKit
set_option linter.unusedVariables false
theorem run_cutS4 {w : World} (A : Option Addr) (n cap t : Nat) (ht : t ≤ cap) : (Instr.slice 51 (.slice A n cap) none (some (.int .i64 (t : Int))) none).run Tryz.prog w = .ok (.slice A t cap) w := by
  rw [run_slice_h (P := Tryz.prog) (w := w) 51 A n cap (by kernel_rfl) .i64 (t : Int) (by omega) (by omega), show (sizeOf (Tryz.prog.elem 51)).run Tryz.prog w = .ok 1 w by kernel_rfl]
  simp [sliced]
  intro _
  cases A with
  | none => rfl
  | some a => simp [Addr.add]
/-- A row of strings in a block of its own. -/
def RowB (r : Nat) (op : List (List UInt8)) (W : World) : Prop := ∃ v, W.heap[r]? = some (.cells #[v] 197 (0, 0)) ∧ OwnS W (r + 1) v op
theorem RowB.kept {r : Nat} {op : List (List UInt8)} {w w' : World} (h : RowB r op w) (hb : Below w.heap.size w w') : RowB r op w' := by
  obtain ⟨v, h1, h2⟩ := h
  exact ⟨v, (hb.block _ (lt_of h1)).trans h1, h2.kept hb⟩
theorem RowB.ko {r b : Nat} {op : List (List UInt8)} {w w' : World} (h : RowB r op w) (hk : KO b w w') (hb : b < r) : RowB r op w' := by
  obtain ⟨v, h1, h2⟩ := h
  refine ⟨v, hk r _ (by omega) (fun vs f e => by injection e with _ e2 _; exact absurd e2 (by decide)) h1, ?_⟩
  obtain ⟨hl, hv | ⟨g, cap, cur, hv, hg, hh, x⟩⟩ := h2
  · exact ⟨hl, .inl hv⟩
  · exact ⟨hl, .inr ⟨g, cap, cur, hv, hg, hk g _ (by omega) (fun vs f e => by injection e with _ e2 _; exact absurd e2 (by decide)) hh, x⟩⟩
/-- What lies below r stands, and every block but r that holds no strings. -/
def PK (r : Nat) (w w' : World) : Prop := Below r w w' ∧ ∀ k o, k ≠ r → (∀ vs f, o ≠ .cells vs 9 f) → w.heap[k]? = some o → w'.heap[k]? = some o
theorem PK.drew {r : Nat} {w w' : World} (h : PK r w w') : PK r w w'.drew := ⟨h.1.drew, h.2⟩
theorem Bld.pk {R b r : Nat} {l : List UInt8} {op : List (List UInt8)} {w w' : World} (h : Bld R b l w) (hr : RowB r op w) (hk : PK r w w') (hb : b < r) : Bld R b l w' := by
  obtain ⟨v0, h0, _⟩ := hr
  have aux : ∀ p, BldP p R b l w → BldP p R b l w' := by
    rintro p ⟨h1, v, h2, hl, hv | ⟨g, cap, cur, hv, hg, hh, x⟩⟩
    · exact ⟨h1, v, (hk.1.block _ hb).trans h2, hl, .inl hv⟩
    · by_cases hgr : g = r
      · subst hgr
        rw [h0] at hh
        injection hh with hh
        injection hh with _ e2 _
        exact absurd e2 (by decide)
      · exact ⟨h1, v, (hk.1.block _ hb).trans h2, hl, .inr ⟨g, cap, cur, hv, hg, hk.2 g _ hgr (fun vs f e => by injection e with _ e2 _; exact absurd e2 (by decide)) hh, x⟩⟩
  rcases h with h | h
  · exact .inl (aux _ h)
  · exact .inr (aux _ h)
set_option maxRecDepth 100000 in
set_option maxHeartbeats 4000000 in
theorem cnTop_no (r : Nat) (w : World) (h : RowB r [] w) : Calls Tryz.prog 111 #[.pointer (some ⟨r, 0, none⟩)] w fun e w' => e = .returned (.string ⟨#[]⟩) ∧ Below w.heap.size w w' := by
  obtain ⟨v, hv, ho⟩ := h
  obtain ⟨A, c, rfl⟩ := ho.form
  have z0 : w.cell? ⟨r, 0, none⟩ = some (.slice A 0 c) := by rw [cell_of 0 hv]; rfl
  clear hv ho
  go_enter Tryz.func111, Tryz.ntmps111
  go_wp2
  go_ret
  exact ⟨rfl, Below.refl _ _⟩
set_option maxRecDepth 100000 in
set_option maxHeartbeats 4000000 in
theorem cnTop_one (r : Nat) (x : List UInt8) (w : World) (h : RowB r [x] w) : Calls Tryz.prog 111 #[.pointer (some ⟨r, 0, none⟩)] w fun e w' => e = .returned (.string ⟨x.toArray⟩) ∧ Below w.heap.size w w' := by
  obtain ⟨v, hv, ho⟩ := h
  obtain ⟨g, c, rfl, hg⟩ : ∃ g c, v = .slice (some ⟨g, 0, none⟩) 1 c ∧ w.cell? ⟨g, 0, none⟩ = some (.string ⟨x.toArray⟩) := by
    obtain ⟨A, c, rfl⟩ := ho.form
    obtain ⟨hl, ⟨hv, h0⟩ | ⟨g, cap, cur, hv, r⟩⟩ := id ho
    · cases h0
    · injection hv with e1 e2 e3
      subst e1
      refine ⟨g, c, rfl, ?_⟩
      have := ho.cells 0 (strV x) rfl
      rw [addr_add] at this
      exact this
  have z0 : w.cell? ⟨r, 0, none⟩ = some (.slice (some ⟨g, 0, none⟩) 1 c) := by rw [cell_of 0 hv]; rfl
  clear hv ho
  go_enter Tryz.func111, Tryz.ntmps111
  go_wp2
  go_region
  go_wp2
  go_ret
  exact ⟨rfl, (Below.refl _ _).drew⟩
set_option maxRecDepth 100000 in
set_option maxHeartbeats 4000000 in
theorem cnPush_c (r : Nat) (x : List UInt8) (W : World) (h : RowB r [] W) : Calls Tryz.prog 112 #[.pointer (some ⟨r, 0, none⟩), .string ⟨x.toArray⟩] W fun e w' => e = .returned (.tuple #[]) ∧ RowB r [x] w' ∧ PK r W w' := by
  obtain ⟨sv, hq, ho⟩ := h
  have z0 := cell_of 0 hq
  have hown2 := ho
  unfold OwnS at hown2
  have HQ := Lib.hid hq
  have HO := Lib.hid ho
  have hsW : r < W.heap.size := lt_of hq
  have hbW : r + 1 ≤ W.heap.size := hsW
  clear hq ho
  go_enter Tryz.func112, Tryz.ntmps112
  go_wp2_with (at_builtin; refine wpList_appK rfl (.tmp 8) (.tmp 10) 51 9 rfl (.string ⟨#[]⟩) 1 16 Tryz.underlying51 info_str rfl (by decide) (r + 1) _ _ _ rfl hown2 [strV x] _ rfl rfl rfl (by simp [strV, Value.oneCell']) (by decide) (by decide) hbW ?_)
  intro v4 w4 hown4 hg4 hat4
  have hs4 := hg4.size
  rw [World.size_alloc] at hs4
  have HO4 : OwnS w4 (r + 1) v4 [x] := hown4
  obtain ⟨A6, n6, c6, rfl⟩ : ∃ A n c, v4 = .slice A n c := by
    obtain ⟨A6, c6, h6⟩ := HO4.form
    exact ⟨_, _, _, h6⟩
  have hne : ∀ k, k ≤ r → some k ≠ sv.ownBlock := fun k hk e => by
    have := (hown2.lt _ e.symm).1
    omega
  have hq4 : w4.heap[r]? = some (.cells #[sv] 197 (0, 0)) := by
    rw [hg4.block r (by rw [World.size_alloc]; omega) (hne r (Nat.le_refl _)), Below.heap_alloc _ _ _ hsW]
    exact HQ.out
  have x0 := cell_of 0 hq4
  have y0 := free_of 0 hq4
  have hM : PK r W w4 := by
    refine ⟨(((Below.refl r W).alloc (Nat.le_of_lt hsW) _).grown hg4 (by rw [World.size_alloc]; omega) fun k hk => ?_), fun k o hne2 hT hk => ?_⟩
    · have := (hown2.lt _ hk).1
      omega
    · have hkl := lt_of hk
      rw [hg4.block k (by rw [World.size_alloc]; omega) (ownsRow_typeO HO.out hk hT), Below.heap_alloc _ _ _ hkl]
      exact hk
  have HF : Hid (RowB r [x] (w4.setCell ⟨r, 0, none⟩ (.slice A6 n6 c6)) ∧ PK r W (w4.setCell ⟨r, 0, none⟩ (.slice A6 n6 c6))) := Lib.hid ⟨⟨_, hp_set hq4, ownsRow_keep HO4 fun g hg _ => hp_other (by omega)⟩, hM.1.setCell (p := ⟨r, 0, none⟩) (Nat.le_refl _) _, fun k o h1 h2 h3 => by rw [hp_other h1]; exact hM.2 k o h1 h2 h3⟩
  clear hown4 hg4 hat4 HO4 hM hq4 hne
  go_wp2
  go_end0
  exact ⟨rfl, HF.out⟩
set_option maxRecDepth 100000 in
set_option maxHeartbeats 4000000 in
theorem cnPop_c (r : Nat) (x : List UInt8) (W : World) (h : RowB r [x] W) : Calls Tryz.prog 113 #[.pointer (some ⟨r, 0, none⟩)] W fun e w' => e = .returned (.tuple #[]) ∧ PK r W w' := by
  obtain ⟨sv, hq, ho⟩ := h
  obtain ⟨A, c, rfl⟩ := ho.form
  have hc : ([x] : List (List UInt8)).length ≤ c ∨ c = 0 := by
    obtain ⟨hl, ⟨hv, h0⟩ | ⟨g, cap, cur, hv, hg, hh, h3, h4, h5, h6⟩⟩ := id ho
    · cases h0
    · injection hv with e1 e2 e3
      subst e3
      exact .inl h3
  have hc1 : 1 ≤ c := by
    obtain ⟨hl, ⟨hv, h0⟩ | ⟨g, cap, cur, hv, hg, hh, h3, h4, h5, h6⟩⟩ := id ho
    · cases h0
    · injection hv with e1 e2 e3
      subst e3
      exact h3
  have z0 : ∀ n, (W.drewN n).cell? ⟨r, 0, none⟩ = some (.slice A 1 c) := fun n => by
    have := cell_of 0 hq
    exact this
  have z1 : W.cell? ⟨r, 0, none⟩ = some (.slice A 1 c) := cell_of 0 hq
  have z2 : W.drew.cell? ⟨r, 0, none⟩ = some (.slice A 1 c) := cell_of 0 hq
  have y0 : W.frozen? ⟨r, 0, none⟩ = false := free_of 0 hq
  have y1 : W.drew.frozen? ⟨r, 0, none⟩ = false := free_of 0 hq
  have hcut := fun W => run_cutS4 (w := W) A 1 c 0 (by omega)
  have hM : Hid (∀ w2 v, w2.heap = W.heap → Below W.heap.size W w2 → PK r W (w2.setCell ⟨r, 0, none⟩ v)) := Lib.hid fun w2 v he hb => ⟨(hb.mono (Nat.le_of_lt (lt_of hq))).setCell (p := ⟨r, 0, none⟩) (Nat.le_refl _) _, fun k o h1 h2 h3 => by rw [hp_other h1, he]; exact h3⟩
  clear hq ho hc
  go_enter Tryz.func113, Tryz.ntmps113
  go_wp2
  go_region
  all_goals
    go_end0
    refine ⟨rfl, ?_⟩
    first
      | exact hM.out _ _ rfl (Below.refl _ _)
      | exact (hM.out _ _ rfl (Below.refl _ _)).drew
      | exact hM.out _ _ rfl (Below.refl _ _).drew
end Go.Proofs.YthihkbcdihochaaGreatDoor
/- The document's Names. -/
namespace Go.Proofs.YthihkbcdihochaaGreatDoor
open Go.ChangeShapes Go.WideShapes Go.ChangeAt Go.RowKit
set_option linter.unusedVariables false
end Go.Proofs.YthihkbcdihochaaGreatDoor
/- slices.ContainsFunc of names. -/
namespace Go.Proofs.YthihkbcdihochaaGreatDoor
open Go.ChangeShapes Go.WideShapes Go.ChangeAt Go.RowKit
set_option linter.unusedVariables false
/-- The first name that is so, from a place on. -/
def firstN (p : List UInt8 × List UInt8 → Bool) : List (List UInt8 × List UInt8) → Nat → Int
  | [], _ => -1
  | x :: l, i => if p x = true then (i : Int) else firstN p l (i + 1)
theorem firstN_any (p : List UInt8 × List UInt8 → Bool) : ∀ (l : List (List UInt8 × List UInt8)) (i : Nat), decide (0 ≤ firstN p l i) = l.any p
  | [], _ => rfl
  | x :: l, i => by
    rw [firstN, List.any_cons]
    cases h : p x with
    | true => simp
    | false => rw [if_neg (by simp), firstN_any p l (i + 1), Bool.false_or]
set_option maxRecDepth 100000 in
set_option maxHeartbeats 4000000 in
theorem indexFunc_c (fid : FuncId) (p : List UInt8 × List UInt8 → Bool) (A : Option Addr) (n cap : Nat) (l : List (List UInt8 × List UInt8)) (w : World) (h : RRd cN 2 w w.heap.size A n cap l) (hm : n ≤ 1000000)
    (ec : ∀ args w, (callFunc fid args).run Tryz.prog w = .ok (.enter fid args) w) (HM : ∀ x ∈ l, ∀ W, Below w.heap.size w W → Calls Tryz.prog fid #[.agg #[.string ⟨x.1.toArray⟩, .string ⟨x.2.toArray⟩]] W fun e w' => e = .returned (.bool (p x)) ∧ Below W.heap.size W w') :
    Calls Tryz.prog 257 #[.slice A n cap, .func (.func fid) #[] #[]] w fun e w' => e = .returned (.int .i64 (firstN p l 0)) ∧ Below w.heap.size w w' := by
  have HP : Hid (∀ W, Below w.heap.size w W → RRd cN 2 W W.heap.size A n cap l) := Lib.hid fun W hb => (h.below hb).more hb.size
  have HMM := Lib.hid HM
  have HLN : Hid (l.length = n) := Lib.hid h.len
  have HF : Hid (firstN p l 0 = firstN p (l.drop 0) 0) := Lib.hid rfl
  generalize firstN p l 0 = R at *
  clear h HM
  go_enter Tryz.func257, Tryz.ntmps257
  go_wp2
  go_loopg [8] (n) (fun g i wr => ∃ t : Nat, i = .int .i64 (t : Int) ∧ t ≤ n ∧ Hid (g + t = n) ∧ Hid (R = firstN p (l.drop t) t) ∧ Hid (Below w.heap.size w wr))
  case atStart => exact ⟨0, rfl, Nat.zero_le _, Lib.hid rfl, HF, Lib.hid (Below.refl _ _)⟩
  case round =>
    obtain ⟨t, rfl, ht, hg, HA, HB⟩ := hrel
    have ht0 : (0 : Int) ≤ (t : Int) := by omega
    have ht9 : (t : Int) ≤ 1000000 := by omega
    by_cases htn : t < n
    · have hti : (t : Int) < (n : Int) := by omega
      obtain ⟨b1, o1, x, rfl, hb1, hx, hc1⟩ := (HP.out _ HB.out).cell htn
      have HC := Lib.hid (HMM.out x (List.mem_of_getElem? hx) wr HB.out)
      have hdr : l.drop t = x :: l.drop (t + 1) := by
        have hl := (List.getElem?_eq_some_iff.1 hx).1
        have he : l[t] = x := by rw [List.getElem?_eq_getElem hl] at hx; exact Option.some.inj hx
        rw [List.drop_eq_getElem_cons hl, he]
      have hA := HA.out
      rw [hdr, firstN] at hA
      obtain ⟨xs, xl⟩ := x
      have y0 : wr.cell? ⟨b1, o1 + t * 2, none⟩ = some (.string ⟨xs.toArray⟩) := by rw [show o1 + t * 2 = o1 + (t * 2 + 0) by omega]; exact hc1 0 _ rfl
      have y1 : wr.cell? ⟨b1, o1 + t * 2 + 1, none⟩ = some (.string ⟨xl.toArray⟩) := by rw [show o1 + t * 2 + 1 = o1 + (t * 2 + 1) by omega]; exact hc1 1 _ rfl
      clear hb1 hx hc1 hdr
      cases hp : p (xs, xl) with
      | true =>
        rw [hp, if_pos rfl] at hA
        rw [hp] at HC
        have HA2 := Lib.hid hA
        clear hA hp HA
        go_wp2_with fail
        refine HC.out.mono ?_
        rintro e w2 ⟨rfl, hb2⟩
        have HB2 := Lib.hid (HB.out.trans (hb2.mono HB.out.size))
        clear hb2
        go_wp2
        go_ret
        exact ⟨by rw [HA2.out]; rfl, HB2.out⟩
      | false =>
        rw [hp, if_neg (by simp)] at hA
        rw [hp] at HC
        have HA2 := Lib.hid hA
        clear hA hp HA
        go_wp2_with fail
        refine HC.out.mono ?_
        rintro e w2 ⟨rfl, hb2⟩
        have HB2 := Lib.hid (HB.out.trans (hb2.mono HB.out.size))
        clear hb2
        go_wp2
        go_roundg (n - (t + 1))
        case measure => have := hg.out; omega
        case rel => exact ⟨t + 1, by go_num, by omega, Lib.hid (by have := hg.out; omega), HA2, HB2⟩
    · have hti : ¬ (t : Int) < (n : Int) := by omega
      have hA := HA.out
      rw [List.drop_of_length_le (by rw [HLN.out]; omega), firstN] at hA
      have HA2 := Lib.hid hA
      clear hA HA
      go_wp2
      go_ret
      exact ⟨by rw [HA2.out]; rfl, HB.out⟩
set_option maxRecDepth 100000 in
set_option maxHeartbeats 4000000 in
theorem containsFunc_c (fid : FuncId) (p : List UInt8 × List UInt8 → Bool) (A : Option Addr) (n cap : Nat) (l : List (List UInt8 × List UInt8)) (w : World) (h : RRd cN 2 w w.heap.size A n cap l) (hm : n ≤ 1000000)
    (ec : ∀ args w, (callFunc fid args).run Tryz.prog w = .ok (.enter fid args) w) (HM : ∀ x ∈ l, ∀ W, Below w.heap.size w W → Calls Tryz.prog fid #[.agg #[.string ⟨x.1.toArray⟩, .string ⟨x.2.toArray⟩]] W fun e w' => e = .returned (.bool (p x)) ∧ Below W.heap.size W w') :
    Calls Tryz.prog 234 #[.slice A n cap, .func (.func fid) #[] #[]] w fun e w' => e = .returned (.bool (l.any p)) ∧ Below w.heap.size w w' := by
  have C1 := Lib.hid (indexFunc_c fid p A n cap l w h hm ec HM)
  rw [← firstN_any p l 0]
  clear h hm HM
  generalize firstN p l 0 = R at *
  go_enter Tryz.func234, Tryz.ntmps234
  go_wp2_with fail
  refine C1.out.mono ?_
  rintro e w1 ⟨rfl, hb⟩
  have HB := Lib.hid hb
  clear hb
  go_wp2
  go_ret
  exact ⟨rfl, HB.out⟩
end Go.Proofs.YthihkbcdihochaaGreatDoor
/- check.named, check.short. -/
namespace Go.Proofs.YthihkbcdihochaaGreatDoor
open Go.ChangeShapes Go.WideShapes Go.ChangeAt Go.RowKit
set_option linter.unusedVariables false
theorem all_any {α : Type} (l : List α) (p q : α → Bool) (h : ∀ x, q x = !p x) : (!l.any q) = l.all p := by
  induction l with
  | nil => rfl
  | cons a t ih => rw [List.any_cons, List.all_cons, Bool.not_or, ih, h, Bool.not_not]
set_option maxRecDepth 100000 in
set_option maxHeartbeats 4000000 in
theorem named_c (k : Int) (sp lo tx : List UInt8) (A : Option Addr) (n cap : Nat) (ats : List (List UInt8 × List UInt8 × List UInt8)) (w : World) (h : RRd cA 3 w w.heap.size A n cap ats) (hm : n ≤ 100000) (hT : Tabs w) (hF : Forms w) (hl : ∀ x ∈ namesE ⟨k, sp, lo, ats, tx⟩, x.2.length ≤ 50000) :
    Calls Tryz.prog 208 #[.agg #[.int .i64 k, .string ⟨sp.toArray⟩, .string ⟨lo.toArray⟩, .slice A n cap, .string ⟨tx.toArray⟩]] w fun e w' => e = .returned (.bool (namedB (namesE ⟨k, sp, lo, ats, tx⟩))) ∧ Below w.heap.size w w' := by
  have J0 := Lib.hid (CJ.start 41 w #[.int .i64 k, .string ⟨sp.toArray⟩, .string ⟨lo.toArray⟩, .slice A n cap, .string ⟨tx.toArray⟩])
  have z0 := cell_of 0 J0.out.2
  have z1 := cell_of 1 J0.out.2
  have z2 := cell_of 2 J0.out.2
  have z3 := cell_of 3 J0.out.2
  have z4 := cell_of 4 J0.out.2
  have hnl : (namesE ⟨k, sp, lo, ats, tx⟩).length ≤ n + 1 := by
    have := h.len
    unfold namesE namesA
    split <;> simp <;> omega
  have C1 := Lib.hid (ckNames_c k sp lo tx A n cap ats _ ((h.below J0.out.1).more J0.out.1.size) hm)
  have hR : namedB (namesE ⟨k, sp, lo, ats, tx⟩) = !(namesE ⟨k, sp, lo, ats, tx⟩).any (fun x => !isPl x.2) := (all_any _ _ _ (fun x => rfl)).symm
  rw [hR]
  have C2 : Hid (∀ (W : World) (A2 : Option Addr) (c2 : Nat), Below w.heap.size w W → RRd cN 2 W W.heap.size A2 (namesE ⟨k, sp, lo, ats, tx⟩).length c2 (namesE ⟨k, sp, lo, ats, tx⟩) → Calls Tryz.prog 234 #[.slice A2 (namesE ⟨k, sp, lo, ats, tx⟩).length c2, .func (.func 236) #[] #[]] W fun e w' => e = .returned (.bool ((namesE ⟨k, sp, lo, ats, tx⟩).any (fun x => !isPl x.2))) ∧ Below W.heap.size W w') := Lib.hid fun W A2 c2 hb hr => containsFunc_c _ (fun x => !isPl x.2) A2 _ c2 _ W hr (by omega) (enters_of Tryz.func236 (by kernel_rfl) rfl) (fun x hx W' hb' => named1_c x.1 x.2 W' ((hT.below hb (hT.low hF)).below hb' ((hT.below hb (hT.low hF)).low (hF.below hb hF.lt))) ((hF.below hb hF.lt).below hb' (hF.below hb hF.lt).lt) (hl x hx))
  clear h hm hnl hR hT hF hl
  generalize namesE ⟨k, sp, lo, ats, tx⟩ = l at *
  generalize hany : l.any (fun x => !isPl x.2) = b at *
  generalize hll : l.length = m at *
  clear hany hll
  go_enter Tryz.func208, Tryz.ntmps208
  go_wp2_with fail
  refine C1.out.mono ?_
  rintro e w1 ⟨A2, c2, rfl, hr, hb⟩
  have HB1 := Lib.hid (J0.out.1.trans (hb.mono J0.out.1.size))
  have C3 := Lib.hid (C2.out w1 A2 c2 HB1.out hr)
  clear hr hb C2 C1
  go_wp2_with fail
  refine C3.out.mono ?_
  rintro e w2 ⟨rfl, hb⟩
  have HB2 := Lib.hid (HB1.out.trans (hb.mono HB1.out.size))
  clear hb
  go_wp2
  go_ret
  exact ⟨rfl, HB2.out⟩
set_option maxRecDepth 100000 in
set_option maxHeartbeats 4000000 in
theorem short_c (k : Int) (sp lo tx : List UInt8) (A : Option Addr) (n cap : Nat) (ats : List (List UInt8 × List UInt8 × List UInt8)) (w : World) (h : RRd cA 3 w w.heap.size A n cap ats) (hm : n ≤ 100000) :
    Calls Tryz.prog 210 #[.agg #[.int .i64 k, .string ⟨sp.toArray⟩, .string ⟨lo.toArray⟩, .slice A n cap, .string ⟨tx.toArray⟩]] w fun e w' => e = .returned (.bool (shortB (namesE ⟨k, sp, lo, ats, tx⟩))) ∧ Below w.heap.size w w' := by
  have J0 := Lib.hid (CJ.start 41 w #[.int .i64 k, .string ⟨sp.toArray⟩, .string ⟨lo.toArray⟩, .slice A n cap, .string ⟨tx.toArray⟩])
  have z0 := cell_of 0 J0.out.2
  have z1 := cell_of 1 J0.out.2
  have z2 := cell_of 2 J0.out.2
  have z3 := cell_of 3 J0.out.2
  have z4 := cell_of 4 J0.out.2
  have hnl : (namesE ⟨k, sp, lo, ats, tx⟩).length ≤ n + 1 := by
    have := h.len
    unfold namesE namesA
    split <;> simp <;> omega
  have C1 := Lib.hid (ckNames_c k sp lo tx A n cap ats _ ((h.below J0.out.1).more J0.out.1.size) hm)
  have hR : shortB (namesE ⟨k, sp, lo, ats, tx⟩) = !(namesE ⟨k, sp, lo, ats, tx⟩).any (fun x => !decide (x.2.length ≤ 1024)) := (all_any _ _ _ (fun x => rfl)).symm
  rw [hR]
  have C2 : Hid (∀ (W : World) (A2 : Option Addr) (c2 : Nat), Below w.heap.size w W → RRd cN 2 W W.heap.size A2 (namesE ⟨k, sp, lo, ats, tx⟩).length c2 (namesE ⟨k, sp, lo, ats, tx⟩) → Calls Tryz.prog 234 #[.slice A2 (namesE ⟨k, sp, lo, ats, tx⟩).length c2, .func (.func 241) #[] #[]] W fun e w' => e = .returned (.bool ((namesE ⟨k, sp, lo, ats, tx⟩).any (fun x => !decide (x.2.length ≤ 1024)))) ∧ Below W.heap.size W w') := Lib.hid fun W A2 c2 hb hr => containsFunc_c _ (fun x => !decide (x.2.length ≤ 1024)) A2 _ c2 _ W hr (by omega) (enters_of Tryz.func241 (by kernel_rfl) rfl) (fun x hx W' hb' => short1_c x.1 x.2 W')
  clear h hm hnl hR
  generalize namesE ⟨k, sp, lo, ats, tx⟩ = l at *
  generalize hany : l.any (fun x => !decide (x.2.length ≤ 1024)) = b at *
  generalize hll : l.length = m at *
  clear hany hll
  go_enter Tryz.func210, Tryz.ntmps210
  go_wp2_with fail
  refine C1.out.mono ?_
  rintro e w1 ⟨A2, c2, rfl, hr, hb⟩
  have HB1 := Lib.hid (J0.out.1.trans (hb.mono J0.out.1.size))
  have C3 := Lib.hid (C2.out w1 A2 c2 HB1.out hr)
  clear hr hb C2 C1
  go_wp2_with fail
  refine C3.out.mono ?_
  rintro e w2 ⟨rfl, hb⟩
  have HB2 := Lib.hid (HB1.out.trans (hb.mono HB1.out.size))
  clear hb
  go_wp2
  go_ret
  exact ⟨rfl, HB2.out⟩
end Go.Proofs.YthihkbcdihochaaGreatDoor
/- utf.all: an iterator. -/
namespace Go.Proofs.YthihkbcdihochaaGreatDoor
open Go.ChangeShapes Go.WideShapes Go.ChangeAt Go.RowKit
set_option linter.unusedVariables false
attribute [local go_sem] Oper.semAt_some
/-- What the iterator over bytes' characters hands over, one by one. -/
def itemsL : Nat → List UInt8 → Nat → List (Int × Int)
  | 0, _, _ => []
  | _ + 1, [], _ => []
  | f + 1, c :: t, k => match dec (c :: t) with
    | some (r, n) => ((r : Int), 0) :: itemsL f ((c :: t).drop n) (k + n)
    | none => [((k : Int), 5)]
theorem itemsL_nil (f k : Nat) : itemsL f [] k = [] := by cases f <;> rfl
theorem itemsL_some (f : Nat) (l : List UInt8) (k r n : Nat) (h : dec l = some (r, n)) : itemsL (f + 1) l k = ((r : Int), 0) :: itemsL f (l.drop n) (k + n) := by
  cases l with
  | nil => simp [dec] at h
  | cons c t => simp only [itemsL, h]
theorem itemsL_none (f : Nat) (l : List UInt8) (k : Nat) (h0 : l ≠ []) (h : dec l = none) : itemsL (f + 1) l k = [((k : Int), 5)] := by
  cases l with
  | nil => exact absurd rfl h0
  | cons c t => simp only [itemsL, h]
theorem items_eq (f : Nat) : ∀ (l : List UInt8) (k : Nat), ∃ z : Int, itemsL f l k = (runesL f l).1.map (fun (r : Nat) => (Int.ofNat r, (0 : Int))) ++ (if (runesL f l).2 = true then [] else [(z, 5)]) := by
  induction f with
  | zero => intro l k; exact ⟨0, rfl⟩
  | succ f ih =>
    intro l k
    by_cases h0 : l = []
    · subst h0; rw [itemsL_nil, runesL_nil]; exact ⟨0, rfl⟩
    · cases hd : dec l with
      | none => rw [itemsL_none f l k h0 hd, runesL_none f l h0 hd]; exact ⟨k, rfl⟩
      | some x =>
        obtain ⟨r, n⟩ := x
        obtain ⟨z, hz⟩ := ih (l.drop n) (k + n)
        rw [itemsL_some f l k r n hd, runesL_some f l r n hd, hz]
        exact ⟨z, rfl⟩
def AllPost (items : List (Int × Int)) (J Jx : List (Int × Int) → World → Prop) (e : Ending) (W' : World) : Prop := (∃ v, e = .returned v) ∧ ((∃ ys, ys = items ∧ J ys W') ∨ (∃ pre, pre <+: items ∧ Jx pre W'))
def encI (x : Int × Int) : Array Value := #[.int .i64 x.1, .int .i64 x.2]
/-- What a round keeps for the iterator: what lay below S, and the block Bn. -/
def KpB (S Bn : Nat) (W W' : World) : Prop := Below S W W' ∧ W'.heap[Bn]? = W.heap[Bn]?
theorem KpB.trans {S Bn : Nat} {X Y Z : World} (h : KpB S Bn X Y) (k : KpB S Bn Y Z) : KpB S Bn X Z := ⟨h.1.trans k.1, k.2.trans h.2⟩
set_option maxRecDepth 100000 in
set_option maxHeartbeats 800000 in
theorem utfAll1_in (m : Nat) (hm1 : 1 ≤ m) (lr Bn S : Nat) (A : Option Addr) (n cap : Nat) (l : List UInt8) (J Jx : List (Int × Int) → World → Prop) (W : World) (hJ : AbidesFrom W.heap.size J)
    (hY : ∀ pre x W1, J pre W1 → pre.length < n + 1 → YieldAt Fence.wide (m - 1) Tryz.prog lr (encI x) W1 fun e W' =>
      (e = .returned (.bool true) ∧ J (pre ++ [x]) W' ∧ KpB S Bn W1 W') ∨ (e = .returned (.bool false) ∧ Jx (pre ++ [x]) W'))
    (hm : n ≤ 1100000) (hBn : W.cell? ⟨Bn, 0, none⟩ = some (.slice A n cap)) (hB : Byt W S A n cap l) (hF : Forms W) (hS : 0 < S) (h0 : J [] W) :
    CallsIn Fence.wide m Tryz.prog 275 #[.func (.yield lr) #[] #[], .pointer (some ⟨Bn, 0, none⟩)] W (AllPost (itemsL l.length l 0) J Jx) := by
  have hl := hB.length
  have HJ := Lib.hid hJ
  have HY := Lib.hid hY
  have HB := Lib.hid (And.intro hB (And.intro hF hS))
  have HL := Lib.hid hl
  have HBN := Lib.hid hBn
  have H0 : Hid (itemsL l.length l 0 = [] ++ itemsL l.length (l.drop 0) 0 ∧ J [] W) := Lib.hid ⟨rfl, h0⟩
  clear hJ hY hB hF hS hl h0 hBn
  refine callsIn_of_wp Tryz.func275 rfl trivial ?_ rfl
  simp only [Tryz.ntmps275, List.size_toArray, List.length_cons, List.length_nil, Nat.reduceAdd, Nat.reduceSub, Array.replicate_succ, Array.replicate_zero, List.push_toArray, List.append_toArray, List.nil_append, List.cons_append]
  gi_wp2
  gi_loopw [3] (fun i wr => ∃ (k f : Nat) (pre : List (Int × Int)), k ≤ n ∧ i = .int .i64 (k : Int) ∧ Hid (n ≤ k + f) ∧ Hid (pre.length ≤ k) ∧ Hid (itemsL l.length l 0 = pre ++ itemsL f (l.drop k) k ∧ J pre wr) ∧ Hid (KpB S Bn W wr))
    (fun i _ => n - (intOf i).toNat)
  case atStart => exact ⟨0, l.length, [], Nat.zero_le _, rfl, Lib.hid (by rw [HL.out]; omega), Lib.hid (Nat.le_refl _), H0, Lib.hid ⟨Below.refl _ _, rfl⟩⟩
  case round =>
    obtain ⟨k, f, pre, hk, rfl, hf, hp, HI, HK⟩ := hrel
    have hbx : wr.cell? ⟨Bn, 0, none⟩ = some (.slice A n cap) := (World.cell?_of_block (a := ⟨Bn, 0, none⟩) HK.out.2).trans HBN.out
    have hk0 : (0 : Int) ≤ (k : Int) := by omega
    have hk1 : (k : Int) ≤ 1100000 := by omega
    by_cases hkn : k < n
    · have hkni : (k : Int) < (n : Int) := by omega
      have HC := Lib.hid (decode_c A n cap l k wr _ (HB.out.1.below HK.out.1) (HB.out.2.1.below HK.out.1 HB.out.2.2) hkn (by omega))
      have hne : l.drop k ≠ [] := by
        intro e
        have := congrArg List.length e
        rw [List.length_drop, HL.out] at this
        simp at this
        omega
      obtain ⟨f', hf'⟩ : ∃ f', f = f' + 1 := ⟨f - 1, by have := hf.out; omega⟩
      cases hd : dec (l.drop k) with
      | none =>
        have HE : Hid (itemsL l.length l 0 = pre ++ [((k : Int), 5)]) := Lib.hid (by rw [HI.out.1, hf', itemsL_none f' _ k hne hd])
        rw [hd] at HC
        unfold decOut at HC
        clear hd hne hf'
        gi_wp2_with (first | (refine ⟨trivial, ?_⟩; gi_at_call 268; refine (callsIn_wide.2 HC.out).mono ?_; rintro e w1 ⟨rfl, q, rfl⟩; refine Hid.out ?_) | (gi_at_call 268; refine (callsIn_wide.2 HC.out).mono ?_; rintro e w1 ⟨rfl, q, rfl⟩; refine Hid.out ?_))
        refine Lib.hid ?_
        generalize hw1 : wr.drewN q = w1
        have J1 : J pre w1 := HJ.out pre wr w1 none HI.out.2 (by rw [← hw1]; exact (gr_refl wr none).drewN) (fun r e => by cases e)
        have hbx1 : w1.cell? ⟨Bn, 0, none⟩ = some (.slice A n cap) := by rw [← hw1]; exact hbx
        clear hw1
        obtain ⟨fn, tmps, assign, body, hy, hR⟩ := HY.out pre ((k : Int), 5) w1 J1 (by have := hp.out; omega)
        unfold encI at hy
        dsimp only at hy
        gi_wp2
        refine hR.mono ?_
        rintro e W3 (⟨rfl, hJ3, hk3⟩ | ⟨rfl, hJx3⟩)
        · have HJ3 := Lib.hid hJ3
          clear hJ3 hk3 hR hy
          gi_wp2
          go_end0
          exact ⟨⟨_, rfl⟩, .inl ⟨_, rfl, by rw [HE.out]; exact HJ3.out⟩⟩
        · have HJ3 := Lib.hid hJx3
          clear hJx3 hR hy
          gi_wp2
          go_end0
          exact ⟨⟨_, rfl⟩, .inr ⟨pre ++ [((k : Int), 5)], by rw [HE.out]; exact List.prefix_refl _, HJ3.out⟩⟩
      | some x =>
        obtain ⟨r, mm⟩ := x
        have hle := dec_le _ r mm hd
        rw [List.length_drop, HL.out] at hle
        have HE : Hid (itemsL l.length l 0 = (pre ++ [((r : Int), 0)]) ++ itemsL f' (l.drop (k + mm)) (k + mm)) := Lib.hid (by
          rw [HI.out.1, hf', itemsL_some f' _ k r mm hd, List.drop_drop]; simp)
        have HF : Hid (n ≤ k + mm + f') := Lib.hid (by have := hf.out; omega)
        rw [hd] at HC
        unfold decOut at HC
        have HLE := Lib.hid hle
        clear hd hne hf' hle
        gi_wp2_with (first | (refine ⟨trivial, ?_⟩; gi_at_call 268; refine (callsIn_wide.2 HC.out).mono ?_; rintro e w1 ⟨rfl, q, rfl⟩; refine Hid.out ?_) | (gi_at_call 268; refine (callsIn_wide.2 HC.out).mono ?_; rintro e w1 ⟨rfl, q, rfl⟩; refine Hid.out ?_))
        refine Lib.hid ?_
        generalize hw1 : wr.drewN q = w1
        have J1 : J pre w1 := HJ.out pre wr w1 none HI.out.2 (by rw [← hw1]; exact (gr_refl wr none).drewN) (fun r e => by cases e)
        have HK1 : Hid (KpB S Bn W w1) := Lib.hid (by rw [← hw1]; exact ⟨below_drewN' HK.out.1, HK.out.2⟩)
        clear hw1
        obtain ⟨fn, tmps, assign, body, hy, hR⟩ := HY.out pre ((r : Int), 0) w1 J1 (by have := hp.out; omega)
        unfold encI at hy
        dsimp only at hy
        gi_wp2
        refine hR.mono ?_
        rintro e W3 (⟨rfl, hJ3, hk3⟩ | ⟨rfl, hJx3⟩)
        · have HJ3 := Lib.hid (And.intro HE.out hJ3)
          have HK3 := Lib.hid (HK1.out.trans hk3)
          clear hJ3 hk3 hR hy
          gi_wp2
          go_roundw
          case rel => exact ⟨k + mm, f', pre ++ [((r : Int), 0)], by have := HLE.out; omega, by first | rfl | go_num, HF, Lib.hid (by have := HLE.out; have := hp.out; simp; omega), HJ3, HK3⟩
          case measure => have := HLE.out; simp [intOf]; omega
        · have HJ3 := Lib.hid hJx3
          clear hJx3 hR hy
          gi_wp2
          go_end0
          exact ⟨⟨_, rfl⟩, .inr ⟨pre ++ [((r : Int), 0)], by rw [HE.out]; exact List.prefix_append _ _, HJ3.out⟩⟩
    · have hkni : ¬ (k : Int) < (n : Int) := by omega
      have hkd : l.drop k = [] := List.drop_eq_nil_of_le (by rw [HL.out]; omega)
      have HE : Hid (itemsL l.length l 0 = pre) := Lib.hid (by rw [HI.out.1, hkd, itemsL_nil]; simp)
      clear hkd
      gi_wp2
      go_end0
      exact ⟨⟨_, rfl⟩, .inl ⟨_, rfl, by rw [HE.out]; exact HI.out.2⟩⟩
end Go.Proofs.YthihkbcdihochaaGreatDoor
/- utf.Runes. -/
namespace Go.Proofs.YthihkbcdihochaaGreatDoor
open Go.ChangeShapes Go.WideShapes Go.ChangeAt Go.RowKit
set_option linter.unusedVariables false
attribute [local go_sem] Oper.semAt_some
theorem box_keep {W w1 : World} {n₀ B B' : Nat} {t e : TypeId} {u v v' : Value} {k size : Nat} {xs : List Value} {tmp : Obj} (h : Boxed W B t u) (hte : t ≠ e) (hrow : W.ownsRow n₀ e size v k xs) (hgrow : (W.alloc tmp).grownBy w1 v.ownBlock) (hne : B ≠ B') :
    Boxed (w1.setCell ⟨B', 0, none⟩ v') B t u := ((h.alloc tmp).kept hgrow (h.not_row hte hrow)).other hne v'
theorem utfAll_c (A : Option Addr) (n cap : Nat) (w : World) : Calls Tryz.prog 273 #[.slice A n cap] w fun e w' => e = .returned (.func (.func 275) #[] #[.pointer (some ⟨w.heap.size, 0, none⟩)]) ∧ w' = w.alloc (.cells #[.slice A n cap] 50) := by
  go_enter Tryz.func273, Tryz.ntmps273
  go_wp2
  go_ret
  exact ⟨rfl, rfl⟩
theorem items_fst (l : List UInt8) (h : ∀ x ∈ itemsL l.length l 0, x.2 = 0) : (runesOut l).2 = true ∧ (itemsL l.length l 0).length = (runesOut l).1.length ∧ (itemsL l.length l 0).map (fun x => Value.int .i64 x.1) = (runesOut l).1.map iv := by
  obtain ⟨z, hz⟩ := items_eq l.length l 0
  unfold runesOut
  rw [hz] at h ⊢
  cases hb : (runesL l.length l).2 with
  | true =>
    simp only [if_true, List.append_nil, List.length_map, List.map_map]
    exact ⟨trivial, by simp, by first | rfl | simp [iv, Function.comp_def]⟩
  | false =>
    rw [hb] at h
    have := h (z, 5) (by simp)
    simp at this
theorem items_bad (l : List UInt8) (pre : List (Int × Int)) (hp : pre <+: itemsL l.length l 0) (x : Int × Int) (hx : x ∈ pre) (h : x.2 ≠ 0) : (runesOut l).2 = false ∧ x.2 = 5 := by
  obtain ⟨z, hz⟩ := items_eq l.length l 0
  have hm := hp.subset hx
  unfold runesOut
  rw [hz] at hm
  rcases List.mem_append.1 hm with hm | hm
  · obtain ⟨r, _, rfl⟩ := List.mem_map.1 hm
    exact absurd rfl h
  · cases hb : (runesL l.length l).2 with
    | true => rw [hb] at hm; simp at hm
    | false => rw [hb] at hm; simp at hm; rw [hm]; exact ⟨rfl, rfl⟩
theorem items_len (l : List UInt8) : (itemsL l.length l 0).length ≤ l.length + 1 := by
  obtain ⟨z, hz⟩ := items_eq l.length l 0
  have := (runesL_le l.length l).2
  rw [hz]
  simp only [List.length_append, List.length_map]
  split <;> simp <;> omega
def RunI (S : Nat) (w : World) (bx : Value) (pre : List (Int × Int)) (W : World) : Prop :=
  (((∃ v, Boxed W (S + 1 + 1) 133 v ∧ W.ownsRow S 3 1 v pre.length (pre.map fun x => Value.int .i64 x.1) ∧ True) ∧ Boxed W S 133 (.slice none 0 0)) ∧ (Boxed W (S + 1) 30 (.int .i64 0) ∧ Boxed W (S + 1 + 1 + 1) 50 bx)) ∧ ((∀ x ∈ pre, x.2 = 0) ∧ Below S w W)
def RunX (S : Nat) (w : World) (c : Code) (pre : List (Int × Int)) (W : World) : Prop :=
  ∃ x : Int × Int, (((Boxed W S 133 (.slice none 0 0) ∧ Boxed W (S + 1) 30 (.int .i64 x.2)) ∧ (c = .ret ∧ x ∈ pre ∧ x.2 ≠ 0)) ∧ Below S w W)
theorem runI_own (S B : Nat) (w : World) (bx : Value) (hS : S ≤ w.heap.size) (hB : S ≤ B) : OwnFrom B (RunI S w bx) :=
  OwnFrom.and (OwnFrom.and (OwnFrom.and (Own.from (holdsRow_own S (S + 1 + 1) 133 3 1 (fun pre : List (Int × Int) => pre.length) (fun pre => pre.map fun x => Value.int .i64 x.1) (fun _ _ => True)) _) (Own.from (boxed_own S 133 (fun _ => .slice none 0 0)) _))
    (OwnFrom.and (Own.from (boxed_own (S + 1) 30 (fun _ => .int .i64 0)) _) (Own.from (boxed_own (S + 1 + 1 + 1) 50 (fun _ => bx)) _))) (OwnFrom.and (ownFrom_pure _ fun pre : List (Int × Int) => ∀ x ∈ pre, x.2 = 0) (ownFrom_below hS hB))
theorem runX_own (S B : Nat) (w : World) (hS : S ≤ w.heap.size) (hB : S ≤ B) (c : Code) : OwnFrom B (RunX S w c) := by
  rintro s W W' row ⟨x, hx⟩ hg hr
  exact ⟨x, (OwnFrom.and (OwnFrom.and (OwnFrom.and (Own.from (boxed_own S 133 (fun _ : List (Int × Int) => .slice none 0 0)) _) (Own.from (boxed_own (S + 1) 30 (fun _ => .int .i64 x.2)) _)) (ownFrom_pure _ fun pre : List (Int × Int) => c = .ret ∧ x ∈ pre ∧ x.2 ≠ 0)) (ownFrom_below hS hB)) s W W' row hx hg hr⟩
theorem kpB_b {S Bn D : Nat} (hS : S ≤ D) (hB : Bn < D) (W : World) (l : Nat) (o o' : Obj) (hl : D ≤ l) (ho : W.heap[l]? = some o) : KpB S Bn W (W.putObj l o') :=
  ⟨(Below.refl S W).grown (grownBy_putObj' W l o') (by have := lt_of ho; omega) (fun k e => by cases e; omega), World.putObj_heap_other (by omega)⟩
set_option maxRecDepth 100000 in
set_option maxHeartbeats 4000000 in
theorem utfRunes_c (A : Option Addr) (n cap : Nat) (l : List UInt8) (w : World) (h : Byt w w.heap.size A n cap l) (hF : Forms w) (hm : n ≤ 1100000) :
    Calls Tryz.prog 269 #[.slice A n cap] w (RunesP l w 0 (fun z => z = 5)) := by
  obtain ⟨i0, hi, hz0, hz1, hz2⟩ := info_parts (show (Tryz.prog.info? 3).map (fun i => (i.zero, i.size, i.bytes)) = some (some (.int .i64 0), 1, 8) by kernel_rfl)
  have hln := h.length
  have HIN := Lib.hid (And.intro h (And.intro hF hln))
  have hlen : (itemsL l.length l 0).length ≤ n + 1 := by have := items_len l; omega
  have HLEN := Lib.hid hlen
  have hS := Lib.hid hF.lt
  clear h hF hlen hln
  refine (callsIn_wide (n := 5)).1 ?_
  refine callsIn_of_wp_marks Tryz.func269 rfl trivial ?_ rfl
  simp only [Tryz.ntmps269, List.size_toArray, List.length_cons, List.length_nil, Nat.reduceAdd, Nat.reduceSub, Array.replicate_succ, Array.replicate_zero, List.push_toArray, List.append_toArray, List.nil_append, List.cons_append]
  gi_wp2_with (first | (refine ⟨trivial, ?_⟩; gi_at_call 273; refine (callsIn_wide.2 (utfAll_c A n cap _)).mono ?_; rintro e w' ⟨rfl, rfl⟩) | (gi_at_call 273; refine (callsIn_wide.2 (utfAll_c A n cap _)).mono ?_; rintro e w' ⟨rfl, rfl⟩))
  have b2 := Boxed.new w 133 (.slice none 0 0)
  have b3 := Boxed.new (w.alloc (.cells #[.slice none 0 0] 133)) 30 (.int .i64 0)
  have b4 := Boxed.new ((w.alloc (.cells #[.slice none 0 0] 133)).alloc (.cells #[.int .i64 0] 30)) 133 (.slice none 0 0)
  have bb := Boxed.new (((w.alloc (.cells #[.slice none 0 0] 133)).alloc (.cells #[.int .i64 0] 30)).alloc (.cells #[.slice none 0 0] 133)) 50 (.slice A n cap)
  simp only [World.size_alloc] at b3 b4 bb
  have b2' := ((b2.alloc (.cells #[.int .i64 0] 30)).alloc (.cells #[.slice none 0 0] 133)).alloc (.cells #[.slice A n cap] 50)
  have b3' := (b3.alloc (.cells #[.slice none 0 0] 133)).alloc (.cells #[.slice A n cap] 50)
  have b4' := b4.alloc (.cells #[.slice A n cap] 50)
  have hB0 : Below w.heap.size w ((((w.alloc (.cells #[.slice none 0 0] 133)).alloc (.cells #[.int .i64 0] 30)).alloc (.cells #[.slice none 0 0] 133)).alloc (.cells #[.slice A n cap] 50)) := ((((Below.refl _ w).alloc (Nat.le_refl _) _).alloc (by simp) _).alloc (by simp; omega) _).alloc (by simp; omega) _
  have hsz : ((((w.alloc (.cells #[.slice none 0 0] 133)).alloc (.cells #[.int .i64 0] 30)).alloc (.cells #[.slice none 0 0] 133)).alloc (.cells #[.slice A n cap] 50)).heap.size = w.heap.size + 4 := by simp
  clear b2 b3 b4
  generalize hS0 : w.heap.size = S at *
  generalize hW0 : ((((w.alloc (.cells #[.slice none 0 0] 133)).alloc (.cells #[.int .i64 0] 30)).alloc (.cells #[.slice none 0 0] 133)).alloc (.cells #[.slice A n cap] 50)) = W0 at *
  have HSEQ : SeqStopsK Fence.wide (5 - 1) Tryz.prog 275 #[.pointer (some ⟨S + 1 + 1 + 1, 0, none⟩)] encI (KpB S (S + 1 + 1 + 1)) (fun ys => ys = itemsL l.length l 0) (fun pre => pre <+: itemsL l.length l 0) (n + 1) W0 := fun lr J Jx W hW hJ hJx hY h0 =>
    utfAll1_in 4 (by omega) lr (S + 1 + 1 + 1) S A n cap l J Jx W hJ hY hm ((hW.cell (p := ⟨S + 1 + 1 + 1, 0, none⟩) (by show S + 1 + 1 + 1 < W0.heap.size; omega)).trans bb.cell) ((HIN.out.1.below hB0).below (hW.mono (by omega))) ((HIN.out.2.1.below hB0 hS.out).below (hW.mono (show S ≤ W0.heap.size by omega)) hS.out) hS.out h0
  refine wpIn_rangeFunc_ownG rfl (by omega) (gf := 275) (lb := #[.pointer (some ⟨S + 1 + 1 + 1, 0, none⟩)]) rfl trivial (enters_of Tryz.func275 (by kernel_rfl) rfl) HSEQ KpB.trans
    (fun W l o o' hl ho _ _ => kpB_b (D := W0.heap.size) (by omega) (by omega) W l o o' hl ho) (Below.refl _ _) (fun _ => rfl)
    (RunI S w (.slice A n cap)) (RunX S w) (runI_own S W0.heap.size w _ (by omega) (by omega)) (runX_own S W0.heap.size w (by omega) (by omega))
    ⟨⟨⟨⟨_, b4', World.ownsRow_nil _ _ _ _, trivial⟩, b2'⟩, b3', bb⟩, by simp, hB0⟩
    (fun x => { tmps := #[.slice A n cap, undef, .pointer (some ⟨S, 0, none⟩), .pointer (some ⟨S + 1, 0, none⟩), .pointer (some ⟨S + 1 + 1, 0, none⟩), .int .i64 x.1, .int .i64 x.2, .slice A n cap, .func (.func 275) #[] #[.pointer (some ⟨S + 1 + 1 + 1, 0, none⟩)], .int .i64 x.1, .int .i64 x.2, undef, undef, undef, undef, undef, undef, undef, undef], defers := [] }) ?assign ?body ?done ?stop
  case assign =>
    intro lr x W K hK
    unfold encI
    gi_wp2
    exact hK
  case body =>
    rintro lr pre ⟨x1, x2⟩ W ⟨⟨⟨⟨v, hv, hrow, _⟩, hv2⟩, hv3, hvb⟩, hz, hB⟩ hlt
    simp only
    have hc := hv.cell
    have hBs := hB.size
    rw [hS0] at hBs
    by_cases hx : x2 = 0
    · subst hx
      have HKEEP := Lib.hid (And.intro hv2 (And.intro hv3 (And.intro hvb (And.intro hz hB))))
      clear hv2 hv3 hvb hz hB
      gi_wp2_with (gi_at_builtin; refine wpListIn_append_own _ rfl _ _ 133 rfl S 3 i0 (.int .i64 0) 1 8 Tryz.underlying133 hi hz0 hz1 hz2 rfl (by decide) _ _ _ rfl (hrow.alloc _) ⟨W.heap.size, 0, none⟩ 1 1 [.int .i64 x1] rfl rfl (cell_one_new _ _ _) (by simp [Value.oneCell']) (by unfold maxLen; omega) (by omega) (by simp; omega) ?_; intro v' w1 hown' hgrow _; obtain ⟨g', cap', rfl⟩ := ownsRow_succ hown'; obtain ⟨hv1, hv2', hr2, hk2, hb2⟩ := hv.appended (by decide) hrow hBs (by omega) hown' hgrow; have hc1 := hv1.cell; have hf1 := hv1.frozen; have hx2 := Lib.hid (box_keep (B' := S + 1 + 1) (v' := .slice (some ⟨g', 0, none⟩) (pre.length + 1) cap') HKEEP.out.1 (by decide) hrow hgrow (by omega)); have hx3 := Lib.hid (box_keep (B' := S + 1 + 1) (v' := .slice (some ⟨g', 0, none⟩) (pre.length + 1) cap') HKEEP.out.2.1 (by decide) hrow hgrow (by omega)); have hxb := Lib.hid (box_keep (B' := S + 1 + 1) (v' := .slice (some ⟨g', 0, none⟩) (pre.length + 1) cap') HKEEP.out.2.2.1 (by decide) hrow hgrow (by omega)); have HEND := Lib.hid (And.intro hv2' (And.intro hr2 (And.intro hk2 hb2))); clear hv2' hr2 hk2 hb2 hown' hgrow)
      refine ⟨HEND.out.2.2.1.from _, ⟨HEND.out.2.2.2, hxb.out.trans HKEEP.out.2.2.1.symm⟩, ⟨⟨⟨_, HEND.out.1, ?_, trivial⟩, hx2.out⟩, hx3.out, hxb.out⟩, ?_, HKEEP.out.2.2.2.2.trans HEND.out.2.2.2⟩
      · have := HEND.out.2.1
        rw [List.length_append, List.map_append]
        exact this
      · intro y hy
        rcases List.mem_append.1 hy with hy | hy
        · exact HKEEP.out.2.2.2.1 y hy
        · rw [List.mem_singleton.1 hy]
    · have hxz : (x2 != 0) = true := by simpa using hx
      have c2 := hv2.cell
      have f2 := hv2.frozen
      have c3 := hv3.cell
      have f3 := hv3.frozen
      have HX := Lib.hid hx
      have HKEEP := Lib.hid (And.intro hv2 (And.intro hv3 hB))
      clear hx hv2 hv3 hvb hz hB hrow hv hc
      gi_wp2
      refine ⟨((KeepsOthers.setCell _ _ _).trans (KeepsOthers.setCell _ _ _)).from _, (x1, x2), ⟨⟨(HKEEP.out.1.set _).other (by omega) _, (HKEEP.out.2.1.other (by omega) _).set _⟩, rfl, by simp, HX.out⟩, ?_⟩
      exact (HKEEP.out.2.2.setCell (p := ⟨S, 0, none⟩) (by rw [← hS0]; exact Nat.le_refl _) _).setCell (p := ⟨S + 1, 0, none⟩) (by show S ≤ S + 1; omega) _
  case done =>
    rintro D ys W hD rfl ⟨⟨⟨⟨v, hv, hrow, _⟩, hv2⟩, hv3, hvb⟩, hz, hB⟩ hK
    obtain ⟨hok, hln, hmp⟩ := items_fst l hz
    rw [hln, hmp] at hrow
    obtain ⟨A', c', rfl, _⟩ := own_form hrow
    have c4 := hv.cell
    have c2 := hv2.cell
    have f2 := hv2.frozen
    have c3 := hv3.cell
    have f3 := hv3.frozen
    have HALL := Lib.hid (And.intro hrow (And.intro hv2 (And.intro hv3 (And.intro hB (And.intro hok (And.intro hD hK))))))
    clear hrow hv hv2 hv3 hvb hz hB hok hln hmp hD hK
    gi_wp2
    obtain ⟨hrow, hv2, hv3, hB, hok, hD, hK⟩ := HALL.out
    have hK' := ((KeepsOthers.setCell W ⟨S, 0, none⟩ (.slice A' (runesOut l).1.length c')).trans (KeepsOthers.setCell _ ⟨S + 1, 0, none⟩ (.int .i64 0))).same D _ hK rfl
    have hD2 : S + 4 ≤ D := by omega
    refine ⟨by simp, .inl ⟨_, _, rfl, run_takeDeferred hK', ?_⟩⟩
    have e2 := ((hv2.set (.slice A' (runesOut l).1.length c')).other (B' := S + 1) (by omega) (.int .i64 0)).kept (grownBy_putObj' _ D (.deferred none)) (by intro e; cases e; omega)
    have e3 := ((hv3.other (B' := S) (by omega) (.slice A' (runesOut l).1.length c')).set (.int .i64 0)).kept (grownBy_putObj' _ D (.deferred none)) (by intro e; cases e; omega)
    have hrow1 := hrow.kept (grownBy_setCell' W S (.slice A' (runesOut l).1.length c')) (.inr (hv2.not_row (by decide) hrow).symm)
    have hrow2 := hrow1.kept (grownBy_setCell' _ (S + 1) (.int .i64 0)) (.inr ((hv3.other (B' := S) (by omega) (.slice A' (runesOut l).1.length c')).not_row (by decide) hrow1).symm)
    have hrow3 := ownsRow_putObj hrow2 (.deferred none) hK' rfl
    have hB3 := ((hB.setCell (p := ⟨S, 0, none⟩) (Nat.le_refl _) (.slice A' (runesOut l).1.length c')).setCell (p := ⟨S + 1, 0, none⟩) (by show S ≤ S + 1; omega) (.int .i64 0)).trans (kpB_b (Bn := S) (D := W0.heap.size) (by omega) (by omega) _ D _ (.deferred none) hD hK').1
    have c5 := e2.cell
    have c6 := e3.cell
    refine ⟨.tuple #[.slice A' (runesOut l).1.length c', .int .i64 0], ?_, ⟨by rw [hS0]; exact hB3, Or.inl ⟨hok, A', c', rfl, Rd.ofOwn hrow3⟩⟩⟩
    simp [results, Tryz.f269, go_sem, c5, c6]
  case stop =>
    rintro D c pre W hD hpre ⟨x, ⟨⟨hv2, hv3⟩, rfl, hin, hne⟩, hB⟩ hK
    obtain ⟨hok, h5⟩ := items_bad l pre hpre x hin hne
    have HALL := Lib.hid (And.intro hv2 (And.intro hv3 (And.intro hB (And.intro hok (And.intro h5 (And.intro hD hK))))))
    clear hv2 hv3 hB hok h5 hin hne hpre hD hK
    gi_wp2
    obtain ⟨hv2, hv3, hB, hok, h5, hD, hK⟩ := HALL.out
    have hD2 : S + 4 ≤ D := by omega
    refine ⟨by simp, .inl ⟨_, _, rfl, run_takeDeferred hK, ?_⟩⟩
    have e2 := hv2.kept (grownBy_putObj' _ D (.deferred none)) (by intro e; cases e; omega)
    have e3 := hv3.kept (grownBy_putObj' _ D (.deferred none)) (by intro e; cases e; omega)
    have hB3 := hB.trans (kpB_b (Bn := S) (D := W0.heap.size) (by omega) (by omega) _ D _ (.deferred none) hD hK).1
    have c5 := e2.cell
    have c6 := e3.cell
    refine ⟨.tuple #[.slice none 0 0, .int .i64 x.2], ?_, ⟨by rw [hS0]; exact hB3, Or.inr ⟨hok, x.2, h5, rfl⟩⟩⟩
    simp [results, Tryz.f269, go_sem, c5, c6]
end Go.Proofs.YthihkbcdihochaaGreatDoor
