/- Texts of ours, joined: RpA. -/
import Derived.Test.YtocbofeanfdggaaDoorRows
import Derived.WalkKit
import Derived.ProofKit
import Derived.OpenShut
import Derived.ShutString
import Derived.ChangeOld
import Derived.Below
import Derived.BigQuiet
import Derived.Deep.QuietTactic
import Derived.Lib.Hide
import Derived.Deep.RegionHeld3
import Derived.Lib.SlBytesConst
import Derived.Laws.CopyOwn
import Derived.Laws.CopyRow
import Derived.Lib.Bytes
import Derived.Deep.LoopGhost
import Derived.Deep.DeepFit
import Derived.Deep.DeepMust
import Derived.WalkSpells
import Derived.WalkLawsBesides
import Derived.Laws.EntriesVeiled
import Derived.Laws.Rows
import Derived.Deep.RegionWith
import Derived.Test.YtocbofeanfdggaaDoorS1
import Derived.Test.YtocbofeanfdggaaDoorS2
import Derived.Test.YtocbofeanfdggaaDoorS3
import Derived.Test.YtocbofeanfdggaaDoorS5
import Derived.Test.YtocbofeanfdggaaDoorS6
import Derived.Test.YtocbofeanfdggaaDoorS7
import Derived.Test.YtocbofeanfdggaaDoorS8
import Derived.Test.YtocbofeanfdggaaDoorS9
/- report.Event, of a start. -/
namespace Go.Proofs.YtocbofeanfdggaaDoor
open Go.ChangeShapes Go.WideShapes Go.ChangeAt Go.RowKit
set_option linter.unusedVariables false
/-- While report.Event writes a start: the event's block, the builder. -/
def EvG (T : TypeId) (cs : Array Value) (l : List UInt8) (w w' : World) : Prop :=
  Below w.heap.size w w' ∧ w'.heap[w.heap.size]? = some (.cells cs T (0, 0)) ∧ Bld (w.heap.size + 2) (w.heap.size + 1) l w' ∧ w.heap.size + 2 ≤ w'.heap.size
theorem EvG.kept {T : TypeId} {cs : Array Value} {l : List UInt8} {w w1 w2 : World} (h : EvG T cs l w w1) (hb : Below w1.heap.size w1 w2) : EvG T cs l w w2 :=
  ⟨h.1.trans (hb.mono h.1.size), (hb.block _ (by have := h.2.2.2; omega)).trans h.2.1, h.2.2.1.kept hb, Nat.le_trans h.2.2.2 hb.size⟩
theorem EvG.wrote {T : TypeId} {cs : Array Value} {l l' : List UInt8} {w w1 w2 : World} (h : EvG T cs l w w1) (hB : Bld (w.heap.size + 2) (w.heap.size + 1) l' w2) (hf : Fr (w.heap.size + 2) (w.heap.size + 1) w1 w2) : EvG T cs l' w w2 :=
  ⟨h.1.trans (hf.below (by omega) (by omega)), (hf.block _ (by omega) (by omega)).trans h.2.1, hB, Nat.le_trans h.2.2.2 hf.size⟩
theorem EvG.alloc {T : TypeId} {cs : Array Value} {l : List UInt8} {w w1 : World} (h : EvG T cs l w w1) (o : Obj) : EvG T cs l w (w1.alloc o) := h.kept ((Below.refl _ w1).alloc (Nat.le_refl _) _)
theorem EvG.start (T : TypeId) (cs : Array Value) (w : World) : EvG T cs [] w ((w.alloc (.cells cs T)).alloc (.cells #[.pointer none, .slice none 0 0] 57)) := by
  refine ⟨((Below.refl _ w).alloc (Nat.le_refl _) _).alloc (by simp) _, hp_old (hp_new w _), ?_, by simp⟩
  have := Bld.fresh (w.heap.size + 2) (w.alloc (.cells cs T)) (by simp)
  simpa using this
theorem EvG.drew {T : TypeId} {cs : Array Value} {l : List UInt8} {w w1 : World} (h : EvG T cs l w w1) : EvG T cs l w w1.drew := ⟨h.1.drew, h.2.1, h.2.2.1, h.2.2.2⟩
/-- The cells of the attribute at hand. -/
def AtG (q : Nat) (xs xl xv : List UInt8) (w' : World) : Prop := w'.cell? ⟨q, 0, none⟩ = some (.string ⟨xs.toArray⟩) ∧ w'.cell? ⟨q, 1, none⟩ = some (.string ⟨xl.toArray⟩) ∧ w'.cell? ⟨q, 2, none⟩ = some (.string ⟨xv.toArray⟩)
def EvH (cs : Array Value) (l : List UInt8) (q : Nat) (xs xl xv : List UInt8) (w w' : World) : Prop := EvG 40 cs l w w' ∧ AtG q xs xl xv w' ∧ q < w'.heap.size
theorem EvH.kept {cs : Array Value} {l : List UInt8} {q : Nat} {xs xl xv : List UInt8} {w w1 w2 : World} (h : EvH cs l q xs xl xv w w1) (hb : Below w1.heap.size w1 w2) : EvH cs l q xs xl xv w w2 :=
  ⟨h.1.kept hb, ⟨(hb.cell (p := ⟨q, 0, none⟩) h.2.2).trans h.2.1.1, (hb.cell (p := ⟨q, 1, none⟩) h.2.2).trans h.2.1.2.1, (hb.cell (p := ⟨q, 2, none⟩) h.2.2).trans h.2.1.2.2⟩, Nat.lt_of_lt_of_le h.2.2 hb.size⟩
theorem attL_le {b : Nat} (a : List UInt8 × List UInt8 × List UInt8) (h1 : a.1.length ≤ b) (h2 : a.2.1.length ≤ b) (h3 : a.2.2.length ≤ b) : (attL a).length ≤ 18 * b + 10 := by
  have e1 := nameL_le a.1 a.2.1
  have e2 := esc_le a.2.2
  unfold attL
  simp only [List.length_append, List.length_cons, List.length_nil]
  omega
theorem atts_le {b : Nat} : ∀ ats : List (List UInt8 × List UInt8 × List UInt8), (∀ a ∈ ats, a.1.length ≤ b ∧ a.2.1.length ≤ b ∧ a.2.2.length ≤ b) → (ats.flatMap attL).length ≤ ats.length * (18 * b + 10)
  | [], _ => by simp
  | a :: l, h => by
    have h1 := h a List.mem_cons_self
    have h2 := atts_le l fun x hx => h x (List.mem_cons_of_mem _ hx)
    have h3 := attL_le a h1.1 h1.2.1 h1.2.2
    rw [List.flatMap_cons, List.length_append, List.length_cons, Nat.add_mul]
    omega
theorem atts_snoc {ats : List (List UInt8 × List UInt8 × List UInt8)} {t : Nat} {x : List UInt8 × List UInt8 × List UInt8} (h : ats[t]? = some x) : (ats.take (t + 1)).flatMap attL = (ats.take t).flatMap attL ++ attL x := by
  rw [List.take_add_one, h, List.flatMap_append]
  simp
theorem join_two (a b : List UInt8) : joinB [a, b] = a ++ [32] ++ b := by simp [joinB]
set_option maxRecDepth 100000 in
set_option maxHeartbeats 16000000 in
theorem event_start (sp lo tx : List UInt8) (A : Option Addr) (n cap : Nat) (ats : List (List UInt8 × List UInt8 × List UInt8)) (w : World) (h : RRd cA 3 w w.heap.size A n cap ats) (hle : EvLe 5000 ⟨⟨1, sp, lo, ats, tx⟩, A, n, cap⟩) :
    Calls Tryd.prog 9 #[.agg #[.int .i64 1, .string ⟨sp.toArray⟩, .string ⟨lo.toArray⟩, .slice A n cap, .string ⟨tx.toArray⟩]] w fun e w' => e = .returned (.string ⟨(evL 1 sp lo ats tx).toArray⟩) ∧ Below w.heap.size w w' := by
  have h1 : sp.length ≤ 5000 := hle.sp
  have h2 : lo.length ≤ 5000 := hle.lo
  have hn : n ≤ 5000 := hle.n
  have HP : Hid (∀ W, Below w.heap.size w W → RRd cA 3 W W.heap.size A n cap ats) := Lib.hid fun W hb => (h.below hb).more hb.size
  have HLN : Hid (ats.length = n) := Lib.hid h.len
  have HAL : Hid (∀ a ∈ ats, a.1.length ≤ 5000 ∧ a.2.1.length ≤ 5000 ∧ a.2.2.length ≤ 5000) := Lib.hid hle.ats
  have N1 : Hid (∀ (xs xl : List UInt8) w1, xs.length ≤ 10000 → xl.length ≤ 10000 → Calls Tryd.prog 25 #[.agg #[.string ⟨xs.toArray⟩, .string ⟨xl.toArray⟩]] w1 fun e w' => e = .returned (.string ⟨(nameL xs xl).toArray⟩) ∧ Below w1.heap.size w1 w') := Lib.hid fun xs xl w1 a b => repName_c xs xl w1 a b
  have E1 : Hid (∀ (x : List UInt8) w1, x.length ≤ 5000 → Calls Tryd.prog 26 #[.string ⟨x.toArray⟩] w1 fun e w' => e = .returned (.string ⟨(esc x).toArray⟩) ∧ Below w1.heap.size w1 w') := Lib.hid fun x w1 a => escape_c x w1 (by omega)
  have L1 : Hid (∀ (x0 x1 : List UInt8) (w1 : World), x0.length ≤ 100000 → x1.length ≤ 100000 → Calls Tryd.prog 24 #[.slice (some ⟨w1.heap.size, 0, none⟩) 2 2] (w1.alloc (.cells #[.string ⟨x0.toArray⟩, .string ⟨x1.toArray⟩] 9)) fun e w' => e = .returned (.string ⟨(joinB [x0, x1] ++ [10]).toArray⟩) ∧ Below w1.heap.size w1 w') := Lib.hid fun x0 x1 w1 a b => lnAt_2 x0 x1 w1 a b
  have WS : Hid (∀ l s w1, EvG 40 #[.int .i64 1, .string ⟨sp.toArray⟩, .string ⟨lo.toArray⟩, .slice A n cap, .string ⟨tx.toArray⟩] l w w1 → l.length ≤ 10000000000 → s.length ≤ 10000000000 → Calls Tryd.prog 23 #[.pointer (some ⟨w.heap.size + 1, 0, none⟩), .string ⟨s.toArray⟩] w1 fun e w' => e = .returned (.tuple #[.int .i64 s.length, .nilIface]) ∧ EvG 40 #[.int .i64 1, .string ⟨sp.toArray⟩, .string ⟨lo.toArray⟩, .slice A n cap, .string ⟨tx.toArray⟩] (l ++ s) w w') := Lib.hid fun l s w1 h h1 h2 =>
    (writeString_b (w.heap.size + 2) (w.heap.size + 1) l s w1 h.2.2.1 (by omega) h.2.2.2).mono fun e w' ⟨he, hB, hf⟩ => ⟨he, h.wrote hB hf⟩
  have I0 := Lib.hid (EvG.start 40 #[.int .i64 1, .string ⟨sp.toArray⟩, .string ⟨lo.toArray⟩, .slice A n cap, .string ⟨tx.toArray⟩] w)
  have hnl := nameL_le sp lo
  obtain ⟨sn, hsn⟩ : ∃ q, nameL sp lo = q := ⟨_, rfl⟩
  rw [hsn] at hnl
  have HSN : Hid (joinB [[115, 116, 97, 114, 116], sn] ++ [10] = [115, 116, 97, 114, 116, 32] ++ sn ++ [10]) := Lib.hid (by rw [join_two]; simp)
  have HR : Hid (evL 1 sp lo ats tx = ([115, 116, 97, 114, 116, 32] ++ sn ++ [10]) ++ (ats.take n).flatMap attL) := Lib.hid (by unfold evL; rw [if_pos rfl, hsn, List.take_of_length_le (by rw [h.len]; exact Nat.le_refl _)])
  obtain ⟨R, hR⟩ : ∃ q, evL 1 sp lo ats tx = q := ⟨_, rfl⟩
  rw [hR] at HR ⊢
  have NN := Lib.hid (N1.out sp lo ((w.alloc (.cells #[.int .i64 1, .string ⟨sp.toArray⟩, .string ⟨lo.toArray⟩, .slice A n cap, .string ⟨tx.toArray⟩] 40)).alloc (.cells #[.pointer none, .slice none 0 0] 57)) (by omega) (by omega))
  rw [hsn] at NN
  have HPL : Hid (([115, 116, 97, 114, 116, 32] ++ sn ++ [10]).length ≤ 70000) := Lib.hid (by simp; omega)
  have LL := Lib.hid (fun w1 => L1.out [115, 116, 97, 114, 116] sn w1 (by simp) (by omega))
  rw [HSN.out] at LL
  obtain ⟨P, hP⟩ : ∃ q, [115, 116, 97, 114, 116, 32] ++ sn ++ [10] = q := ⟨_, rfl⟩
  rw [hP] at LL HPL HR
  clear h hle hR hsn hnl HSN hP h1 h2
  go_enter Tryd.func9, Tryd.ntmps9
  go_wp2_with fail
  refine NN.out.mono ?_
  rintro e w1 ⟨rfl, hb⟩
  have I1 := Lib.hid (I0.out.kept hb)
  clear hb I0 NN
  go_wp2_with fail
  refine (LL.out w1).mono ?_
  rintro e w2 ⟨rfl, hb⟩
  have I2 := Lib.hid (I1.out.kept hb)
  clear hb I1 LL
  go_wp2_with fail
  refine (WS.out [] P w2 I2.out (by simp) (by have := HPL.out; omega)).mono ?_
  rintro e w3 ⟨rfl, hb⟩
  have I3 : Hid (EvG 40 #[.int .i64 1, .string ⟨sp.toArray⟩, .string ⟨lo.toArray⟩, .slice A n cap, .string ⟨tx.toArray⟩] (P ++ (ats.take 0).flatMap attL) w w3) := Lib.hid (by simpa using hb)
  have he3 : w3.cell? ⟨w.heap.size, 3, none⟩ = some (.slice A n cap) := by rw [cell_of 3 hb.2.1]; rfl
  clear hb I2
  go_wp2_with fail
  go_loopg [19] (n) (fun g i wr => ∃ t : Nat, i = .int .i64 (t : Int) ∧ t ≤ n ∧ Hid (g + t = n) ∧ Hid (EvG 40 #[.int .i64 1, .string ⟨sp.toArray⟩, .string ⟨lo.toArray⟩, .slice A n cap, .string ⟨tx.toArray⟩] (P ++ (ats.take t).flatMap attL) w wr))
  case atStart => exact ⟨0, rfl, Nat.zero_le _, Lib.hid rfl, I3⟩
  case round =>
    obtain ⟨t, rfl, ht, hg, HI⟩ := hrel
    have ht0 : (0 : Int) ≤ (t : Int) := by omega
    have ht9 : (t : Int) ≤ 5000 := by omega
    by_cases htn : t < n
    · have hti : (t : Int) < (n : Int) := by omega
      obtain ⟨b1, o1, x, hAe, hb1, hx, hc1⟩ := (HP.out _ HI.out.1).cell htn
      obtain ⟨hx1, hx2, hx3⟩ := HAL.out x (List.mem_of_getElem? hx)
      have HSS := Lib.hid (atts_snoc hx)
      have hlen := atts_le (b := 5000) (ats.take t) fun a ha => HAL.out a (List.mem_of_mem_take ha)
      have hlt : (ats.take t).length ≤ 5000 := by have := HLN.out; rw [List.length_take]; omega
      have hll : ((ats.take t).flatMap attL).length ≤ 500000000 := by
        have : (ats.take t).length * (18 * 5000 + 10) ≤ 5000 * (18 * 5000 + 10) := Nat.mul_le_mul_right _ hlt
        omega
      obtain ⟨xs, xl, xv⟩ := x
      simp only at hx1 hx2 hx3
      have y0 : wr.cell? ⟨b1, o1 + t * 3, none⟩ = some (.string ⟨xs.toArray⟩) := by rw [show o1 + t * 3 = o1 + (t * 3 + 0) by omega]; exact hc1 0 _ rfl
      have y1 : wr.cell? ⟨b1, o1 + t * 3 + 1, none⟩ = some (.string ⟨xl.toArray⟩) := by rw [show o1 + t * 3 + 1 = o1 + (t * 3 + 1) by omega]; exact hc1 1 _ rfl
      have y2 : wr.cell? ⟨b1, o1 + t * 3 + 2, none⟩ = some (.string ⟨xv.toArray⟩) := by rw [show o1 + t * 3 + 2 = o1 + (t * 3 + 2) by omega]; exact hc1 2 _ rfl
      have hq : w.heap.size + 2 ≤ wr.heap.size := HI.out.2.2.2
      have NX := Lib.hid (fun w1 => N1.out xs xl w1 (by omega) (by omega))
      have EX := Lib.hid (fun w1 => E1.out xv w1 hx3)
      have n1 := nameL_le xs xl
      have n2 := esc_le xv
      have HAT : Hid (joinB [[97, 116, 116, 114], nameL xs xl ++ [61] ++ esc xv] ++ [10] = attL (xs, xl, xv)) := Lib.hid (by rw [join_two]; simp [attL])
      have LX := Lib.hid (fun w1 => L1.out [97, 116, 116, 114] (nameL xs xl ++ [61] ++ esc xv) w1 (by simp) (by simp; omega))
      rw [HAT.out] at LX
      have hal := attL_le (b := 5000) (xs, xl, xv) hx1 hx2 hx3
      subst hAe
      obtain ⟨N, hN⟩ : ∃ q, nameL xs xl = q := ⟨_, rfl⟩
      obtain ⟨E, hE⟩ : ∃ q, esc xv = q := ⟨_, rfl⟩
      rw [hN] at NX LX n1
      rw [hE] at EX LX n2
      have p1 : ∀ w : World, (Op.stringOp .add ⟨N.toArray⟩ ⟨#[61]⟩).run Tryd.prog w = .ok (.string ⟨(N ++ [61]).toArray⟩) w := fun w => run_sop (w := w) N [61] (by simp; omega)
      have p2 : ∀ w : World, (Op.stringOp .add ⟨(N ++ [61]).toArray⟩ ⟨E.toArray⟩).run Tryd.prog w = .ok (.string ⟨(N ++ [61] ++ E).toArray⟩) w := fun w => run_sop (w := w) (N ++ [61]) E (by simp; omega)
      obtain ⟨Q, hQ⟩ : ∃ q, N ++ [61] ++ E = q := ⟨_, rfl⟩
      obtain ⟨M, hM⟩ : ∃ q, N ++ [61] = q := ⟨_, rfl⟩
      rw [hQ] at LX p2
      rw [hM] at p1 p2
      obtain ⟨AL, hAL⟩ : ∃ q, attL (xs, xl, xv) = q := ⟨_, rfl⟩
      rw [hAL] at LX HSS hal
      obtain ⟨D, hD⟩ : ∃ q, P ++ (ats.take t).flatMap attL = q := ⟨_, rfl⟩
      have hDl : D.length ≤ 600000000 := by rw [← hD, List.length_append]; have := HPL.out; omega
      have HSD : Hid (P ++ (ats.take (t + 1)).flatMap attL = D ++ AL) := Lib.hid (by rw [HSS.out, ← List.append_assoc, hD])
      rw [hD] at HI
      have hJ : Hid (EvH #[.int .i64 1, .string ⟨sp.toArray⟩, .string ⟨lo.toArray⟩, .slice (some ⟨b1, o1, none⟩) n cap, .string ⟨tx.toArray⟩] D wr.heap.size xs xl xv w (wr.alloc (.cells #[.string ⟨xs.toArray⟩, .string ⟨xl.toArray⟩, .string ⟨xv.toArray⟩] 51)).drew) := Lib.hid ⟨(HI.out.alloc _).drew, ⟨by show (wr.alloc _).cell? _ = _; rw [cell_of 0 (hp_new wr _)]; rfl, by show (wr.alloc _).cell? _ = _; rw [cell_of 1 (hp_new wr _)]; rfl, by show (wr.alloc _).cell? _ = _; rw [cell_of 2 (hp_new wr _)]; rfl⟩, by simp⟩
      have NJ : Hid (∀ w1, Hid (EvH #[.int .i64 1, .string ⟨sp.toArray⟩, .string ⟨lo.toArray⟩, .slice (some ⟨b1, o1, none⟩) n cap, .string ⟨tx.toArray⟩] D wr.heap.size xs xl xv w w1) → Calls Tryd.prog 25 #[.agg #[.string ⟨xs.toArray⟩, .string ⟨xl.toArray⟩]] w1 fun e w' => e = .returned (.string ⟨N.toArray⟩) ∧ AtG wr.heap.size xs xl xv w' ∧ Hid (EvH #[.int .i64 1, .string ⟨sp.toArray⟩, .string ⟨lo.toArray⟩, .slice (some ⟨b1, o1, none⟩) n cap, .string ⟨tx.toArray⟩] D wr.heap.size xs xl xv w w')) := Lib.hid fun w1 h => (NX.out w1).mono fun e w' ⟨he, hb⟩ => ⟨he, (h.out.kept hb).2.1, Lib.hid (h.out.kept hb)⟩
      have EJ : Hid (∀ w1, Hid (EvH #[.int .i64 1, .string ⟨sp.toArray⟩, .string ⟨lo.toArray⟩, .slice (some ⟨b1, o1, none⟩) n cap, .string ⟨tx.toArray⟩] D wr.heap.size xs xl xv w w1) → Calls Tryd.prog 26 #[.string ⟨xv.toArray⟩] w1 fun e w' => e = .returned (.string ⟨E.toArray⟩) ∧ AtG wr.heap.size xs xl xv w' ∧ Hid (EvH #[.int .i64 1, .string ⟨sp.toArray⟩, .string ⟨lo.toArray⟩, .slice (some ⟨b1, o1, none⟩) n cap, .string ⟨tx.toArray⟩] D wr.heap.size xs xl xv w w') ∧ Hid (EvH #[.int .i64 1, .string ⟨sp.toArray⟩, .string ⟨lo.toArray⟩, .slice (some ⟨b1, o1, none⟩) n cap, .string ⟨tx.toArray⟩] D wr.heap.size xs xl xv w (w'.alloc (.cells #[.string ⟨#[97, 116, 116, 114]⟩, .string ⟨Q.toArray⟩] 9))) ∧ AtG wr.heap.size xs xl xv (w'.alloc (.cells #[.string ⟨#[97, 116, 116, 114]⟩, .string ⟨Q.toArray⟩] 9))) := Lib.hid fun w1 h => (EX.out w1).mono fun e w' ⟨he, hb⟩ => by
        have h1 := h.out.kept hb
        have h2 := h1.kept ((Below.refl _ w').alloc (Nat.le_refl _) (.cells #[.string ⟨#[97, 116, 116, 114]⟩, .string ⟨Q.toArray⟩] 9))
        exact ⟨he, h1.2.1, Lib.hid h1, Lib.hid h2, h2.2.1⟩
      have LJ : Hid (∀ w1, Hid (EvH #[.int .i64 1, .string ⟨sp.toArray⟩, .string ⟨lo.toArray⟩, .slice (some ⟨b1, o1, none⟩) n cap, .string ⟨tx.toArray⟩] D wr.heap.size xs xl xv w w1) → Calls Tryd.prog 24 #[.slice (some ⟨w1.heap.size, 0, none⟩) 2 2] (w1.alloc (.cells #[.string ⟨#[97, 116, 116, 114]⟩, .string ⟨Q.toArray⟩] 9)) fun e w' => e = .returned (.string ⟨AL.toArray⟩) ∧ AtG wr.heap.size xs xl xv w' ∧ Hid (EvH #[.int .i64 1, .string ⟨sp.toArray⟩, .string ⟨lo.toArray⟩, .slice (some ⟨b1, o1, none⟩) n cap, .string ⟨tx.toArray⟩] D wr.heap.size xs xl xv w w')) := Lib.hid fun w1 h => (LX.out w1).mono fun e w' ⟨he, hb⟩ => ⟨he, (h.out.kept hb).2.1, Lib.hid (h.out.kept hb)⟩
      have WJ : Hid (∀ w1, Hid (EvH #[.int .i64 1, .string ⟨sp.toArray⟩, .string ⟨lo.toArray⟩, .slice (some ⟨b1, o1, none⟩) n cap, .string ⟨tx.toArray⟩] D wr.heap.size xs xl xv w w1) → Calls Tryd.prog 23 #[.pointer (some ⟨w.heap.size + 1, 0, none⟩), .string ⟨AL.toArray⟩] w1 fun e w' => e = .returned (.tuple #[.int .i64 AL.length, .nilIface]) ∧ Hid (EvG 40 #[.int .i64 1, .string ⟨sp.toArray⟩, .string ⟨lo.toArray⟩, .slice (some ⟨b1, o1, none⟩) n cap, .string ⟨tx.toArray⟩] (D ++ AL) w w')) := Lib.hid fun w1 h => (writeString_b (w.heap.size + 2) (w.heap.size + 1) D AL w1 h.out.1.2.2.1 (by omega) h.out.1.2.2.2).mono fun e w' ⟨he, hB, hf⟩ => ⟨he, Lib.hid (h.out.1.wrote hB hf)⟩
      clear N1 E1 L1 WS HI NX EX LX hN hE hQ hM hAL hD HAT hlen hlt hll hx1 hx2 hx3 hal hDl n1 n2 hb1 hx hc1 HSS he3
      unfold AtG at NJ EJ LJ WJ
      go_wp2_with fail
      obtain ⟨a0, a1, a2⟩ := hJ.out.2.1
      go_region_with (first
          | (go_at_call 25; refine (NJ.out _ (by assumption)).mono ?_; rintro e w4 ⟨rfl, ⟨b0, b1, b2⟩, hj4⟩)
          | (go_at_call 26; refine (EJ.out _ (by assumption)).mono ?_; rintro e w5 ⟨rfl, hat5, hj5, hj5a, hat5a⟩)
          | (go_at_call 24; refine (LJ.out _ (by assumption)).mono ?_; rintro e w6 ⟨rfl, hat6, hj6⟩)
          | (go_at_call 23; refine (WJ.out _ (by assumption)).mono ?_; rintro e w7 ⟨rfl, I7⟩))
      all_goals
        go_wp2
        go_roundg (n - (t + 1))
        case measure => have := hg.out; omega
        case rel => exact ⟨t + 1, by go_num, by omega, Lib.hid (by have := hg.out; omega), Lib.hid (by rw [HSD.out]; exact I7.out)⟩
    · have hti : ¬ (t : Int) < (n : Int) := by omega
      obtain rfl : t = n := by omega
      rw [← HR.out] at HI
      clear he3
      go_wp2_with fail
      refine (string_b _ _ _ wr HI.out.2.2.1).mono ?_
      rintro e w5 ⟨rfl, hb⟩
      have HB := Lib.hid (HI.out.1.trans (hb.mono (by omega)))
      clear hb
      go_wp2
      go_ret
      exact ⟨rfl, HB.out⟩
end Go.Proofs.YtocbofeanfdggaaDoor
