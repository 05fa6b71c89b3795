/- Texts of ours, joined: CnS. -/
import Derived.Test.YthihkbcdihochaaGreatDoorRows
import Derived.WalkKit
import Derived.ProofKit
import Derived.OpenShut
import Derived.ShutString
import Derived.ChangeOld
import Derived.Below
import Derived.BigQuiet
import Derived.Deep.QuietTactic
import Derived.Lib.Hide
import Derived.Deep.RegionHeld3
import Derived.Lib.SlBytesConst
import Derived.Laws.CopyOwn
import Derived.Laws.CopyRow
import Derived.Lib.Bytes
import Derived.Deep.LoopGhost
import Derived.Deep.DeepFit
import Derived.Deep.DeepMust
import Derived.WalkSpells
import Derived.WalkLawsBesides
import Derived.Maps.OwnOps
import Derived.Maps.OwnSet
import Derived.Maps.Views
import Derived.Laws.EntriesVeiled
import Derived.Laws.Rows
import Derived.Maps.AppendAt
import Derived.Lib.SmallJoins
import Derived.Deep.AppendLies
import Derived.DeepKeys4
import Derived.MapViews
import Derived.Maps.Keyed
import Derived.Carry
import Derived.Lib.ItoaNum
import Derived.Lib.AppendIntMem
import Derived.Deep.RegionWith
import Derived.Test.YthihkbcdihochaaGreatDoorC1
import Derived.Test.YthihkbcdihochaaGreatDoorC2
import Derived.Test.YthihkbcdihochaaGreatDoorC5
import Derived.Test.YthihkbcdihochaaGreatDoorC6
/- canon.start. -/
namespace Go.Proofs.YthihkbcdihochaaGreatDoor
open Go.ChangeShapes Go.WideShapes Go.ChangeAt Go.RowKit
set_option linter.unusedVariables false
/-- While report.Event writes a start: the event's block, the builder. -/
def EvG (T : TypeId) (cs : Array Value) (l : List UInt8) (w w' : World) : Prop :=
  Below w.heap.size w w' ∧ w'.heap[w.heap.size]? = some (.cells cs T (0, 0)) ∧ Bld (w.heap.size + 2) (w.heap.size + 1) l w' ∧ w.heap.size + 2 ≤ w'.heap.size
theorem EvG.kept {T : TypeId} {cs : Array Value} {l : List UInt8} {w w1 w2 : World} (h : EvG T cs l w w1) (hb : Below w1.heap.size w1 w2) : EvG T cs l w w2 :=
  ⟨h.1.trans (hb.mono h.1.size), (hb.block _ (by have := h.2.2.2; omega)).trans h.2.1, h.2.2.1.kept hb, Nat.le_trans h.2.2.2 hb.size⟩
theorem EvG.wrote {T : TypeId} {cs : Array Value} {l l' : List UInt8} {w w1 w2 : World} (h : EvG T cs l w w1) (hB : Bld (w.heap.size + 2) (w.heap.size + 1) l' w2) (hf : Fr (w.heap.size + 2) (w.heap.size + 1) w1 w2) : EvG T cs l' w w2 :=
  ⟨h.1.trans (hf.below (by omega) (by omega)), (hf.block _ (by omega) (by omega)).trans h.2.1, hB, Nat.le_trans h.2.2.2 hf.size⟩
theorem EvG.alloc {T : TypeId} {cs : Array Value} {l : List UInt8} {w w1 : World} (h : EvG T cs l w w1) (o : Obj) : EvG T cs l w (w1.alloc o) := h.kept ((Below.refl _ w1).alloc (Nat.le_refl _) _)
theorem EvG.start (T : TypeId) (cs : Array Value) (w : World) : EvG T cs [] w ((w.alloc (.cells cs T)).alloc (.cells #[.pointer none, .slice none 0 0] 100)) := by
  refine ⟨((Below.refl _ w).alloc (Nat.le_refl _) _).alloc (by simp) _, hp_old (hp_new w _), ?_, by simp⟩
  have := Bld.fresh (w.heap.size + 2) (w.alloc (.cells cs T)) (by simp)
  simpa using this
theorem EvG.drew {T : TypeId} {cs : Array Value} {l : List UInt8} {w w1 : World} (h : EvG T cs l w w1) : EvG T cs l w w1.drew := ⟨h.1.drew, h.2.1, h.2.2.1, h.2.2.2⟩
/-- The cells of the attribute at hand. -/
def AtG (q : Nat) (xs xl xv : List UInt8) (w' : World) : Prop := w'.cell? ⟨q, 0, none⟩ = some (.string ⟨xs.toArray⟩) ∧ w'.cell? ⟨q, 1, none⟩ = some (.string ⟨xl.toArray⟩) ∧ w'.cell? ⟨q, 2, none⟩ = some (.string ⟨xv.toArray⟩)
/-- While canon.start writes: the event's block, the builder, the numbers. -/
def CnK (cs : Array Value) (l : List UInt8) (sps : List (List UInt8)) (mb : Nat) (v : Value) (w W : World) : Prop := EvG 41 cs l w W ∧ AtM W mb sps ∧ OwnX W (mb + 1) v sps ∧ w.heap.size + 2 ≤ mb
theorem CnK.kept {cs : Array Value} {l : List UInt8} {sps : List (List UInt8)} {mb : Nat} {v : Value} {w W W' : World} (h : CnK cs l sps mb v w W) (hb : Below W.heap.size W W') : CnK cs l sps mb v w W' := ⟨h.1.kept hb, h.2.1.kept (hb.block _ h.2.1.lt), h.2.2.1.kept hb, h.2.2.2⟩
theorem CnK.wrote {cs : Array Value} {l l' : List UInt8} {sps : List (List UInt8)} {mb : Nat} {v : Value} {w W W' : World} (h : CnK cs l sps mb v w W) (hB : Bld (w.heap.size + 2) (w.heap.size + 1) l' W') (hf : Fr (w.heap.size + 2) (w.heap.size + 1) W W') (hk : KO (w.heap.size + 1) W W') : CnK cs l' sps mb v w W' := by
  have := h.2.2.2
  exact ⟨h.1.wrote hB hf, h.2.1.ko hk (by omega), h.2.2.1.ko hk (by omega), this⟩
def CnH (cs : Array Value) (l : List UInt8) (sps : List (List UInt8)) (mb : Nat) (v : Value) (q : Nat) (xs xl xv : List UInt8) (w w' : World) : Prop := CnK cs l sps mb v w w' ∧ w'.heap[q]? = some (.cells #[.string ⟨xs.toArray⟩, .string ⟨xl.toArray⟩, .string ⟨xv.toArray⟩] 112 (0, 0)) ∧ w.heap.size + 2 ≤ q
theorem CnH.at_ {q : Nat} {xs xl xv : List UInt8} {w' : World} (h : w'.heap[q]? = some (.cells #[.string ⟨xs.toArray⟩, .string ⟨xl.toArray⟩, .string ⟨xv.toArray⟩] 112 (0, 0))) : AtG q xs xl xv w' := ⟨by rw [cell_of 0 h]; rfl, by rw [cell_of 1 h]; rfl, by rw [cell_of 2 h]; rfl⟩
theorem CnH.kept {cs : Array Value} {l : List UInt8} {sps : List (List UInt8)} {mb : Nat} {v : Value} {q : Nat} {xs xl xv : List UInt8} {w w1 w2 : World} (h : CnH cs l sps mb v q xs xl xv w w1) (hb : Below w1.heap.size w1 w2) : CnH cs l sps mb v q xs xl xv w w2 :=
  ⟨h.1.kept hb, (hb.block _ (lt_of h.2.1)).trans h.2.1, h.2.2⟩
theorem CnH.drew {cs : Array Value} {l : List UInt8} {sps : List (List UInt8)} {mb : Nat} {v : Value} {q : Nat} {xs xl xv : List UInt8} {w w1 : World} (h : CnH cs l sps mb v q xs xl xv w w1) : CnH cs l sps mb v q xs xl xv w w1.drew :=
  ⟨⟨h.1.1.drew, h.1.2.1.kept rfl, ownsRow_keep h.1.2.2.1 (fun _ _ _ => rfl), h.1.2.2.2⟩, h.2.1, h.2.2⟩
theorem nsT_le {b : Nat} (l : List (List UInt8)) (h : ∀ s ∈ l, s.length ≤ b) (hl : l.length ≤ 5000) : ∀ t ≤ l.length, (nsT l t).length ≤ t * (6 * b + 100)
  | 0, _ => by simp [nsT]
  | t + 1, ht => by
    have ih := nsT_le l h hl t (by omega)
    have hm : l.getD t [] ∈ l := by
      rw [List.getD_eq_getElem?_getD, List.getElem?_eq_getElem (by omega), Option.getD_some]
      exact List.getElem_mem _
    have h1 := h _ hm
    have h2 := esc_le (l.getD t [])
    have h3 := decD_le t (by omega)
    rw [nsT, List.length_append, Nat.add_mul]
    unfold nsOne valL
    simp only [List.length_append, List.length_cons, List.length_nil]
    omega
theorem prefL_le (l : List (List UInt8)) (s : List UInt8) (hl : l.length ≤ 5000) : (prefL l s).length ≤ 30 := by
  have h3 := decD_le (l.idxOf s) (by have := List.idxOf_le_length (a := s) (l := l); omega)
  unfold prefL
  split
  · simp
  · split
    · simp
    · simp only [List.length_append, List.length_cons, List.length_nil]
      omega
theorem cnAt_le {b : Nat} (l : List (List UInt8)) (hl : l.length ≤ 5000) (a : List UInt8 × List UInt8 × List UInt8) (h2 : a.2.1.length ≤ b) (h3 : a.2.2.length ≤ b) : (cnAt l a).length ≤ 7 * b + 100 := by
  have h1 := prefL_le l a.1 hl
  have h4 := esc_le a.2.2
  unfold cnAt valL
  simp only [List.length_append, List.length_cons, List.length_nil]
  omega
theorem cnAts_le {b : Nat} (l : List (List UInt8)) (hl : l.length ≤ 5000) : ∀ ats : List (List UInt8 × List UInt8 × List UInt8), (∀ a ∈ ats, a.2.1.length ≤ b ∧ a.2.2.length ≤ b) → (ats.flatMap (cnAt l)).length ≤ ats.length * (7 * b + 100)
  | [], _ => by simp
  | a :: t, h => by
    have h1 := h a List.mem_cons_self
    have h2 := cnAts_le l hl t fun x hx => h x (List.mem_cons_of_mem _ hx)
    have h3 := cnAt_le l hl a h1.1 h1.2
    rw [List.flatMap_cons, List.length_append, List.length_cons, Nat.add_mul]
    omega
theorem cnAts_snoc {l : List (List UInt8)} {ats : List (List UInt8 × List UInt8 × List UInt8)} {t : Nat} {x : List UInt8 × List UInt8 × List UInt8} (h : ats[t]? = some x) : (ats.take (t + 1)).flatMap (cnAt l) = (ats.take t).flatMap (cnAt l) ++ cnAt l x := by
  rw [List.take_add_one, h, List.flatMap_append]
  simp
theorem eqv (a b : List UInt8) : (a == b) = decide (a = b) := by
  rw [Bool.eq_iff_iff, beq_iff_eq, decide_eq_true_eq]
set_option maxRecDepth 100000 in
set_option maxHeartbeats 16000000 in
theorem cnStart_c (sp lo tx space : List UInt8) (A : Option Addr) (n cap : Nat) (ats : List (List UInt8 × List UInt8 × List UInt8)) (w : World) (h : RRd cA 3 w w.heap.size A n cap ats) (hle : EvLe 5000 ⟨⟨1, sp, lo, ats, tx⟩, A, n, cap⟩) (hspc : space.length ≤ 5000) (hp : Lib.TabIs Tryz.prog w "internal/strconv.uint64pow10" .u64 Lib.pow10Tab) :
    Calls Tryz.prog 50 #[.agg #[.int .i64 1, .string ⟨sp.toArray⟩, .string ⟨lo.toArray⟩, .slice A n cap, .string ⟨tx.toArray⟩], .string ⟨space.toArray⟩] w fun e w' => e = .returned (.tuple #[.string ⟨(cnStart sp lo ats space).toArray⟩, .string ⟨(spOf sp space).toArray⟩]) ∧ Below w.heap.size w w' := by
  have h1 : sp.length ≤ 5000 := hle.sp
  have h2 : lo.length ≤ 5000 := hle.lo
  have hn : n ≤ 5000 := hle.n
  have HP : Hid (∀ W, Below w.heap.size w W → RRd cA 3 W W.heap.size A n cap ats) := Lib.hid fun W hb => (h.below hb).more hb.size
  have HTB : Hid (∀ W, Below w.heap.size w W → Lib.TabIs Tryz.prog W "internal/strconv.uint64pow10" .u64 Lib.pow10Tab) := Lib.hid fun W hb => TabIs_below41 hp hb
  have HLN : Hid (ats.length = n) := Lib.hid h.len
  have HAL : Hid (∀ a ∈ ats, a.1.length ≤ 5000 ∧ a.2.1.length ≤ 5000 ∧ a.2.2.length ≤ 5000) := Lib.hid hle.ats
  have NM : Hid (∀ W, Below w.heap.size w W → Calls Tryz.prog 115 #[.slice A n cap] W fun e w' => ∃ OA oc, e = .returned (.tuple #[.map (some W.heap.size), .slice OA (spcs [] ats).length oc]) ∧ AtM w' W.heap.size (spcs [] ats) ∧ OwnX w' (W.heap.size + 1) (.slice OA (spcs [] ats).length oc) (spcs [] ats) ∧ Below W.heap.size W w') := Lib.hid fun W hb => numbers_c A n cap ats W (HP.out W hb) hn (fun a ha => (HAL.out a ha).1)
  have hsm : (spcs [] ats).length ≤ 5000 := by have h5 := spcs_len [] ats; have := HLN.out; simp only [List.length_nil] at h5; omega
  have HSM : Hid (∀ s ∈ spcs [] ats, s.length ≤ 5000) := Lib.hid fun s hs => by
    rcases spcs_mem hs with h | ⟨a, ha, rfl⟩
    · cases h
    · exact (HAL.out a ha).1
  have HHS : Hid (∀ a ∈ ats, a.1 = [] ∨ a.1 = xmlSp ∨ a.1 ∈ spcs [] ats) := Lib.hid fun a ha => by
    by_cases e1 : a.1 = []
    · exact .inl e1
    · by_cases e2 : a.1 = xmlSp
      · exact .inr (.inl e2)
      · exact .inr (.inr (spcs_has.2 a ha (by unfold ownSp; simp [e1, e2])))
  have EL := Lib.hid (fun W => cnElem_c sp lo W (by omega))
  have LW : Hid (∀ (s : List UInt8) W, s.length ≤ 5000 → Calls Tryz.prog 114 #[.string ⟨s.toArray⟩] W fun e w' => e = .returned (.string ⟨(valL s).toArray⟩) ∧ Below W.heap.size W w') := Lib.hid fun s W a => litWrite_c s W (by omega)
  have WS : Hid (∀ l s w1, EvG 41 #[.int .i64 1, .string ⟨sp.toArray⟩, .string ⟨lo.toArray⟩, .slice A n cap, .string ⟨tx.toArray⟩] l w w1 → l.length ≤ 10000000000 → s.length ≤ 10000000000 → Calls Tryz.prog 77 #[.pointer (some ⟨w.heap.size + 1, 0, none⟩), .string ⟨s.toArray⟩] w1 fun e w' => e = .returned (.tuple #[.int .i64 s.length, .nilIface]) ∧ EvG 41 #[.int .i64 1, .string ⟨sp.toArray⟩, .string ⟨lo.toArray⟩, .slice A n cap, .string ⟨tx.toArray⟩] (l ++ s) w w') := Lib.hid fun l s w1 h h1 h2 =>
    (writeString_o (w.heap.size + 1) l s w1 h.2.2.1 (by omega)).mono fun e w' ⟨he, hB, hf, hk⟩ => ⟨he, h.wrote hB hf⟩
  have WK : Hid (∀ l s sps mb v w1, CnK #[.int .i64 1, .string ⟨sp.toArray⟩, .string ⟨lo.toArray⟩, .slice A n cap, .string ⟨tx.toArray⟩] l sps mb v w w1 → l.length ≤ 10000000000 → s.length ≤ 10000000000 → Calls Tryz.prog 77 #[.pointer (some ⟨w.heap.size + 1, 0, none⟩), .string ⟨s.toArray⟩] w1 fun e w' => e = .returned (.tuple #[.int .i64 s.length, .nilIface]) ∧ CnK #[.int .i64 1, .string ⟨sp.toArray⟩, .string ⟨lo.toArray⟩, .slice A n cap, .string ⟨tx.toArray⟩] (l ++ s) sps mb v w w') := Lib.hid fun l s sps mb v w1 h h1 h2 =>
    (writeString_o (w.heap.size + 1) l s w1 h.1.2.2.1 (by omega)).mono fun e w' ⟨he, hB, hf, hk⟩ => ⟨he, h.wrote hB hf hk⟩
  have I0 := Lib.hid (EvG.start 41 #[.int .i64 1, .string ⟨sp.toArray⟩, .string ⟨lo.toArray⟩, .slice A n cap, .string ⟨tx.toArray⟩] w)
  have hel : (elemL sp lo).length ≤ 5004 := by
    unfold elemL
    split
    · simp
      omega
    · omega
  have hvl : (valL sp).length ≤ 30002 := by have := esc_le sp; unfold valL; simp; omega
  have HR : Hid (cnStart sp lo ats space = ([60] ++ elemL sp lo) ++ (if (decide (sp = xmlSp) || decide (sp = space)) = true then [] else [32, 120, 109, 108, 110, 115, 61] ++ valL sp) ++ nsT (spcs [] ats) (spcs [] ats).length ++ (ats.take n).flatMap (cnAt (spcs [] ats)) ++ [62]) := Lib.hid (by unfold cnStart; rw [List.take_of_length_le (by rw [h.len]; exact Nat.le_refl _)])
  have HSO : Hid (spOf sp space = if (decide (sp = xmlSp) || decide (sp = space)) = true then space else sp) := Lib.hid rfl
  obtain ⟨R, hR⟩ : ∃ q, cnStart sp lo ats space = q := ⟨_, rfl⟩
  obtain ⟨SO, hSO⟩ : ∃ q, spOf sp space = q := ⟨_, rfl⟩
  rw [hR] at HR ⊢
  rw [hSO] at HSO ⊢
  obtain ⟨e1, he1⟩ : ∃ q, elemL sp lo = q := ⟨_, rfl⟩
  rw [he1] at EL HR hel
  have LX := Lib.hid (fun W => LW.out sp W h1)
  obtain ⟨V0, hV0⟩ : ∃ q, valL sp = q := ⟨_, rfl⟩
  rw [hV0] at LX HR hvl
  have p1 : ∀ w : World, (Op.stringOp .add ⟨#[60]⟩ ⟨e1.toArray⟩).run Tryz.prog w = .ok (.string ⟨([60] ++ e1).toArray⟩) w := fun w => run_sop (w := w) [60] e1 (by simp; omega)
  have p2 : ∀ w : World, (Op.stringOp .add ⟨#[32, 120, 109, 108, 110, 115, 61]⟩ ⟨V0.toArray⟩).run Tryz.prog w = .ok (.string ⟨([32, 120, 109, 108, 110, 115, 61] ++ V0).toArray⟩) w := fun w => run_sop (w := w) [32, 120, 109, 108, 110, 115, 61] V0 (by simp; omega)
  obtain ⟨P1, hP1⟩ : ∃ q, [60] ++ e1 = q := ⟨_, rfl⟩
  obtain ⟨P2, hP2⟩ : ∃ q, [32, 120, 109, 108, 110, 115, 61] ++ V0 = q := ⟨_, rfl⟩
  rw [hP1] at p1 HR
  rw [hP2] at p2 HR
  have hP1l : P1.length ≤ 6000 := by rw [← hP1]; simp; omega
  have hP2l : P2.length ≤ 40000 := by rw [← hP2]; simp; omega
  have HPL := Lib.hid (And.intro hP1l hP2l)
  have hx := xml_eq sp
  have hy := eqv sp space
  obtain ⟨bx, hbx⟩ : ∃ q, decide (sp = xmlSp) = q := ⟨_, rfl⟩
  obtain ⟨by_, hby⟩ : ∃ q, decide (sp = space) = q := ⟨_, rfl⟩
  rw [hbx] at hx HR HSO
  rw [hby] at hy HR HSO
  unfold xmlSp at hx
  clear h hle hR hSO he1 hV0 hP1 hP2 h1 h2 hP1l hP2l hel hvl hbx hby hspc hp
  go_enter Tryz.func50, Tryz.ntmps50
  go_wp2_with fail
  refine (EL.out _).mono ?_
  rintro e w1 ⟨rfl, hb⟩
  have I1 := Lib.hid (I0.out.kept hb)
  clear hb I0 EL
  go_wp2_with fail
  refine (WS.out [] P1 w1 I1.out (by simp) (by have := HPL.out; omega)).mono ?_
  rintro e w2 ⟨rfl, hb⟩
  have I2 : Hid (EvG 41 #[.int .i64 1, .string ⟨sp.toArray⟩, .string ⟨lo.toArray⟩, .slice A n cap, .string ⟨tx.toArray⟩] P1 w w2) := Lib.hid (by simpa using hb)
  have z1 : w2.cell? ⟨w.heap.size, 1, none⟩ = some (.string ⟨sp.toArray⟩) := by rw [cell_of 1 hb.2.1]; rfl
  have z3 : w2.cell? ⟨w.heap.size, 3, none⟩ = some (.slice A n cap) := by rw [cell_of 3 hb.2.1]; rfl
  clear hb I1
  cases bx with
  | true =>
    have HR3 : Hid (R = P1 ++ nsT (spcs [] ats) (spcs [] ats).length ++ (ats.take n).flatMap (cnAt (spcs [] ats)) ++ [62]) := Lib.hid (by rw [HR.out]; simp)
    have HSP : space = SO := by rw [HSO.out]; simp
    subst HSP
    have HD0 : Hid (P1.length ≤ 100000) := Lib.hid (by have := HPL.out; omega)
    have I3 := I2
    clear HR HSO I2 HPL


    have HR := Lib.hid HR3.out
    clear HR3
    go_wp2_with fail
    refine (NM.out _ I3.out.1).mono ?_
    rintro e w4 ⟨OA, oc, rfl, hM, hO, hb⟩
    have K4 : Hid (CnK #[.int .i64 1, .string ⟨sp.toArray⟩, .string ⟨lo.toArray⟩, .slice A n cap, .string ⟨tx.toArray⟩] (P1 ++ nsT (spcs [] ats) 0) (spcs [] ats) w2.heap.size (.slice OA (spcs [] ats).length oc) w w4) := Lib.hid ⟨by simpa [nsT] using I3.out.kept hb, hM, hO, I3.out.2.2.2⟩
    obtain ⟨mb, hmb⟩ : ∃ q, w2.heap.size = q := ⟨_, rfl⟩
    rw [hmb] at K4 ⊢
    obtain ⟨sps, hsps⟩ : ∃ q, spcs [] ats = q := ⟨_, rfl⟩
    rw [hsps] at K4 HHS HSM hsm HR ⊢
    obtain ⟨m, hm⟩ : ∃ q, sps.length = q := ⟨_, rfl⟩
    rw [hm] at K4 hsm HR ⊢
    have HM := Lib.hid hm
    have hm0 : (0 : Int) ≤ (m : Int) := by omega
    have hm9 : (m : Int) ≤ 5000 := by omega
    clear hM hO hb hmb hsps hm I3 NM
    go_wp2_with fail
    go_loopg [44] (m) (fun g i wr => ∃ t : Nat, i = .int .i64 (t : Int) ∧ t ≤ m ∧ Hid (g + t = m) ∧ Hid (CnK #[.int .i64 1, .string ⟨sp.toArray⟩, .string ⟨lo.toArray⟩, .slice A n cap, .string ⟨tx.toArray⟩] (P1 ++ nsT sps t) sps mb (.slice OA m oc) w wr))
    case atStart => exact ⟨0, rfl, Nat.zero_le _, Lib.hid rfl, K4⟩
    case round =>
      obtain ⟨t, rfl, ht, hg, HK⟩ := hrel
      have ht0 : (0 : Int) ≤ (t : Int) := by omega
      have ht9 : (t : Int) ≤ 5000 := by omega
      by_cases htn : t < m
      · have hti : (t : Int) < (m : Int) := by omega
        obtain ⟨A2, c2, hv, hr⟩ := RRd.ofOwn (c := cSn) (fun _ => rfl) (by decide) HK.out.2.2.1
        injection hv with hv1 hv2 hv3
        subst hv1
        subst hv3
        rw [HM.out] at hr
        obtain ⟨b2, o2, s, rfl, hb2, hs, hc2⟩ := hr.cell htn
        have y0 : wr.cell? ⟨b2, o2 + t, none⟩ = some (.string ⟨s.toArray⟩) := by rw [show o2 + t = o2 + (t * 1 + 0) by omega]; exact hc2 0 _ rfl
        have hsl := HSM.out s (List.mem_of_getElem? hs)
        have HN1 : Hid (nsT sps (t + 1) = nsT sps t ++ nsOne t s) := Lib.hid (by rw [nsT, List.getD_eq_getElem?_getD, hs, Option.getD_some])
        have hnl := nsT_le (b := 5000) sps HSM.out (by rw [HM.out]; exact hsm) t (by rw [HM.out]; exact ht)
        have hnl2 : (nsT sps t).length ≤ 500000000 := by
          have : t * (6 * 5000 + 100) ≤ 5000 * (6 * 5000 + 100) := Nat.mul_le_mul_right _ (by omega)
          omega
        have IT := Lib.hid (fun W hb => itoa41_c t (by omega) W (HTB.out W hb))
        have LT := Lib.hid (fun W => LW.out s W hsl)
        have hE := decD_le t (by omega)
        have hV : (valL s).length ≤ 30002 := by have := esc_le s; unfold valL; simp; omega
        have HNO : Hid (nsOne t s = [32, 120, 109, 108, 110, 115, 58, 110] ++ Lib.decDigits t ++ [61] ++ valL s) := Lib.hid rfl
        obtain ⟨E, heE⟩ : ∃ q, Lib.decDigits t = q := ⟨_, rfl⟩
        obtain ⟨V, hVe⟩ : ∃ q, valL s = q := ⟨_, rfl⟩
        obtain ⟨O, hOe⟩ : ∃ q, nsOne t s = q := ⟨_, rfl⟩
        rw [heE] at IT hE HNO
        rw [hVe] at LT hV HNO
        rw [hOe] at HNO HN1
        have q1 : ∀ w : World, (Op.stringOp .add ⟨#[32, 120, 109, 108, 110, 115, 58, 110]⟩ ⟨E.toArray⟩).run Tryz.prog w = .ok (.string ⟨([32, 120, 109, 108, 110, 115, 58, 110] ++ E).toArray⟩) w := fun w => run_sop (w := w) [32, 120, 109, 108, 110, 115, 58, 110] E (by simp; omega)
        have q2 : ∀ w : World, (Op.stringOp .add ⟨([32, 120, 109, 108, 110, 115, 58, 110] ++ E).toArray⟩ ⟨#[61]⟩).run Tryz.prog w = .ok (.string ⟨([32, 120, 109, 108, 110, 115, 58, 110] ++ E ++ [61]).toArray⟩) w := fun w => run_sop (w := w) ([32, 120, 109, 108, 110, 115, 58, 110] ++ E) [61] (by simp; omega)
        have q3 : ∀ w : World, (Op.stringOp .add ⟨([32, 120, 109, 108, 110, 115, 58, 110] ++ E ++ [61]).toArray⟩ ⟨V.toArray⟩).run Tryz.prog w = .ok (.string ⟨O.toArray⟩) w := fun w => by rw [HNO.out]; exact run_sop (w := w) ([32, 120, 109, 108, 110, 115, 58, 110] ++ E ++ [61]) V (by simp; omega)
        have hOl : O.length ≤ 40000 := by rw [HNO.out]; simp; omega
        obtain ⟨Y2, hY2⟩ : ∃ q, [32, 120, 109, 108, 110, 115, 58, 110] ++ E ++ [61] = q := ⟨_, rfl⟩
        obtain ⟨Y1, hY1⟩ : ∃ q, [32, 120, 109, 108, 110, 115, 58, 110] ++ E = q := ⟨_, rfl⟩
        rw [hY2] at q2 q3
        rw [hY1] at q1 q2
        have HW : Hid (∀ w1, CnK #[.int .i64 1, .string ⟨sp.toArray⟩, .string ⟨lo.toArray⟩, .slice A n cap, .string ⟨tx.toArray⟩] (P1 ++ nsT sps t) sps mb (.slice (some ⟨b2, o2, none⟩) m oc) w w1 → Calls Tryz.prog 77 #[.pointer (some ⟨w.heap.size + 1, 0, none⟩), .string ⟨O.toArray⟩] w1 fun e w' => e = .returned (.tuple #[.int .i64 O.length, .nilIface]) ∧ CnK #[.int .i64 1, .string ⟨sp.toArray⟩, .string ⟨lo.toArray⟩, .slice A n cap, .string ⟨tx.toArray⟩] (P1 ++ nsT sps (t + 1)) sps mb (.slice (some ⟨b2, o2, none⟩) m oc) w w') := Lib.hid fun w1 h => by
          rw [HN1.out, ← List.append_assoc]
          exact WK.out _ O sps mb _ w1 h (by have := HD0.out; rw [List.length_append]; omega) (by omega)
        clear hv2 hr hb2 hs hc2 hsl hnl hnl2 hE hV heE hVe hOe hOl hY2 hY1 HNO HN1
        go_wp2_with fail
        refine (IT.out _ HK.out.1.1).mono ?_
        rintro e w5 ⟨rfl, hb⟩
        have K5 := Lib.hid (HK.out.kept hb)
        clear hb HK IT y0
        go_wp2_with fail
        refine (LT.out _).mono ?_
        rintro e w6 ⟨rfl, hb⟩
        have K6 := Lib.hid (K5.out.kept hb)
        clear hb K5 LT
        go_wp2_with fail
        refine (HW.out _ K6.out).mono ?_
        rintro e w7 ⟨rfl, hb⟩
        have K7 := Lib.hid hb
        clear hb K6 HW
        go_wp2
        go_roundg (m - (t + 1))
        case measure => have := hg.out; omega
        case rel => exact ⟨t + 1, by go_num, by omega, Lib.hid (by have := hg.out; omega), K7⟩
      · have hti : ¬ (t : Int) < (m : Int) := by omega
        obtain rfl : t = m := by omega
        have he5 : wr.cell? ⟨w.heap.size, 3, none⟩ = some (.slice A n cap) := by rw [cell_of 3 HK.out.1.2.1]; rfl
        have hnl := nsT_le (b := 5000) sps HSM.out (by rw [HM.out]; exact hsm) t (by rw [HM.out]; exact Nat.le_refl _)
        have hnl2 : (nsT sps t).length ≤ 500000000 := by
          have : t * (6 * 5000 + 100) ≤ 5000 * (6 * 5000 + 100) := Nat.mul_le_mul_right _ (by omega)
          omega
        obtain ⟨D1, hD1⟩ : ∃ q, P1 ++ nsT sps t = q := ⟨_, rfl⟩
        have HD1 : Hid (D1.length ≤ 600000000) := Lib.hid (by rw [← hD1, List.length_append]; have := HD0.out; omega)
        have K8 : Hid (CnK #[.int .i64 1, .string ⟨sp.toArray⟩, .string ⟨lo.toArray⟩, .slice A n cap, .string ⟨tx.toArray⟩] (D1 ++ (ats.take 0).flatMap (cnAt sps)) sps mb (.slice OA t oc) w wr) := Lib.hid (by rw [← hD1]; simpa using HK.out)
        rw [hD1] at HR
        clear HK hnl hnl2 hD1 HD0 HSM ht0 ht9
        go_wp2_with fail
        go_loopg [61] (n) (fun g i wr => ∃ t2 : Nat, i = .int .i64 (t2 : Int) ∧ t2 ≤ n ∧ Hid (g + t2 = n) ∧ Hid (CnK #[.int .i64 1, .string ⟨sp.toArray⟩, .string ⟨lo.toArray⟩, .slice A n cap, .string ⟨tx.toArray⟩] (D1 ++ (ats.take t2).flatMap (cnAt sps)) sps mb (.slice OA t oc) w wr))
        case atStart => exact ⟨0, rfl, Nat.zero_le _, Lib.hid rfl, K8⟩
        case round =>
          obtain ⟨t2, rfl, ht2, hg2, HK⟩ := hrel
          have ht0 : (0 : Int) ≤ (t2 : Int) := by omega
          have ht9 : (t2 : Int) ≤ 5000 := by omega
          by_cases htn2 : t2 < n
          · have hti2 : (t2 : Int) < (n : Int) := by omega
            clear he5
            obtain ⟨b1, o1, x, hAe, hb1, hx, hc1⟩ := (HP.out _ HK.out.1.1).cell htn2
            obtain ⟨hx1, hx2, hx3⟩ := HAL.out x (List.mem_of_getElem? hx)
            have hmem := HHS.out x (List.mem_of_getElem? hx)
            have HSS := Lib.hid (cnAts_snoc (l := sps) hx)
            have hlen := cnAts_le (b := 5000) sps (by rw [HM.out]; exact hsm) (ats.take t2) fun a ha => (HAL.out a (List.mem_of_mem_take ha)).2
            have hlt : (ats.take t2).length ≤ 5000 := by have := HLN.out; rw [List.length_take]; omega
            have hll : ((ats.take t2).flatMap (cnAt sps)).length ≤ 500000000 := by
              have : (ats.take t2).length * (7 * 5000 + 100) ≤ 5000 * (7 * 5000 + 100) := Nat.mul_le_mul_right _ hlt
              omega
            obtain ⟨xs, xl, xv⟩ := x
            simp only at hx1 hx2 hx3 hmem
            have y0 : wr.cell? ⟨b1, o1 + t2 * 3, none⟩ = some (.string ⟨xs.toArray⟩) := by rw [show o1 + t2 * 3 = o1 + (t2 * 3 + 0) by omega]; exact hc1 0 _ rfl
            have y1 : wr.cell? ⟨b1, o1 + t2 * 3 + 1, none⟩ = some (.string ⟨xl.toArray⟩) := by rw [show o1 + t2 * 3 + 1 = o1 + (t2 * 3 + 1) by omega]; exact hc1 1 _ rfl
            have y2 : wr.cell? ⟨b1, o1 + t2 * 3 + 2, none⟩ = some (.string ⟨xv.toArray⟩) := by rw [show o1 + t2 * 3 + 2 = o1 + (t2 * 3 + 2) by omega]; exact hc1 2 _ rfl
            have PX := Lib.hid (fun w1 hM hb => cnPrefix_c xs xl sps mb w1 hM (by rw [HM.out]; exact hsm) hx1 hmem (HTB.out w1 hb))
            have VX := Lib.hid (fun w1 => LW.out xv w1 hx3)
            have hfl := prefL_le sps xs (by rw [HM.out]; exact hsm)
            have hV : (valL xv).length ≤ 30002 := by have := esc_le xv; unfold valL; simp; omega
            have HCA : Hid (cnAt sps (xs, xl, xv) = [32] ++ prefL sps xs ++ xl ++ [61] ++ valL xv) := Lib.hid rfl
            subst hAe
            obtain ⟨F, hF⟩ : ∃ q, prefL sps xs = q := ⟨_, rfl⟩
            obtain ⟨V, hVe⟩ : ∃ q, valL xv = q := ⟨_, rfl⟩
            obtain ⟨O, hOe⟩ : ∃ q, cnAt sps (xs, xl, xv) = q := ⟨_, rfl⟩
            rw [hF] at PX hfl HCA
            rw [hVe] at VX hV HCA
            rw [hOe] at HSS HCA
            have q1 : ∀ w : World, (Op.stringOp .add ⟨#[32]⟩ ⟨F.toArray⟩).run Tryz.prog w = .ok (.string ⟨([32] ++ F).toArray⟩) w := fun w => run_sop (w := w) [32] F (by simp; omega)
            have q2 : ∀ w : World, (Op.stringOp .add ⟨([32] ++ F).toArray⟩ ⟨xl.toArray⟩).run Tryz.prog w = .ok (.string ⟨([32] ++ F ++ xl).toArray⟩) w := fun w => run_sop (w := w) ([32] ++ F) xl (by simp; omega)
            have q3 : ∀ w : World, (Op.stringOp .add ⟨([32] ++ F ++ xl).toArray⟩ ⟨#[61]⟩).run Tryz.prog w = .ok (.string ⟨([32] ++ F ++ xl ++ [61]).toArray⟩) w := fun w => run_sop (w := w) ([32] ++ F ++ xl) [61] (by simp; omega)
            have q4 : ∀ w : World, (Op.stringOp .add ⟨([32] ++ F ++ xl ++ [61]).toArray⟩ ⟨V.toArray⟩).run Tryz.prog w = .ok (.string ⟨O.toArray⟩) w := fun w => by rw [HCA.out]; exact run_sop (w := w) ([32] ++ F ++ xl ++ [61]) V (by simp; omega)
            have hOl : O.length ≤ 40000 := by rw [HCA.out]; simp; omega
            obtain ⟨Y3, hY3⟩ : ∃ q, [32] ++ F ++ xl ++ [61] = q := ⟨_, rfl⟩
            obtain ⟨Y2, hY2⟩ : ∃ q, [32] ++ F ++ xl = q := ⟨_, rfl⟩
            obtain ⟨Y1, hY1⟩ : ∃ q, [32] ++ F = q := ⟨_, rfl⟩
            rw [hY3] at q3 q4
            rw [hY2] at q2 q3
            rw [hY1] at q1 q2
            obtain ⟨D, hD⟩ : ∃ q, D1 ++ (ats.take t2).flatMap (cnAt sps) = q := ⟨_, rfl⟩
            have hDl : D.length ≤ 2000000000 := by rw [← hD, List.length_append]; have := HD1.out; omega
            have HSD : Hid (D1 ++ (ats.take (t2 + 1)).flatMap (cnAt sps) = D ++ O) := Lib.hid (by rw [HSS.out, ← List.append_assoc, hD])
            rw [hD] at HK
            have hJ : Hid (CnH #[.int .i64 1, .string ⟨sp.toArray⟩, .string ⟨lo.toArray⟩, .slice (some ⟨b1, o1, none⟩) n cap, .string ⟨tx.toArray⟩] D sps mb (.slice OA t oc) wr.heap.size xs xl xv w (wr.alloc (.cells #[.string ⟨xs.toArray⟩, .string ⟨xl.toArray⟩, .string ⟨xv.toArray⟩] 112)).drew) := Lib.hid (CnH.drew ⟨HK.out.kept ((Below.refl _ wr).alloc (Nat.le_refl _) _), hp_new wr _, by have := HK.out.2.1.lt; have := HK.out.2.2.2; omega⟩)
            have PJ : Hid (∀ w1, Hid (CnH #[.int .i64 1, .string ⟨sp.toArray⟩, .string ⟨lo.toArray⟩, .slice (some ⟨b1, o1, none⟩) n cap, .string ⟨tx.toArray⟩] D sps mb (.slice OA t oc) wr.heap.size xs xl xv w w1) → Calls Tryz.prog 116 #[.agg #[.string ⟨xs.toArray⟩, .string ⟨xl.toArray⟩], .map (some mb)] w1 fun e w' => e = .returned (.string ⟨F.toArray⟩) ∧ AtG wr.heap.size xs xl xv w' ∧ Hid (CnH #[.int .i64 1, .string ⟨sp.toArray⟩, .string ⟨lo.toArray⟩, .slice (some ⟨b1, o1, none⟩) n cap, .string ⟨tx.toArray⟩] D sps mb (.slice OA t oc) wr.heap.size xs xl xv w w')) := Lib.hid fun w1 h => (PX.out w1 h.out.1.2.1 h.out.1.1.1).mono fun e w' ⟨he, hb⟩ => ⟨he, CnH.at_ (h.out.kept hb).2.1, Lib.hid (h.out.kept hb)⟩
            have VJ : Hid (∀ w1, Hid (CnH #[.int .i64 1, .string ⟨sp.toArray⟩, .string ⟨lo.toArray⟩, .slice (some ⟨b1, o1, none⟩) n cap, .string ⟨tx.toArray⟩] D sps mb (.slice OA t oc) wr.heap.size xs xl xv w w1) → Calls Tryz.prog 114 #[.string ⟨xv.toArray⟩] w1 fun e w' => e = .returned (.string ⟨V.toArray⟩) ∧ AtG wr.heap.size xs xl xv w' ∧ Hid (CnH #[.int .i64 1, .string ⟨sp.toArray⟩, .string ⟨lo.toArray⟩, .slice (some ⟨b1, o1, none⟩) n cap, .string ⟨tx.toArray⟩] D sps mb (.slice OA t oc) wr.heap.size xs xl xv w w')) := Lib.hid fun w1 h => (VX.out w1).mono fun e w' ⟨he, hb⟩ => ⟨he, CnH.at_ (h.out.kept hb).2.1, Lib.hid (h.out.kept hb)⟩
            have WJ : Hid (∀ w1, Hid (CnH #[.int .i64 1, .string ⟨sp.toArray⟩, .string ⟨lo.toArray⟩, .slice (some ⟨b1, o1, none⟩) n cap, .string ⟨tx.toArray⟩] D sps mb (.slice OA t oc) wr.heap.size xs xl xv w w1) → Calls Tryz.prog 77 #[.pointer (some ⟨w.heap.size + 1, 0, none⟩), .string ⟨O.toArray⟩] w1 fun e w' => e = .returned (.tuple #[.int .i64 O.length, .nilIface]) ∧ AtG wr.heap.size xs xl xv w' ∧ Hid (CnK #[.int .i64 1, .string ⟨sp.toArray⟩, .string ⟨lo.toArray⟩, .slice (some ⟨b1, o1, none⟩) n cap, .string ⟨tx.toArray⟩] (D ++ O) sps mb (.slice OA t oc) w w')) := Lib.hid fun w1 h => (writeString_o (w.heap.size + 1) D O w1 h.out.1.1.2.2.1 (by omega)).mono fun e w' ⟨he, hB, hf, hk⟩ => ⟨he, CnH.at_ (hk _ _ (by have := h.out.2.2; omega) (fun vs f e => by injection e with _ e2 _; exact absurd e2 (by decide)) h.out.2.1), Lib.hid (h.out.1.wrote hB hf hk)⟩
            clear PX VX HK hF hVe hOe hY3 hY2 hY1 hD hlen hlt hll hx1 hx2 hx3 hmem hDl hOl hfl hV hb1 hx hc1 HSS HCA WK WS LW
            unfold AtG at PJ VJ WJ
            go_wp2_with fail
            obtain ⟨a0, a1, a2⟩ := CnH.at_ hJ.out.2.1
            go_region_held3 (fun w' => w'.cell? ⟨wr.heap.size, 0, none⟩ = some (.string ⟨xs.toArray⟩) ∧ w'.cell? ⟨wr.heap.size, 1, none⟩ = some (.string ⟨xl.toArray⟩) ∧ w'.cell? ⟨wr.heap.size, 2, none⟩ = some (.string ⟨xv.toArray⟩)) (first | exact ⟨by assumption, by assumption, by assumption⟩) (first
                | (go_at_call 116; refine (PJ.out _ (by assumption)).mono ?_; rintro e w4 ⟨rfl, ⟨b0, b1, b2⟩, hj4⟩)
                | (go_at_call 114; refine (VJ.out _ (by assumption)).mono ?_; rintro e w5 ⟨rfl, ⟨c0, c1, c2⟩, hj5⟩)
                | (go_at_call 77; refine (WJ.out _ (by assumption)).mono ?_; rintro e w7 ⟨rfl, ⟨d0, d1, d2⟩, I7⟩))
            all_goals
              go_wp2
              go_roundg (n - (t2 + 1))
              case measure => have := hg2.out; omega
              case rel => exact ⟨t2 + 1, by go_num, by omega, Lib.hid (by have := hg2.out; omega), Lib.hid (by rw [HSD.out]; exact I7.out)⟩
          · have hti2 : ¬ (t2 : Int) < (n : Int) := by omega
            obtain rfl : t2 = n := by omega
            have hlen := cnAts_le (b := 5000) sps (by rw [HM.out]; exact hsm) (ats.take t2) fun a ha => (HAL.out a (List.mem_of_mem_take ha)).2
            have hlt : (ats.take t2).length ≤ 5000 := by have := HLN.out; rw [List.length_take]; omega
            have hll : ((ats.take t2).flatMap (cnAt sps)).length ≤ 500000000 := by
              have : (ats.take t2).length * (7 * 5000 + 100) ≤ 5000 * (7 * 5000 + 100) := Nat.mul_le_mul_right _ hlt
              omega
            obtain ⟨D, hD⟩ : ∃ q, D1 ++ (ats.take t2).flatMap (cnAt sps) = q := ⟨_, rfl⟩
            have hDl : D.length ≤ 2000000000 := by rw [← hD, List.length_append]; have := HD1.out; omega
            rw [hD] at HK HR
            have hRR : R = D ++ [62] := HR.out
            subst hRR
            have q1 : ∀ w : World, (Op.stringOp .add ⟨D.toArray⟩ ⟨#[62]⟩).run Tryz.prog w = .ok (.string ⟨(D ++ [62]).toArray⟩) w := fun w => run_sop (w := w) D [62] (by simp; omega)
            clear hlen hlt hll hD hDl HR he5
            go_wp2_with fail
            refine (string_b _ _ _ wr HK.out.1.2.2.1).mono ?_
            rintro e w5 ⟨rfl, hb⟩
            have HB := Lib.hid (HK.out.1.1.trans (hb.mono (by have := HK.out.1.2.2.2; omega)))
            clear hb
            go_wp2
            go_ret2
            exact ⟨rfl, HB.out⟩
  | false =>
    cases by_ with
    | true =>
      have HR3 : Hid (R = P1 ++ nsT (spcs [] ats) (spcs [] ats).length ++ (ats.take n).flatMap (cnAt (spcs [] ats)) ++ [62]) := Lib.hid (by rw [HR.out]; simp)
      have HSP : space = SO := by rw [HSO.out]; simp
      subst HSP
      have HD0 : Hid (P1.length ≤ 100000) := Lib.hid (by have := HPL.out; omega)
      have I3 := I2
      clear HR HSO I2 HPL


      have HR := Lib.hid HR3.out
      clear HR3
      go_wp2_with fail
      refine (NM.out _ I3.out.1).mono ?_
      rintro e w4 ⟨OA, oc, rfl, hM, hO, hb⟩
      have K4 : Hid (CnK #[.int .i64 1, .string ⟨sp.toArray⟩, .string ⟨lo.toArray⟩, .slice A n cap, .string ⟨tx.toArray⟩] (P1 ++ nsT (spcs [] ats) 0) (spcs [] ats) w2.heap.size (.slice OA (spcs [] ats).length oc) w w4) := Lib.hid ⟨by simpa [nsT] using I3.out.kept hb, hM, hO, I3.out.2.2.2⟩
      obtain ⟨mb, hmb⟩ : ∃ q, w2.heap.size = q := ⟨_, rfl⟩
      rw [hmb] at K4 ⊢
      obtain ⟨sps, hsps⟩ : ∃ q, spcs [] ats = q := ⟨_, rfl⟩
      rw [hsps] at K4 HHS HSM hsm HR ⊢
      obtain ⟨m, hm⟩ : ∃ q, sps.length = q := ⟨_, rfl⟩
      rw [hm] at K4 hsm HR ⊢
      have HM := Lib.hid hm
      have hm0 : (0 : Int) ≤ (m : Int) := by omega
      have hm9 : (m : Int) ≤ 5000 := by omega
      clear hM hO hb hmb hsps hm I3 NM
      go_wp2_with fail
      go_loopg [44] (m) (fun g i wr => ∃ t : Nat, i = .int .i64 (t : Int) ∧ t ≤ m ∧ Hid (g + t = m) ∧ Hid (CnK #[.int .i64 1, .string ⟨sp.toArray⟩, .string ⟨lo.toArray⟩, .slice A n cap, .string ⟨tx.toArray⟩] (P1 ++ nsT sps t) sps mb (.slice OA m oc) w wr))
      case atStart => exact ⟨0, rfl, Nat.zero_le _, Lib.hid rfl, K4⟩
      case round =>
        obtain ⟨t, rfl, ht, hg, HK⟩ := hrel
        have ht0 : (0 : Int) ≤ (t : Int) := by omega
        have ht9 : (t : Int) ≤ 5000 := by omega
        by_cases htn : t < m
        · have hti : (t : Int) < (m : Int) := by omega
          obtain ⟨A2, c2, hv, hr⟩ := RRd.ofOwn (c := cSn) (fun _ => rfl) (by decide) HK.out.2.2.1
          injection hv with hv1 hv2 hv3
          subst hv1
          subst hv3
          rw [HM.out] at hr
          obtain ⟨b2, o2, s, rfl, hb2, hs, hc2⟩ := hr.cell htn
          have y0 : wr.cell? ⟨b2, o2 + t, none⟩ = some (.string ⟨s.toArray⟩) := by rw [show o2 + t = o2 + (t * 1 + 0) by omega]; exact hc2 0 _ rfl
          have hsl := HSM.out s (List.mem_of_getElem? hs)
          have HN1 : Hid (nsT sps (t + 1) = nsT sps t ++ nsOne t s) := Lib.hid (by rw [nsT, List.getD_eq_getElem?_getD, hs, Option.getD_some])
          have hnl := nsT_le (b := 5000) sps HSM.out (by rw [HM.out]; exact hsm) t (by rw [HM.out]; exact ht)
          have hnl2 : (nsT sps t).length ≤ 500000000 := by
            have : t * (6 * 5000 + 100) ≤ 5000 * (6 * 5000 + 100) := Nat.mul_le_mul_right _ (by omega)
            omega
          have IT := Lib.hid (fun W hb => itoa41_c t (by omega) W (HTB.out W hb))
          have LT := Lib.hid (fun W => LW.out s W hsl)
          have hE := decD_le t (by omega)
          have hV : (valL s).length ≤ 30002 := by have := esc_le s; unfold valL; simp; omega
          have HNO : Hid (nsOne t s = [32, 120, 109, 108, 110, 115, 58, 110] ++ Lib.decDigits t ++ [61] ++ valL s) := Lib.hid rfl
          obtain ⟨E, heE⟩ : ∃ q, Lib.decDigits t = q := ⟨_, rfl⟩
          obtain ⟨V, hVe⟩ : ∃ q, valL s = q := ⟨_, rfl⟩
          obtain ⟨O, hOe⟩ : ∃ q, nsOne t s = q := ⟨_, rfl⟩
          rw [heE] at IT hE HNO
          rw [hVe] at LT hV HNO
          rw [hOe] at HNO HN1
          have q1 : ∀ w : World, (Op.stringOp .add ⟨#[32, 120, 109, 108, 110, 115, 58, 110]⟩ ⟨E.toArray⟩).run Tryz.prog w = .ok (.string ⟨([32, 120, 109, 108, 110, 115, 58, 110] ++ E).toArray⟩) w := fun w => run_sop (w := w) [32, 120, 109, 108, 110, 115, 58, 110] E (by simp; omega)
          have q2 : ∀ w : World, (Op.stringOp .add ⟨([32, 120, 109, 108, 110, 115, 58, 110] ++ E).toArray⟩ ⟨#[61]⟩).run Tryz.prog w = .ok (.string ⟨([32, 120, 109, 108, 110, 115, 58, 110] ++ E ++ [61]).toArray⟩) w := fun w => run_sop (w := w) ([32, 120, 109, 108, 110, 115, 58, 110] ++ E) [61] (by simp; omega)
          have q3 : ∀ w : World, (Op.stringOp .add ⟨([32, 120, 109, 108, 110, 115, 58, 110] ++ E ++ [61]).toArray⟩ ⟨V.toArray⟩).run Tryz.prog w = .ok (.string ⟨O.toArray⟩) w := fun w => by rw [HNO.out]; exact run_sop (w := w) ([32, 120, 109, 108, 110, 115, 58, 110] ++ E ++ [61]) V (by simp; omega)
          have hOl : O.length ≤ 40000 := by rw [HNO.out]; simp; omega
          obtain ⟨Y2, hY2⟩ : ∃ q, [32, 120, 109, 108, 110, 115, 58, 110] ++ E ++ [61] = q := ⟨_, rfl⟩
          obtain ⟨Y1, hY1⟩ : ∃ q, [32, 120, 109, 108, 110, 115, 58, 110] ++ E = q := ⟨_, rfl⟩
          rw [hY2] at q2 q3
          rw [hY1] at q1 q2
          have HW : Hid (∀ w1, CnK #[.int .i64 1, .string ⟨sp.toArray⟩, .string ⟨lo.toArray⟩, .slice A n cap, .string ⟨tx.toArray⟩] (P1 ++ nsT sps t) sps mb (.slice (some ⟨b2, o2, none⟩) m oc) w w1 → Calls Tryz.prog 77 #[.pointer (some ⟨w.heap.size + 1, 0, none⟩), .string ⟨O.toArray⟩] w1 fun e w' => e = .returned (.tuple #[.int .i64 O.length, .nilIface]) ∧ CnK #[.int .i64 1, .string ⟨sp.toArray⟩, .string ⟨lo.toArray⟩, .slice A n cap, .string ⟨tx.toArray⟩] (P1 ++ nsT sps (t + 1)) sps mb (.slice (some ⟨b2, o2, none⟩) m oc) w w') := Lib.hid fun w1 h => by
            rw [HN1.out, ← List.append_assoc]
            exact WK.out _ O sps mb _ w1 h (by have := HD0.out; rw [List.length_append]; omega) (by omega)
          clear hv2 hr hb2 hs hc2 hsl hnl hnl2 hE hV heE hVe hOe hOl hY2 hY1 HNO HN1
          go_wp2_with fail
          refine (IT.out _ HK.out.1.1).mono ?_
          rintro e w5 ⟨rfl, hb⟩
          have K5 := Lib.hid (HK.out.kept hb)
          clear hb HK IT y0
          go_wp2_with fail
          refine (LT.out _).mono ?_
          rintro e w6 ⟨rfl, hb⟩
          have K6 := Lib.hid (K5.out.kept hb)
          clear hb K5 LT
          go_wp2_with fail
          refine (HW.out _ K6.out).mono ?_
          rintro e w7 ⟨rfl, hb⟩
          have K7 := Lib.hid hb
          clear hb K6 HW
          go_wp2
          go_roundg (m - (t + 1))
          case measure => have := hg.out; omega
          case rel => exact ⟨t + 1, by go_num, by omega, Lib.hid (by have := hg.out; omega), K7⟩
        · have hti : ¬ (t : Int) < (m : Int) := by omega
          obtain rfl : t = m := by omega
          have he5 : wr.cell? ⟨w.heap.size, 3, none⟩ = some (.slice A n cap) := by rw [cell_of 3 HK.out.1.2.1]; rfl
          have hnl := nsT_le (b := 5000) sps HSM.out (by rw [HM.out]; exact hsm) t (by rw [HM.out]; exact Nat.le_refl _)
          have hnl2 : (nsT sps t).length ≤ 500000000 := by
            have : t * (6 * 5000 + 100) ≤ 5000 * (6 * 5000 + 100) := Nat.mul_le_mul_right _ (by omega)
            omega
          obtain ⟨D1, hD1⟩ : ∃ q, P1 ++ nsT sps t = q := ⟨_, rfl⟩
          have HD1 : Hid (D1.length ≤ 600000000) := Lib.hid (by rw [← hD1, List.length_append]; have := HD0.out; omega)
          have K8 : Hid (CnK #[.int .i64 1, .string ⟨sp.toArray⟩, .string ⟨lo.toArray⟩, .slice A n cap, .string ⟨tx.toArray⟩] (D1 ++ (ats.take 0).flatMap (cnAt sps)) sps mb (.slice OA t oc) w wr) := Lib.hid (by rw [← hD1]; simpa using HK.out)
          rw [hD1] at HR
          clear HK hnl hnl2 hD1 HD0 HSM ht0 ht9
          go_wp2_with fail
          go_loopg [61] (n) (fun g i wr => ∃ t2 : Nat, i = .int .i64 (t2 : Int) ∧ t2 ≤ n ∧ Hid (g + t2 = n) ∧ Hid (CnK #[.int .i64 1, .string ⟨sp.toArray⟩, .string ⟨lo.toArray⟩, .slice A n cap, .string ⟨tx.toArray⟩] (D1 ++ (ats.take t2).flatMap (cnAt sps)) sps mb (.slice OA t oc) w wr))
          case atStart => exact ⟨0, rfl, Nat.zero_le _, Lib.hid rfl, K8⟩
          case round =>
            obtain ⟨t2, rfl, ht2, hg2, HK⟩ := hrel
            have ht0 : (0 : Int) ≤ (t2 : Int) := by omega
            have ht9 : (t2 : Int) ≤ 5000 := by omega
            by_cases htn2 : t2 < n
            · have hti2 : (t2 : Int) < (n : Int) := by omega
              clear he5
              obtain ⟨b1, o1, x, hAe, hb1, hx, hc1⟩ := (HP.out _ HK.out.1.1).cell htn2
              obtain ⟨hx1, hx2, hx3⟩ := HAL.out x (List.mem_of_getElem? hx)
              have hmem := HHS.out x (List.mem_of_getElem? hx)
              have HSS := Lib.hid (cnAts_snoc (l := sps) hx)
              have hlen := cnAts_le (b := 5000) sps (by rw [HM.out]; exact hsm) (ats.take t2) fun a ha => (HAL.out a (List.mem_of_mem_take ha)).2
              have hlt : (ats.take t2).length ≤ 5000 := by have := HLN.out; rw [List.length_take]; omega
              have hll : ((ats.take t2).flatMap (cnAt sps)).length ≤ 500000000 := by
                have : (ats.take t2).length * (7 * 5000 + 100) ≤ 5000 * (7 * 5000 + 100) := Nat.mul_le_mul_right _ hlt
                omega
              obtain ⟨xs, xl, xv⟩ := x
              simp only at hx1 hx2 hx3 hmem
              have y0 : wr.cell? ⟨b1, o1 + t2 * 3, none⟩ = some (.string ⟨xs.toArray⟩) := by rw [show o1 + t2 * 3 = o1 + (t2 * 3 + 0) by omega]; exact hc1 0 _ rfl
              have y1 : wr.cell? ⟨b1, o1 + t2 * 3 + 1, none⟩ = some (.string ⟨xl.toArray⟩) := by rw [show o1 + t2 * 3 + 1 = o1 + (t2 * 3 + 1) by omega]; exact hc1 1 _ rfl
              have y2 : wr.cell? ⟨b1, o1 + t2 * 3 + 2, none⟩ = some (.string ⟨xv.toArray⟩) := by rw [show o1 + t2 * 3 + 2 = o1 + (t2 * 3 + 2) by omega]; exact hc1 2 _ rfl
              have PX := Lib.hid (fun w1 hM hb => cnPrefix_c xs xl sps mb w1 hM (by rw [HM.out]; exact hsm) hx1 hmem (HTB.out w1 hb))
              have VX := Lib.hid (fun w1 => LW.out xv w1 hx3)
              have hfl := prefL_le sps xs (by rw [HM.out]; exact hsm)
              have hV : (valL xv).length ≤ 30002 := by have := esc_le xv; unfold valL; simp; omega
              have HCA : Hid (cnAt sps (xs, xl, xv) = [32] ++ prefL sps xs ++ xl ++ [61] ++ valL xv) := Lib.hid rfl
              subst hAe
              obtain ⟨F, hF⟩ : ∃ q, prefL sps xs = q := ⟨_, rfl⟩
              obtain ⟨V, hVe⟩ : ∃ q, valL xv = q := ⟨_, rfl⟩
              obtain ⟨O, hOe⟩ : ∃ q, cnAt sps (xs, xl, xv) = q := ⟨_, rfl⟩
              rw [hF] at PX hfl HCA
              rw [hVe] at VX hV HCA
              rw [hOe] at HSS HCA
              have q1 : ∀ w : World, (Op.stringOp .add ⟨#[32]⟩ ⟨F.toArray⟩).run Tryz.prog w = .ok (.string ⟨([32] ++ F).toArray⟩) w := fun w => run_sop (w := w) [32] F (by simp; omega)
              have q2 : ∀ w : World, (Op.stringOp .add ⟨([32] ++ F).toArray⟩ ⟨xl.toArray⟩).run Tryz.prog w = .ok (.string ⟨([32] ++ F ++ xl).toArray⟩) w := fun w => run_sop (w := w) ([32] ++ F) xl (by simp; omega)
              have q3 : ∀ w : World, (Op.stringOp .add ⟨([32] ++ F ++ xl).toArray⟩ ⟨#[61]⟩).run Tryz.prog w = .ok (.string ⟨([32] ++ F ++ xl ++ [61]).toArray⟩) w := fun w => run_sop (w := w) ([32] ++ F ++ xl) [61] (by simp; omega)
              have q4 : ∀ w : World, (Op.stringOp .add ⟨([32] ++ F ++ xl ++ [61]).toArray⟩ ⟨V.toArray⟩).run Tryz.prog w = .ok (.string ⟨O.toArray⟩) w := fun w => by rw [HCA.out]; exact run_sop (w := w) ([32] ++ F ++ xl ++ [61]) V (by simp; omega)
              have hOl : O.length ≤ 40000 := by rw [HCA.out]; simp; omega
              obtain ⟨Y3, hY3⟩ : ∃ q, [32] ++ F ++ xl ++ [61] = q := ⟨_, rfl⟩
              obtain ⟨Y2, hY2⟩ : ∃ q, [32] ++ F ++ xl = q := ⟨_, rfl⟩
              obtain ⟨Y1, hY1⟩ : ∃ q, [32] ++ F = q := ⟨_, rfl⟩
              rw [hY3] at q3 q4
              rw [hY2] at q2 q3
              rw [hY1] at q1 q2
              obtain ⟨D, hD⟩ : ∃ q, D1 ++ (ats.take t2).flatMap (cnAt sps) = q := ⟨_, rfl⟩
              have hDl : D.length ≤ 2000000000 := by rw [← hD, List.length_append]; have := HD1.out; omega
              have HSD : Hid (D1 ++ (ats.take (t2 + 1)).flatMap (cnAt sps) = D ++ O) := Lib.hid (by rw [HSS.out, ← List.append_assoc, hD])
              rw [hD] at HK
              have hJ : Hid (CnH #[.int .i64 1, .string ⟨sp.toArray⟩, .string ⟨lo.toArray⟩, .slice (some ⟨b1, o1, none⟩) n cap, .string ⟨tx.toArray⟩] D sps mb (.slice OA t oc) wr.heap.size xs xl xv w (wr.alloc (.cells #[.string ⟨xs.toArray⟩, .string ⟨xl.toArray⟩, .string ⟨xv.toArray⟩] 112)).drew) := Lib.hid (CnH.drew ⟨HK.out.kept ((Below.refl _ wr).alloc (Nat.le_refl _) _), hp_new wr _, by have := HK.out.2.1.lt; have := HK.out.2.2.2; omega⟩)
              have PJ : Hid (∀ w1, Hid (CnH #[.int .i64 1, .string ⟨sp.toArray⟩, .string ⟨lo.toArray⟩, .slice (some ⟨b1, o1, none⟩) n cap, .string ⟨tx.toArray⟩] D sps mb (.slice OA t oc) wr.heap.size xs xl xv w w1) → Calls Tryz.prog 116 #[.agg #[.string ⟨xs.toArray⟩, .string ⟨xl.toArray⟩], .map (some mb)] w1 fun e w' => e = .returned (.string ⟨F.toArray⟩) ∧ AtG wr.heap.size xs xl xv w' ∧ Hid (CnH #[.int .i64 1, .string ⟨sp.toArray⟩, .string ⟨lo.toArray⟩, .slice (some ⟨b1, o1, none⟩) n cap, .string ⟨tx.toArray⟩] D sps mb (.slice OA t oc) wr.heap.size xs xl xv w w')) := Lib.hid fun w1 h => (PX.out w1 h.out.1.2.1 h.out.1.1.1).mono fun e w' ⟨he, hb⟩ => ⟨he, CnH.at_ (h.out.kept hb).2.1, Lib.hid (h.out.kept hb)⟩
              have VJ : Hid (∀ w1, Hid (CnH #[.int .i64 1, .string ⟨sp.toArray⟩, .string ⟨lo.toArray⟩, .slice (some ⟨b1, o1, none⟩) n cap, .string ⟨tx.toArray⟩] D sps mb (.slice OA t oc) wr.heap.size xs xl xv w w1) → Calls Tryz.prog 114 #[.string ⟨xv.toArray⟩] w1 fun e w' => e = .returned (.string ⟨V.toArray⟩) ∧ AtG wr.heap.size xs xl xv w' ∧ Hid (CnH #[.int .i64 1, .string ⟨sp.toArray⟩, .string ⟨lo.toArray⟩, .slice (some ⟨b1, o1, none⟩) n cap, .string ⟨tx.toArray⟩] D sps mb (.slice OA t oc) wr.heap.size xs xl xv w w')) := Lib.hid fun w1 h => (VX.out w1).mono fun e w' ⟨he, hb⟩ => ⟨he, CnH.at_ (h.out.kept hb).2.1, Lib.hid (h.out.kept hb)⟩
              have WJ : Hid (∀ w1, Hid (CnH #[.int .i64 1, .string ⟨sp.toArray⟩, .string ⟨lo.toArray⟩, .slice (some ⟨b1, o1, none⟩) n cap, .string ⟨tx.toArray⟩] D sps mb (.slice OA t oc) wr.heap.size xs xl xv w w1) → Calls Tryz.prog 77 #[.pointer (some ⟨w.heap.size + 1, 0, none⟩), .string ⟨O.toArray⟩] w1 fun e w' => e = .returned (.tuple #[.int .i64 O.length, .nilIface]) ∧ AtG wr.heap.size xs xl xv w' ∧ Hid (CnK #[.int .i64 1, .string ⟨sp.toArray⟩, .string ⟨lo.toArray⟩, .slice (some ⟨b1, o1, none⟩) n cap, .string ⟨tx.toArray⟩] (D ++ O) sps mb (.slice OA t oc) w w')) := Lib.hid fun w1 h => (writeString_o (w.heap.size + 1) D O w1 h.out.1.1.2.2.1 (by omega)).mono fun e w' ⟨he, hB, hf, hk⟩ => ⟨he, CnH.at_ (hk _ _ (by have := h.out.2.2; omega) (fun vs f e => by injection e with _ e2 _; exact absurd e2 (by decide)) h.out.2.1), Lib.hid (h.out.1.wrote hB hf hk)⟩
              clear PX VX HK hF hVe hOe hY3 hY2 hY1 hD hlen hlt hll hx1 hx2 hx3 hmem hDl hOl hfl hV hb1 hx hc1 HSS HCA WK WS LW
              unfold AtG at PJ VJ WJ
              go_wp2_with fail
              obtain ⟨a0, a1, a2⟩ := CnH.at_ hJ.out.2.1
              go_region_held3 (fun w' => w'.cell? ⟨wr.heap.size, 0, none⟩ = some (.string ⟨xs.toArray⟩) ∧ w'.cell? ⟨wr.heap.size, 1, none⟩ = some (.string ⟨xl.toArray⟩) ∧ w'.cell? ⟨wr.heap.size, 2, none⟩ = some (.string ⟨xv.toArray⟩)) (first | exact ⟨by assumption, by assumption, by assumption⟩) (first
                  | (go_at_call 116; refine (PJ.out _ (by assumption)).mono ?_; rintro e w4 ⟨rfl, ⟨b0, b1, b2⟩, hj4⟩)
                  | (go_at_call 114; refine (VJ.out _ (by assumption)).mono ?_; rintro e w5 ⟨rfl, ⟨c0, c1, c2⟩, hj5⟩)
                  | (go_at_call 77; refine (WJ.out _ (by assumption)).mono ?_; rintro e w7 ⟨rfl, ⟨d0, d1, d2⟩, I7⟩))
              all_goals
                go_wp2
                go_roundg (n - (t2 + 1))
                case measure => have := hg2.out; omega
                case rel => exact ⟨t2 + 1, by go_num, by omega, Lib.hid (by have := hg2.out; omega), Lib.hid (by rw [HSD.out]; exact I7.out)⟩
            · have hti2 : ¬ (t2 : Int) < (n : Int) := by omega
              obtain rfl : t2 = n := by omega
              have hlen := cnAts_le (b := 5000) sps (by rw [HM.out]; exact hsm) (ats.take t2) fun a ha => (HAL.out a (List.mem_of_mem_take ha)).2
              have hlt : (ats.take t2).length ≤ 5000 := by have := HLN.out; rw [List.length_take]; omega
              have hll : ((ats.take t2).flatMap (cnAt sps)).length ≤ 500000000 := by
                have : (ats.take t2).length * (7 * 5000 + 100) ≤ 5000 * (7 * 5000 + 100) := Nat.mul_le_mul_right _ hlt
                omega
              obtain ⟨D, hD⟩ : ∃ q, D1 ++ (ats.take t2).flatMap (cnAt sps) = q := ⟨_, rfl⟩
              have hDl : D.length ≤ 2000000000 := by rw [← hD, List.length_append]; have := HD1.out; omega
              rw [hD] at HK HR
              have hRR : R = D ++ [62] := HR.out
              subst hRR
              have q1 : ∀ w : World, (Op.stringOp .add ⟨D.toArray⟩ ⟨#[62]⟩).run Tryz.prog w = .ok (.string ⟨(D ++ [62]).toArray⟩) w := fun w => run_sop (w := w) D [62] (by simp; omega)
              clear hlen hlt hll hD hDl HR he5
              go_wp2_with fail
              refine (string_b _ _ _ wr HK.out.1.2.2.1).mono ?_
              rintro e w5 ⟨rfl, hb⟩
              have HB := Lib.hid (HK.out.1.1.trans (hb.mono (by have := HK.out.1.2.2.2; omega)))
              clear hb
              go_wp2
              go_ret2
              exact ⟨rfl, HB.out⟩
    | false =>
      have HR3 : Hid (R = (P1 ++ P2) ++ nsT (spcs [] ats) (spcs [] ats).length ++ (ats.take n).flatMap (cnAt (spcs [] ats)) ++ [62]) := Lib.hid (by rw [HR.out]; simp)
      have HSP : sp = SO := by rw [HSO.out]; simp
      subst HSP
      go_wp2_with fail
      refine (LX.out _).mono ?_
      rintro e w2b ⟨rfl, hb⟩
      have I2b := Lib.hid (I2.out.kept hb)
      clear hb I2 LX
      go_wp2_with fail
      refine (WS.out P1 P2 _ I2b.out (by have := HPL.out; omega) (by have := HPL.out; omega)).mono ?_
      rintro e w3 ⟨rfl, hb⟩
      have z3b : w3.cell? ⟨w.heap.size, 3, none⟩ = some (.slice A n cap) := by rw [cell_of 3 hb.2.1]; rfl
      have I3 := Lib.hid hb
      have HD0 : Hid ((P1 ++ P2).length ≤ 100000) := Lib.hid (by rw [List.length_append]; have := HPL.out; omega)
      clear HR HSO hb I2b HPL z1 z3
      have HR := Lib.hid HR3.out
      clear HR3
      obtain ⟨D0, hD0⟩ : ∃ q, P1 ++ P2 = q := ⟨_, rfl⟩
      rw [hD0] at I3 HR HD0
      clear hD0
      go_wp2_with fail
      refine (NM.out _ I3.out.1).mono ?_
      rintro e w4 ⟨OA, oc, rfl, hM, hO, hb⟩
      have K4 : Hid (CnK #[.int .i64 1, .string ⟨sp.toArray⟩, .string ⟨lo.toArray⟩, .slice A n cap, .string ⟨tx.toArray⟩] (D0 ++ nsT (spcs [] ats) 0) (spcs [] ats) w3.heap.size (.slice OA (spcs [] ats).length oc) w w4) := Lib.hid ⟨by simpa [nsT] using I3.out.kept hb, hM, hO, I3.out.2.2.2⟩
      obtain ⟨mb, hmb⟩ : ∃ q, w3.heap.size = q := ⟨_, rfl⟩
      rw [hmb] at K4 ⊢
      obtain ⟨sps, hsps⟩ : ∃ q, spcs [] ats = q := ⟨_, rfl⟩
      rw [hsps] at K4 HHS HSM hsm HR ⊢
      obtain ⟨m, hm⟩ : ∃ q, sps.length = q := ⟨_, rfl⟩
      rw [hm] at K4 hsm HR ⊢
      have HM := Lib.hid hm
      have hm0 : (0 : Int) ≤ (m : Int) := by omega
      have hm9 : (m : Int) ≤ 5000 := by omega
      clear hM hO hb hmb hsps hm I3 NM
      go_wp2_with fail
      go_loopg [44] (m) (fun g i wr => ∃ t : Nat, i = .int .i64 (t : Int) ∧ t ≤ m ∧ Hid (g + t = m) ∧ Hid (CnK #[.int .i64 1, .string ⟨sp.toArray⟩, .string ⟨lo.toArray⟩, .slice A n cap, .string ⟨tx.toArray⟩] (D0 ++ nsT sps t) sps mb (.slice OA m oc) w wr))
      case atStart => exact ⟨0, rfl, Nat.zero_le _, Lib.hid rfl, K4⟩
      case round =>
        obtain ⟨t, rfl, ht, hg, HK⟩ := hrel
        have ht0 : (0 : Int) ≤ (t : Int) := by omega
        have ht9 : (t : Int) ≤ 5000 := by omega
        by_cases htn : t < m
        · have hti : (t : Int) < (m : Int) := by omega
          obtain ⟨A2, c2, hv, hr⟩ := RRd.ofOwn (c := cSn) (fun _ => rfl) (by decide) HK.out.2.2.1
          injection hv with hv1 hv2 hv3
          subst hv1
          subst hv3
          rw [HM.out] at hr
          obtain ⟨b2, o2, s, rfl, hb2, hs, hc2⟩ := hr.cell htn
          have y0 : wr.cell? ⟨b2, o2 + t, none⟩ = some (.string ⟨s.toArray⟩) := by rw [show o2 + t = o2 + (t * 1 + 0) by omega]; exact hc2 0 _ rfl
          have hsl := HSM.out s (List.mem_of_getElem? hs)
          have HN1 : Hid (nsT sps (t + 1) = nsT sps t ++ nsOne t s) := Lib.hid (by rw [nsT, List.getD_eq_getElem?_getD, hs, Option.getD_some])
          have hnl := nsT_le (b := 5000) sps HSM.out (by rw [HM.out]; exact hsm) t (by rw [HM.out]; exact ht)
          have hnl2 : (nsT sps t).length ≤ 500000000 := by
            have : t * (6 * 5000 + 100) ≤ 5000 * (6 * 5000 + 100) := Nat.mul_le_mul_right _ (by omega)
            omega
          have IT := Lib.hid (fun W hb => itoa41_c t (by omega) W (HTB.out W hb))
          have LT := Lib.hid (fun W => LW.out s W hsl)
          have hE := decD_le t (by omega)
          have hV : (valL s).length ≤ 30002 := by have := esc_le s; unfold valL; simp; omega
          have HNO : Hid (nsOne t s = [32, 120, 109, 108, 110, 115, 58, 110] ++ Lib.decDigits t ++ [61] ++ valL s) := Lib.hid rfl
          obtain ⟨E, heE⟩ : ∃ q, Lib.decDigits t = q := ⟨_, rfl⟩
          obtain ⟨V, hVe⟩ : ∃ q, valL s = q := ⟨_, rfl⟩
          obtain ⟨O, hOe⟩ : ∃ q, nsOne t s = q := ⟨_, rfl⟩
          rw [heE] at IT hE HNO
          rw [hVe] at LT hV HNO
          rw [hOe] at HNO HN1
          have q1 : ∀ w : World, (Op.stringOp .add ⟨#[32, 120, 109, 108, 110, 115, 58, 110]⟩ ⟨E.toArray⟩).run Tryz.prog w = .ok (.string ⟨([32, 120, 109, 108, 110, 115, 58, 110] ++ E).toArray⟩) w := fun w => run_sop (w := w) [32, 120, 109, 108, 110, 115, 58, 110] E (by simp; omega)
          have q2 : ∀ w : World, (Op.stringOp .add ⟨([32, 120, 109, 108, 110, 115, 58, 110] ++ E).toArray⟩ ⟨#[61]⟩).run Tryz.prog w = .ok (.string ⟨([32, 120, 109, 108, 110, 115, 58, 110] ++ E ++ [61]).toArray⟩) w := fun w => run_sop (w := w) ([32, 120, 109, 108, 110, 115, 58, 110] ++ E) [61] (by simp; omega)
          have q3 : ∀ w : World, (Op.stringOp .add ⟨([32, 120, 109, 108, 110, 115, 58, 110] ++ E ++ [61]).toArray⟩ ⟨V.toArray⟩).run Tryz.prog w = .ok (.string ⟨O.toArray⟩) w := fun w => by rw [HNO.out]; exact run_sop (w := w) ([32, 120, 109, 108, 110, 115, 58, 110] ++ E ++ [61]) V (by simp; omega)
          have hOl : O.length ≤ 40000 := by rw [HNO.out]; simp; omega
          obtain ⟨Y2, hY2⟩ : ∃ q, [32, 120, 109, 108, 110, 115, 58, 110] ++ E ++ [61] = q := ⟨_, rfl⟩
          obtain ⟨Y1, hY1⟩ : ∃ q, [32, 120, 109, 108, 110, 115, 58, 110] ++ E = q := ⟨_, rfl⟩
          rw [hY2] at q2 q3
          rw [hY1] at q1 q2
          have HW : Hid (∀ w1, CnK #[.int .i64 1, .string ⟨sp.toArray⟩, .string ⟨lo.toArray⟩, .slice A n cap, .string ⟨tx.toArray⟩] (D0 ++ nsT sps t) sps mb (.slice (some ⟨b2, o2, none⟩) m oc) w w1 → Calls Tryz.prog 77 #[.pointer (some ⟨w.heap.size + 1, 0, none⟩), .string ⟨O.toArray⟩] w1 fun e w' => e = .returned (.tuple #[.int .i64 O.length, .nilIface]) ∧ CnK #[.int .i64 1, .string ⟨sp.toArray⟩, .string ⟨lo.toArray⟩, .slice A n cap, .string ⟨tx.toArray⟩] (D0 ++ nsT sps (t + 1)) sps mb (.slice (some ⟨b2, o2, none⟩) m oc) w w') := Lib.hid fun w1 h => by
            rw [HN1.out, ← List.append_assoc]
            exact WK.out _ O sps mb _ w1 h (by have := HD0.out; rw [List.length_append]; omega) (by omega)
          clear hv2 hr hb2 hs hc2 hsl hnl hnl2 hE hV heE hVe hOe hOl hY2 hY1 HNO HN1
          go_wp2_with fail
          refine (IT.out _ HK.out.1.1).mono ?_
          rintro e w5 ⟨rfl, hb⟩
          have K5 := Lib.hid (HK.out.kept hb)
          clear hb HK IT y0
          go_wp2_with fail
          refine (LT.out _).mono ?_
          rintro e w6 ⟨rfl, hb⟩
          have K6 := Lib.hid (K5.out.kept hb)
          clear hb K5 LT
          go_wp2_with fail
          refine (HW.out _ K6.out).mono ?_
          rintro e w7 ⟨rfl, hb⟩
          have K7 := Lib.hid hb
          clear hb K6 HW
          go_wp2
          go_roundg (m - (t + 1))
          case measure => have := hg.out; omega
          case rel => exact ⟨t + 1, by go_num, by omega, Lib.hid (by have := hg.out; omega), K7⟩
        · have hti : ¬ (t : Int) < (m : Int) := by omega
          obtain rfl : t = m := by omega
          have he5 : wr.cell? ⟨w.heap.size, 3, none⟩ = some (.slice A n cap) := by rw [cell_of 3 HK.out.1.2.1]; rfl
          have hnl := nsT_le (b := 5000) sps HSM.out (by rw [HM.out]; exact hsm) t (by rw [HM.out]; exact Nat.le_refl _)
          have hnl2 : (nsT sps t).length ≤ 500000000 := by
            have : t * (6 * 5000 + 100) ≤ 5000 * (6 * 5000 + 100) := Nat.mul_le_mul_right _ (by omega)
            omega
          obtain ⟨D1, hD1⟩ : ∃ q, D0 ++ nsT sps t = q := ⟨_, rfl⟩
          have HD1 : Hid (D1.length ≤ 600000000) := Lib.hid (by rw [← hD1, List.length_append]; have := HD0.out; omega)
          have K8 : Hid (CnK #[.int .i64 1, .string ⟨sp.toArray⟩, .string ⟨lo.toArray⟩, .slice A n cap, .string ⟨tx.toArray⟩] (D1 ++ (ats.take 0).flatMap (cnAt sps)) sps mb (.slice OA t oc) w wr) := Lib.hid (by rw [← hD1]; simpa using HK.out)
          rw [hD1] at HR
          clear HK hnl hnl2 hD1 HD0 HSM ht0 ht9
          go_wp2_with fail
          go_loopg [61] (n) (fun g i wr => ∃ t2 : Nat, i = .int .i64 (t2 : Int) ∧ t2 ≤ n ∧ Hid (g + t2 = n) ∧ Hid (CnK #[.int .i64 1, .string ⟨sp.toArray⟩, .string ⟨lo.toArray⟩, .slice A n cap, .string ⟨tx.toArray⟩] (D1 ++ (ats.take t2).flatMap (cnAt sps)) sps mb (.slice OA t oc) w wr))
          case atStart => exact ⟨0, rfl, Nat.zero_le _, Lib.hid rfl, K8⟩
          case round =>
            obtain ⟨t2, rfl, ht2, hg2, HK⟩ := hrel
            have ht0 : (0 : Int) ≤ (t2 : Int) := by omega
            have ht9 : (t2 : Int) ≤ 5000 := by omega
            by_cases htn2 : t2 < n
            · have hti2 : (t2 : Int) < (n : Int) := by omega
              clear he5
              obtain ⟨b1, o1, x, hAe, hb1, hx, hc1⟩ := (HP.out _ HK.out.1.1).cell htn2
              obtain ⟨hx1, hx2, hx3⟩ := HAL.out x (List.mem_of_getElem? hx)
              have hmem := HHS.out x (List.mem_of_getElem? hx)
              have HSS := Lib.hid (cnAts_snoc (l := sps) hx)
              have hlen := cnAts_le (b := 5000) sps (by rw [HM.out]; exact hsm) (ats.take t2) fun a ha => (HAL.out a (List.mem_of_mem_take ha)).2
              have hlt : (ats.take t2).length ≤ 5000 := by have := HLN.out; rw [List.length_take]; omega
              have hll : ((ats.take t2).flatMap (cnAt sps)).length ≤ 500000000 := by
                have : (ats.take t2).length * (7 * 5000 + 100) ≤ 5000 * (7 * 5000 + 100) := Nat.mul_le_mul_right _ hlt
                omega
              obtain ⟨xs, xl, xv⟩ := x
              simp only at hx1 hx2 hx3 hmem
              have y0 : wr.cell? ⟨b1, o1 + t2 * 3, none⟩ = some (.string ⟨xs.toArray⟩) := by rw [show o1 + t2 * 3 = o1 + (t2 * 3 + 0) by omega]; exact hc1 0 _ rfl
              have y1 : wr.cell? ⟨b1, o1 + t2 * 3 + 1, none⟩ = some (.string ⟨xl.toArray⟩) := by rw [show o1 + t2 * 3 + 1 = o1 + (t2 * 3 + 1) by omega]; exact hc1 1 _ rfl
              have y2 : wr.cell? ⟨b1, o1 + t2 * 3 + 2, none⟩ = some (.string ⟨xv.toArray⟩) := by rw [show o1 + t2 * 3 + 2 = o1 + (t2 * 3 + 2) by omega]; exact hc1 2 _ rfl
              have PX := Lib.hid (fun w1 hM hb => cnPrefix_c xs xl sps mb w1 hM (by rw [HM.out]; exact hsm) hx1 hmem (HTB.out w1 hb))
              have VX := Lib.hid (fun w1 => LW.out xv w1 hx3)
              have hfl := prefL_le sps xs (by rw [HM.out]; exact hsm)
              have hV : (valL xv).length ≤ 30002 := by have := esc_le xv; unfold valL; simp; omega
              have HCA : Hid (cnAt sps (xs, xl, xv) = [32] ++ prefL sps xs ++ xl ++ [61] ++ valL xv) := Lib.hid rfl
              subst hAe
              obtain ⟨F, hF⟩ : ∃ q, prefL sps xs = q := ⟨_, rfl⟩
              obtain ⟨V, hVe⟩ : ∃ q, valL xv = q := ⟨_, rfl⟩
              obtain ⟨O, hOe⟩ : ∃ q, cnAt sps (xs, xl, xv) = q := ⟨_, rfl⟩
              rw [hF] at PX hfl HCA
              rw [hVe] at VX hV HCA
              rw [hOe] at HSS HCA
              have q1 : ∀ w : World, (Op.stringOp .add ⟨#[32]⟩ ⟨F.toArray⟩).run Tryz.prog w = .ok (.string ⟨([32] ++ F).toArray⟩) w := fun w => run_sop (w := w) [32] F (by simp; omega)
              have q2 : ∀ w : World, (Op.stringOp .add ⟨([32] ++ F).toArray⟩ ⟨xl.toArray⟩).run Tryz.prog w = .ok (.string ⟨([32] ++ F ++ xl).toArray⟩) w := fun w => run_sop (w := w) ([32] ++ F) xl (by simp; omega)
              have q3 : ∀ w : World, (Op.stringOp .add ⟨([32] ++ F ++ xl).toArray⟩ ⟨#[61]⟩).run Tryz.prog w = .ok (.string ⟨([32] ++ F ++ xl ++ [61]).toArray⟩) w := fun w => run_sop (w := w) ([32] ++ F ++ xl) [61] (by simp; omega)
              have q4 : ∀ w : World, (Op.stringOp .add ⟨([32] ++ F ++ xl ++ [61]).toArray⟩ ⟨V.toArray⟩).run Tryz.prog w = .ok (.string ⟨O.toArray⟩) w := fun w => by rw [HCA.out]; exact run_sop (w := w) ([32] ++ F ++ xl ++ [61]) V (by simp; omega)
              have hOl : O.length ≤ 40000 := by rw [HCA.out]; simp; omega
              obtain ⟨Y3, hY3⟩ : ∃ q, [32] ++ F ++ xl ++ [61] = q := ⟨_, rfl⟩
              obtain ⟨Y2, hY2⟩ : ∃ q, [32] ++ F ++ xl = q := ⟨_, rfl⟩
              obtain ⟨Y1, hY1⟩ : ∃ q, [32] ++ F = q := ⟨_, rfl⟩
              rw [hY3] at q3 q4
              rw [hY2] at q2 q3
              rw [hY1] at q1 q2
              obtain ⟨D, hD⟩ : ∃ q, D1 ++ (ats.take t2).flatMap (cnAt sps) = q := ⟨_, rfl⟩
              have hDl : D.length ≤ 2000000000 := by rw [← hD, List.length_append]; have := HD1.out; omega
              have HSD : Hid (D1 ++ (ats.take (t2 + 1)).flatMap (cnAt sps) = D ++ O) := Lib.hid (by rw [HSS.out, ← List.append_assoc, hD])
              rw [hD] at HK
              have hJ : Hid (CnH #[.int .i64 1, .string ⟨sp.toArray⟩, .string ⟨lo.toArray⟩, .slice (some ⟨b1, o1, none⟩) n cap, .string ⟨tx.toArray⟩] D sps mb (.slice OA t oc) wr.heap.size xs xl xv w (wr.alloc (.cells #[.string ⟨xs.toArray⟩, .string ⟨xl.toArray⟩, .string ⟨xv.toArray⟩] 112)).drew) := Lib.hid (CnH.drew ⟨HK.out.kept ((Below.refl _ wr).alloc (Nat.le_refl _) _), hp_new wr _, by have := HK.out.2.1.lt; have := HK.out.2.2.2; omega⟩)
              have PJ : Hid (∀ w1, Hid (CnH #[.int .i64 1, .string ⟨sp.toArray⟩, .string ⟨lo.toArray⟩, .slice (some ⟨b1, o1, none⟩) n cap, .string ⟨tx.toArray⟩] D sps mb (.slice OA t oc) wr.heap.size xs xl xv w w1) → Calls Tryz.prog 116 #[.agg #[.string ⟨xs.toArray⟩, .string ⟨xl.toArray⟩], .map (some mb)] w1 fun e w' => e = .returned (.string ⟨F.toArray⟩) ∧ AtG wr.heap.size xs xl xv w' ∧ Hid (CnH #[.int .i64 1, .string ⟨sp.toArray⟩, .string ⟨lo.toArray⟩, .slice (some ⟨b1, o1, none⟩) n cap, .string ⟨tx.toArray⟩] D sps mb (.slice OA t oc) wr.heap.size xs xl xv w w')) := Lib.hid fun w1 h => (PX.out w1 h.out.1.2.1 h.out.1.1.1).mono fun e w' ⟨he, hb⟩ => ⟨he, CnH.at_ (h.out.kept hb).2.1, Lib.hid (h.out.kept hb)⟩
              have VJ : Hid (∀ w1, Hid (CnH #[.int .i64 1, .string ⟨sp.toArray⟩, .string ⟨lo.toArray⟩, .slice (some ⟨b1, o1, none⟩) n cap, .string ⟨tx.toArray⟩] D sps mb (.slice OA t oc) wr.heap.size xs xl xv w w1) → Calls Tryz.prog 114 #[.string ⟨xv.toArray⟩] w1 fun e w' => e = .returned (.string ⟨V.toArray⟩) ∧ AtG wr.heap.size xs xl xv w' ∧ Hid (CnH #[.int .i64 1, .string ⟨sp.toArray⟩, .string ⟨lo.toArray⟩, .slice (some ⟨b1, o1, none⟩) n cap, .string ⟨tx.toArray⟩] D sps mb (.slice OA t oc) wr.heap.size xs xl xv w w')) := Lib.hid fun w1 h => (VX.out w1).mono fun e w' ⟨he, hb⟩ => ⟨he, CnH.at_ (h.out.kept hb).2.1, Lib.hid (h.out.kept hb)⟩
              have WJ : Hid (∀ w1, Hid (CnH #[.int .i64 1, .string ⟨sp.toArray⟩, .string ⟨lo.toArray⟩, .slice (some ⟨b1, o1, none⟩) n cap, .string ⟨tx.toArray⟩] D sps mb (.slice OA t oc) wr.heap.size xs xl xv w w1) → Calls Tryz.prog 77 #[.pointer (some ⟨w.heap.size + 1, 0, none⟩), .string ⟨O.toArray⟩] w1 fun e w' => e = .returned (.tuple #[.int .i64 O.length, .nilIface]) ∧ AtG wr.heap.size xs xl xv w' ∧ Hid (CnK #[.int .i64 1, .string ⟨sp.toArray⟩, .string ⟨lo.toArray⟩, .slice (some ⟨b1, o1, none⟩) n cap, .string ⟨tx.toArray⟩] (D ++ O) sps mb (.slice OA t oc) w w')) := Lib.hid fun w1 h => (writeString_o (w.heap.size + 1) D O w1 h.out.1.1.2.2.1 (by omega)).mono fun e w' ⟨he, hB, hf, hk⟩ => ⟨he, CnH.at_ (hk _ _ (by have := h.out.2.2; omega) (fun vs f e => by injection e with _ e2 _; exact absurd e2 (by decide)) h.out.2.1), Lib.hid (h.out.1.wrote hB hf hk)⟩
              clear PX VX HK hF hVe hOe hY3 hY2 hY1 hD hlen hlt hll hx1 hx2 hx3 hmem hDl hOl hfl hV hb1 hx hc1 HSS HCA WK WS LW
              unfold AtG at PJ VJ WJ
              go_wp2_with fail
              obtain ⟨a0, a1, a2⟩ := CnH.at_ hJ.out.2.1
              go_region_held3 (fun w' => w'.cell? ⟨wr.heap.size, 0, none⟩ = some (.string ⟨xs.toArray⟩) ∧ w'.cell? ⟨wr.heap.size, 1, none⟩ = some (.string ⟨xl.toArray⟩) ∧ w'.cell? ⟨wr.heap.size, 2, none⟩ = some (.string ⟨xv.toArray⟩)) (first | exact ⟨by assumption, by assumption, by assumption⟩) (first
                  | (go_at_call 116; refine (PJ.out _ (by assumption)).mono ?_; rintro e w4 ⟨rfl, ⟨b0, b1, b2⟩, hj4⟩)
                  | (go_at_call 114; refine (VJ.out _ (by assumption)).mono ?_; rintro e w5 ⟨rfl, ⟨c0, c1, c2⟩, hj5⟩)
                  | (go_at_call 77; refine (WJ.out _ (by assumption)).mono ?_; rintro e w7 ⟨rfl, ⟨d0, d1, d2⟩, I7⟩))
              all_goals
                go_wp2
                go_roundg (n - (t2 + 1))
                case measure => have := hg2.out; omega
                case rel => exact ⟨t2 + 1, by go_num, by omega, Lib.hid (by have := hg2.out; omega), Lib.hid (by rw [HSD.out]; exact I7.out)⟩
            · have hti2 : ¬ (t2 : Int) < (n : Int) := by omega
              obtain rfl : t2 = n := by omega
              have hlen := cnAts_le (b := 5000) sps (by rw [HM.out]; exact hsm) (ats.take t2) fun a ha => (HAL.out a (List.mem_of_mem_take ha)).2
              have hlt : (ats.take t2).length ≤ 5000 := by have := HLN.out; rw [List.length_take]; omega
              have hll : ((ats.take t2).flatMap (cnAt sps)).length ≤ 500000000 := by
                have : (ats.take t2).length * (7 * 5000 + 100) ≤ 5000 * (7 * 5000 + 100) := Nat.mul_le_mul_right _ hlt
                omega
              obtain ⟨D, hD⟩ : ∃ q, D1 ++ (ats.take t2).flatMap (cnAt sps) = q := ⟨_, rfl⟩
              have hDl : D.length ≤ 2000000000 := by rw [← hD, List.length_append]; have := HD1.out; omega
              rw [hD] at HK HR
              have hRR : R = D ++ [62] := HR.out
              subst hRR
              have q1 : ∀ w : World, (Op.stringOp .add ⟨D.toArray⟩ ⟨#[62]⟩).run Tryz.prog w = .ok (.string ⟨(D ++ [62]).toArray⟩) w := fun w => run_sop (w := w) D [62] (by simp; omega)
              clear hlen hlt hll hD hDl HR he5
              go_wp2_with fail
              refine (string_b _ _ _ wr HK.out.1.2.2.1).mono ?_
              rintro e w5 ⟨rfl, hb⟩
              have HB := Lib.hid (HK.out.1.1.trans (hb.mono (by have := HK.out.1.2.2.2; omega)))
              clear hb
              go_wp2
              go_ret2
              exact ⟨rfl, HB.out⟩
end Go.Proofs.YthihkbcdihochaaGreatDoor
