/- Texts of ours, joined: DtA, StL, DnS, DnT, Calm, DnA. -/
import Derived.Test.YtgenpgfhjhcahaaGreatDoorRows
import Derived.WalkKit
import Derived.ProofKit
import Derived.OpenShut
import Derived.ShutString
import Derived.ChangeOld
import Derived.Below
import Derived.BigQuiet
import Derived.Deep.QuietTactic
import Derived.Lib.Hide
import Derived.Deep.RegionHeld3
import Derived.Lib.SlBytesConst
import Derived.Laws.CopyOwn
import Derived.Laws.CopyRow
import Derived.Lib.Bytes
import Derived.Deep.LoopGhost
import Derived.Deep.DeepFit
import Derived.Deep.DeepMust
import Derived.WalkSpells
import Derived.WalkLawsBesides
import Derived.Laws.EntriesVeiled
import Derived.Laws.Rows
import Derived.Test.YtgenpgfhjhcahaaGreatDoorQ1
import Derived.Test.YtgenpgfhjhcahaaGreatDoorQ2
import Derived.Test.YtgenpgfhjhcahaaGreatDoorQ7
import Derived.Test.YtgenpgfhjhcahaaGreatDoorQ8
import Derived.Test.YtgenpgfhjhcahaaGreatDoorQ4
import Derived.Test.YtgenpgfhjhcahaaGreatDoorQ3
import Derived.Test.YtgenpgfhjhcahaaGreatDoorQ5
import Derived.Test.YtgenpgfhjhcahaaGreatDoorQ9
import Derived.Test.YtgenpgfhjhcahaaGreatDoorQ10
import Derived.Test.YtgenpgfhjhcahaaGreatDoorQ11
import Derived.Test.YtgenpgfhjhcahaaGreatDoorQ12
import Derived.Test.YtgenpgfhjhcahaaGreatDoorQ20
import Derived.Deep.MidRow
import Derived.Laws.Tables
import Derived.Maps.OwnOps
import Derived.Maps.OwnSet
import Derived.Maps.Views
import Derived.Maps.AppendAt
import Derived.Deep.AppendLies
import Derived.DeepKeys4
import Derived.MapViews
import Derived.Maps.Keyed
import Derived.Deep.RegionLaw
import Derived.Deep.RegionWith
import Derived.StillTailTactics
import Derived.Deep.CutRange
import Derived.IntWalk
import Derived.Laws.MakeOwn
import Derived.Laws.OwnMore
import Derived.StillTail
/- extid.Doctype, up to its bracket. -/
namespace Go.Proofs.YtgenpgfhjhcahaaGreatDoor
open Go.ChangeShapes Go.WideShapes Go.ChangeAt Go.RowKit
set_option linter.unusedVariables false
/-- How a document type begins that has declarations of its own and no identifier. -/
def headV (has : Bool) (nm : List UInt8) (opn : Bool) : Array Value := #[.bool has, .string ⟨nm.toArray⟩, .string ⟨#[]⟩, .string ⟨#[]⟩, .bool false, .bool opn]
/-- A document type with a bracket stands at k: its name's place and end, the place behind the bracket. -/
structure DtAt (l : List UInt8) (k t1 t2 t3 : Nat) (s : List UInt8) : Prop where
  pre : [60, 33, 68, 79, 67, 84, 89, 80, 69].isPrefixOf (l.drop k) = true
  blank : blankTo l (k + 9) = t1
  some_ : t1 ≠ k + 9
  name : nameOut l t1 = (s, t2, 0)
  nle : t2 ≤ l.length
  next : blankTo l t2 = t3
  brack : l[t3]? = some 91
set_option maxRecDepth 100000 in
set_option maxHeartbeats 8000000 in
theorem doctype_c (A : Option Addr) (n cap : Nat) (l : List UInt8) (k t1 t2 t3 : Nat) (s : List UInt8) (w : World) (h : Byt w w.heap.size A n cap l) (hW : W29 w) (hm : n ≤ 50000) (hd : DtAt l k t1 t2 t3 s) :
    Calls Tryz.prog 49 #[.slice A n cap, .int .i64 k] w fun e w' => e = .returned (.tuple #[.agg (headV true s true), .int .i64 ((t3 : Int) + 1), .int .i64 0]) ∧ Below w.heap.size w w' := by
  have hkl : k + 9 ≤ n := by have := pre_len hd.pre; have := h.length; simp at *; omega
  have ht1 : t1 ≤ n := by have := (blankTo_le l (k + 9) (by rw [h.length]; exact hkl)).2; rw [hd.blank, h.length] at this; exact this
  have ht2 : t2 ≤ n := by have := hd.nle; rw [h.length] at this; exact this
  have ht3 : t3 < n := by have := (List.getElem?_eq_some_iff.1 hd.brack).1; rw [h.length] at this; exact this
  have kc := fun (w : World) (C : Array Value) (n c : Nat) => Lib.run_convert_bytes_const (P := Tryz.prog) w 22 5 C n c Tryz.underlying22 Tryz.underlying5
  have hi : (Tryz.prog.info? 45).map (·.size) = some 6 := by kernel_rfl
  obtain ⟨d9, hu⟩ := isStruct_of (P := Tryz.prog) (t := 45) (by kernel_rfl)
  have HU := Lib.hid (And.intro hi hu)
  clear hi hu
  have h3k : ¬ n < t3 := by omega
  have hlen := h.length
  have hcap := h.le
  obtain ⟨b, o, c, rfl, hbB, hc, hcell⟩ := h.cell ht3
  have hc91 : c = 91 := by rw [hd.brack] at hc; exact (Option.some.inj hc).symm
  subst hc91
  have hx := hp_new w (.cells #[.bool false, .string ⟨#[]⟩, .string ⟨#[]⟩, .string ⟨#[]⟩, .bool false, .bool false] 45)
  have hb0 := (Below.refl w.heap.size w).alloc (Nat.le_refl _) (.cells #[.bool false, .string ⟨#[]⟩, .string ⟨#[]⟩, .string ⟨#[]⟩, .bool false, .bool false] 45)
  obtain ⟨w0, hw0⟩ : ∃ w0, w.alloc (.cells #[.bool false, .string ⟨#[]⟩, .string ⟨#[]⟩, .string ⟨#[]⟩, .bool false, .bool false] 45) = w0 := ⟨_, rfl⟩
  rw [hw0] at hx hb0
  have hl0 := lt_of hx
  have hk1 := alloc_const w0 [60, 33, 68, 79, 67, 84, 89, 80, 69] (9, 10) (by decide)
  obtain ⟨w1, hw1⟩ : ∃ w1, w0.alloc (.cells #[.int .u8 60, .int .u8 33, .int .u8 68, .int .u8 79, .int .u8 67, .int .u8 84, .int .u8 89, .int .u8 80, .int .u8 69] 5 (9, 10)) = w1 := ⟨_, rfl⟩
  have hk2 : Below w0.heap.size w0 w1 ∧ Byt w1 (w0.heap.size + 1) (some ⟨w0.heap.size, 0, none⟩) 9 9 [60, 33, 68, 79, 67, 84, 89, 80, 69] := by rw [← hw1]; exact hk1
  clear hk1
  have hs1 : w1.heap.size = w0.heap.size + 1 := by rw [← hw1]; simp
  have hb1 : Below w.heap.size w w1 := hb0.trans (hk2.1.mono hb0.size)
  have hx1 := (hk2.1.block _ hl0).trans hx
  have hy1 := (h.below hb1).more hb1.size
  have CH : Hid (Calls Tryz.prog 53 #[.slice (cutA (some ⟨b, o, none⟩) cap k) (n - k) (cap - k), .slice (some ⟨w0.heap.size, 0, none⟩) 9 9] w1 fun e w' => e = .returned (.bool true) ∧ w1 = w') := Lib.hid (by
    have := hasPrefix_c _ _ _ _ 9 9 _ _ w1 _ _ (hy1.drop (k := k) (by omega)) hk2.2
    rwa [hd.pre] at this)
  have e9 : ((k + 9 : Nat) : Int) = (k : Int) + 9 := by omega
  have CB : Hid (Calls Tryz.prog 69 #[.slice (some ⟨b, o, none⟩) n cap, .int .i64 ((k : Int) + 9)] w1 fun e w' => e = .returned (.tuple #[.int .i64 t1, .int .i64 0]) ∧ w1 = w') := Lib.hid (by
    have := exBlanks_c (some ⟨b, o, none⟩) n cap l (k + 9) w1 hy1 (by omega) hkl (by rw [hd.blank]; exact hd.some_)
    rwa [hd.blank, e9] at this)
  have wc := hp_new w1 (.cells #[.bool false, .string ⟨#[]⟩, .string ⟨#[]⟩, .string ⟨#[]⟩, .bool false, .bool false] 45)
  have hb2a := (Below.refl w1.heap.size w1).alloc (Nat.le_refl _) (.cells #[.bool false, .string ⟨#[]⟩, .string ⟨#[]⟩, .string ⟨#[]⟩, .bool false, .bool false] 45)
  have hg1 := setRow_heap _ _ _ #[.bool true, .string ⟨#[]⟩, .string ⟨#[]⟩, .string ⟨#[]⟩, .bool false, .bool false] _ _ wc
  have hb2 := below_setRow hb2a (Nat.le_refl _) #[.bool true, .string ⟨#[]⟩, .string ⟨#[]⟩, .string ⟨#[]⟩, .bool false, .bool false]
  obtain ⟨w2, hw2⟩ : ∃ w2, (w1.alloc (.cells #[.bool false, .string ⟨#[]⟩, .string ⟨#[]⟩, .string ⟨#[]⟩, .bool false, .bool false] 45)).setRow w1.heap.size #[.bool true, .string ⟨#[]⟩, .string ⟨#[]⟩, .string ⟨#[]⟩, .bool false, .bool false] = w2 := ⟨_, rfl⟩
  rw [hw2] at hg1 hb2
  have hb20 := hb1.trans (hb2.mono hb1.size)
  have CN : Hid (Calls Tryz.prog 70 #[.slice (some ⟨b, o, none⟩) n cap, .int .i64 t1] w2 fun e w' => e = .returned (.tuple #[.string ⟨s.toArray⟩, .int .i64 t2, .int .i64 0]) ∧ Below w2.heap.size w2 w') := Lib.hid (by
    have hW2 := hW.below hb20
    have := name_c (some ⟨b, o, none⟩) n cap l t1 w2 ((h.below hb20).more hb20.size) hW2.forms hW2.tabs (by omega) ht1
    rwa [hd.name] at this)
  have CX : Hid (∀ W, Below w.heap.size w W → Calls Tryz.prog 13 #[.slice (some ⟨b, o, none⟩) n cap, .int .i64 t2] W fun e w' => e = .returned (.int .i64 t3) ∧ W = w') := Lib.hid fun W hb => by
    have := blanks_c (some ⟨b, o, none⟩) n cap l t2 w.heap.size W (h.below hb) (by omega) ht2
    rwa [hd.next] at this
  have HLC : Hid (∀ W, Below w.heap.size w W → W.cell? ⟨b, o + t3, none⟩ = some (.int .u8 91)) := Lib.hid fun W hb => (hb.cell hbB).trans hcell
  have hrf : ∀ W : World, (Instr.slice 22 (.slice (some ⟨b, o, none⟩) n cap) (some (.int .i64 (k : Int))) none none).run Tryz.prog W = .ok (.slice (cutA (some ⟨b, o, none⟩) cap k) (n - k) (cap - k)) W := fun W => run_from (some ⟨b, o, none⟩) n cap k (by omega)
  have hx2 := (hb2.block _ (by have := hb1.size; omega)).trans hx1
  have H2 := Lib.hid (And.intro hb20 (And.intro hg1 hx2))
  have hlG : w.heap.size < w1.heap.size := by omega
  have hk0 : (0 : Int) ≤ (k : Int) := by omega
  have hk9 : (k : Int) ≤ 50000 := by omega
  have hnk : ¬ (n : Int) < (k : Int) := by omega
  have hn3 : (t3 : Int) < (n : Int) := by omega
  have hne3 : ((t3 : Int) == (n : Int)) = false := by simp; omega
  have ht3a : (0 : Int) ≤ (t3 : Int) := by omega
  have ht3b : (t3 : Int) ≤ 50000 := by omega
  clear h hW hd hx hb0 hl0 hk2 hs1 hb1 hx1 hy1 e9 hg1 hb2 hb2a hb20 hx2 hcell hc hlen ht1 ht2 hkl
  unfold headV
  go_enter Tryz.func49, Tryz.ntmps49
  go_wp2_with fail
  refine CH.out.mono ?_
  rintro e w9 ⟨rfl, rfl⟩
  clear CH hrf
  go_wp2_with fail
  refine CB.out.mono ?_
  rintro e w9 ⟨rfl, rfl⟩
  clear CB
  go_wp2_with (first | (refine wpList_store_row rfl _ _ _ rfl w1.heap.size #[.bool true, .string ⟨#[]⟩, .string ⟨#[]⟩, .string ⟨#[]⟩, .bool false, .bool false] rfl rfl _ _ wc (by kernel_rfl) rfl (by kernel_rfl) ?_))
  try rw [hw2]
  clear wc
  refine CN.out.mono ?_
  rintro e w3 ⟨rfl, hb3⟩
  have hG3 := (hb3.block _ (lt_of H2.out.2.1)).trans H2.out.2.1
  have hx3 := (hb3.block _ (lt_of H2.out.2.2)).trans H2.out.2.2
  have hB3 := H2.out.1.trans (hb3.mono H2.out.1.size)
  have c1 := cell_of 1 hG3
  have f1 := free_of 1 hG3
  simp only [List.getElem?_toArray, List.getElem?_cons_zero, List.getElem?_cons_succ] at c1 f1
  have H3 := Lib.hid (And.intro hB3 (And.intro hG3 hx3))
  clear hb3 hG3 hx3 hB3 H2 CN
  go_wp2_with fail
  have hB4 : Below w.heap.size w (w3.setCell ⟨w1.heap.size, 1, none⟩ (.string ⟨s.toArray⟩)) := H3.out.1.setCell (p := ⟨w1.heap.size, 1, none⟩) (by show w.heap.size ≤ w1.heap.size; omega) _
  have hG4 : (w3.setCell ⟨w1.heap.size, 1, none⟩ (.string ⟨s.toArray⟩)).heap[w1.heap.size]? = some (.cells #[.bool true, .string ⟨s.toArray⟩, .string ⟨#[]⟩, .string ⟨#[]⟩, .bool false, .bool false] 45 (0, 0)) := hp_set (i := 1) H3.out.2.1
  have hx4 : (w3.setCell ⟨w1.heap.size, 1, none⟩ (.string ⟨s.toArray⟩)).heap[w.heap.size]? = _ := (hp_other (by omega)).trans H3.out.2.2
  generalize w3.setCell ⟨w1.heap.size, 1, none⟩ (.string ⟨s.toArray⟩) = w4 at *
  clear c1 f1 H3
  refine (CX.out w4 hB4).mono ?_
  rintro e w9 ⟨rfl, rfl⟩
  have hy := HLC.out _ hB4
  have CX4 := Lib.hid (CX.out _ hB4)
  have c5 := cell_of 5 hG4
  have f5 := free_of 5 hG4
  simp only [List.getElem?_toArray, List.getElem?_cons_zero, List.getElem?_cons_succ] at c5 f5
  obtain ⟨w5, hw5⟩ : ∃ w5, w4.setCell ⟨w1.heap.size, 5, none⟩ (.bool true) = w5 := ⟨_, rfl⟩
  have hB5 : Below w.heap.size w w5 := by rw [← hw5]; exact hB4.setCell (p := ⟨w1.heap.size, 5, none⟩) (by show w.heap.size ≤ w1.heap.size; omega) _
  have hG5 : w5.heap[w1.heap.size]? = some (.cells #[.bool true, .string ⟨s.toArray⟩, .string ⟨#[]⟩, .string ⟨#[]⟩, .bool false, .bool true] 45 (0, 0)) := by rw [← hw5]; exact hp_set (i := 5) hG4
  have wc : w5.heap[w.heap.size]? = some (.cells #[.bool false, .string ⟨#[]⟩, .string ⟨#[]⟩, .string ⟨#[]⟩, .bool false, .bool false] 45 (0, 0)) := by rw [← hw5]; exact (hp_other (by omega)).trans hx4
  have d0 : w5.cell? ⟨w1.heap.size, 0, none⟩ = some (.bool true) := by rw [cell_of 0 hG5]; rfl
  have d1 : w5.cell? ⟨w1.heap.size, 1, none⟩ = some (.string ⟨s.toArray⟩) := by rw [cell_of 1 hG5]; rfl
  have d2 : w5.cell? ⟨w1.heap.size, 2, none⟩ = some (.string ⟨#[]⟩) := by rw [cell_of 2 hG5]; rfl
  have d3 : w5.cell? ⟨w1.heap.size, 3, none⟩ = some (.string ⟨#[]⟩) := by rw [cell_of 3 hG5]; rfl
  have d4 : w5.cell? ⟨w1.heap.size, 4, none⟩ = some (.bool false) := by rw [cell_of 4 hG5]; rfl
  have d5 : w5.cell? ⟨w1.heap.size, 5, none⟩ = some (.bool true) := by rw [cell_of 5 hG5]; rfl
  have HQ : Hid ((w5.setRow w.heap.size #[.bool true, .string ⟨s.toArray⟩, .string ⟨#[]⟩, .string ⟨#[]⟩, .bool false, .bool true]).heap[w.heap.size]? = some (.cells #[.bool true, .string ⟨s.toArray⟩, .string ⟨#[]⟩, .string ⟨#[]⟩, .bool false, .bool true] 45 (0, 0))) := Lib.hid (setRow_heap _ _ _ _ _ _ wc)
  have HBF : Hid (Below w.heap.size w (w5.setRow w.heap.size #[.bool true, .string ⟨s.toArray⟩, .string ⟨#[]⟩, .string ⟨#[]⟩, .bool false, .bool true])) := Lib.hid (below_setRow hB5 (Nat.le_refl _) _)
  have hkd : decide ((k : Int) < 0) = false := by simp

  clear hB4 hG4 hx4 hB5 hG5 CX HLC
  by_cases hgt : (t2 : Int) < (t3 : Int)
  all_goals
    go_wp2_with fail
    all_goals
      refine CX4.out.mono ?_
      rintro e w9 ⟨rfl, rfl⟩
      go_wp2_with (first | (refine wpList_store_row rfl _ _ _ rfl w.heap.size #[.bool true, .string ⟨s.toArray⟩, .string ⟨#[]⟩, .string ⟨#[]⟩, .bool false, .bool true] rfl rfl _ _ wc (by kernel_rfl) rfl (by kernel_rfl) ?_))
      (try simp only [Exit.inBlock, Exit.then])
      exact bodyPost_ret (results_cell3p rfl _ _ w.heap.size _ _ _ _ rfl HQ.out HU.out.2 rfl HU.out.1) rfl ⟨rfl, HBF.out⟩
end Go.Proofs.YtgenpgfhjhcahaaGreatDoor
/- Single steps of a statement that draws its order. -/
namespace Go.Proofs.YtgenpgfhjhcahaaGreatDoor
open Go.ChangeShapes Go.WideShapes Go.ChangeAt Go.RowKit
set_option linter.unusedVariables false
section
variable {P : Program} {ops : Array Oper} {Q : Exit → Act → World → Prop}
/-- A step of a statement that draws its order, out of its own law. -/
theorem step_op {o : Oper} {a : Act} {w : World} {K : Act → World → Prop} {E : Prop} (hgd : o.guard = none) (h : o.wp P a w K Q) : if Region.wanted o (yielded ops a.tmps) = true then o.wp P a w K Q else E := by
  rw [if_pos (by simp [Region.wanted, hgd])]
  exact h
/-- The law of a region that draws its order, at the drawn world. -/
theorem wp_region_drew {id : Nat} {l : List Oper} {a : Act} {w : World} (hm : P.follows .mixedOrders = true) (h : wpAny P .any l.toArray Q l.toArray.size (Array.replicate l.toArray.size false) a w.drew) : (Code.region id l.toArray true).wp P Q a w := wp_region_any hm h
/-- Cells in the middle of a block. -/
theorem rangeAt_of {w : World} {b : Nat} {cs : Array Value} {T : TypeId} {f : Nat × Nat} (h : w.heap[b]? = some (.cells cs T f)) (o n : Nat) (hn : o + n ≤ cs.size) : w.rangeAt b o ((cs.toList.drop o).take n) := fun j v hv => by
  rw [List.getElem?_take] at hv
  split at hv
  · rw [List.getElem?_drop, Array.getElem?_toList] at hv
    rw [cell_of _ h]
    simpa using hv
  · cases hv
end
end Go.Proofs.YtgenpgfhjhcahaaGreatDoor
/- decl.reader.stands. -/
namespace Go.Proofs.YtgenpgfhjhcahaaGreatDoor
open Go.ChangeShapes Go.WideShapes Go.ChangeAt Go.RowKit
set_option linter.unusedVariables false
set_option maxRecDepth 100000 in
set_option maxHeartbeats 8000000 in
theorem dcStands_c (D : Nat) (A : Option Addr) (n cap : Nat) (l : List UInt8) (k : Nat) (p : List UInt8) (w0 w : World) (h : Byt w0 w0.heap.size A n cap l) (hBw : Below w0.heap.size w0 w) (hk : k ≤ n) (hp : p.length ≤ 1000000) (hD : D < w.heap.size) (c0 : w.cell? ⟨D, 0, none⟩ = some (.slice A n cap)) (c1 : w.cell? ⟨D, 1, none⟩ = some (.int .i64 k)) :
    Calls Tryz.prog 106 #[.pointer (some ⟨D, 0, none⟩), .string ⟨p.toArray⟩] w fun e w' => e = .returned (.bool (p.isPrefixOf (l.drop k))) ∧ Below w.heap.size w w' := by
  have hrf : ∀ W : World, (Instr.slice 22 (.slice A n cap) (some (.int .i64 (k : Int))) none none).run Tryz.prog W = .ok (.slice (cutA A cap k) (n - k) (cap - k)) W := fun W => run_from A n cap k hk
  have hcv := run_toBytes w.drew p
  have hB1 : Below w.heap.size w w.drew := (Below.refl _ _).drew
  have hb1 := Lib.bytesWorld_below w.drew 5 ⟨p.toArray⟩
  have hb2 : Below w.heap.size w (Lib.bytesWorld w.drew 5 ⟨p.toArray⟩) := hB1.trans (hb1.mono hB1.size)
  have CH : Hid (Calls Tryz.prog 53 #[.slice (cutA A cap k) (n - k) (cap - k), .slice (some ⟨w.heap.size, 0, none⟩) p.length (grownCap w.drew p.length 0 5)] (Lib.bytesWorld w.drew 5 ⟨p.toArray⟩) fun e w' => e = .returned (.bool (p.isPrefixOf (l.drop k))) ∧ Lib.bytesWorld w.drew 5 ⟨p.toArray⟩ = w') := Lib.hid (hasPrefix_c (cutA A cap k) _ (n - k) (cap - k) _ _ (l.drop k) p _ _ _ ((h.below (hBw.trans (hb2.mono hBw.size))).drop hk) (byt_new w.drew p hp))
  have d0 : w.drew.cell? ⟨D, 0, none⟩ = some (.slice A n cap) := (hB1.cell (p := ⟨D, 0, none⟩) hD).trans c0
  have d1 : w.drew.cell? ⟨D, 1, none⟩ = some (.int .i64 k) := (hB1.cell (p := ⟨D, 1, none⟩) hD).trans c1
  have e0 := (hb2.cell (p := ⟨D, 0, none⟩) hD).trans c0
  have e1 := (hb2.cell (p := ⟨D, 1, none⟩) hD).trans c1
  have HB := Lib.hid hb2
  clear h hB1 hb1 hb2 c0 c1
  generalize p.isPrefixOf (l.drop k) = r at *
  generalize Lib.bytesWorld w.drew 5 ⟨p.toArray⟩ = W1 at *
  generalize grownCap w.drew p.length 0 5 = cp at *
  go_enter Tryz.func106, Tryz.ntmps106
  go_upto_region 1 with fail
  go_cut [4] from 5 (fun cc wx => cc = .bool r ∧ wx = W1)
  case first =>
    go_region_with (go_at_call 53; (with_reducible refine CH.out.mono ?_); rintro e w2 ⟨rfl, rfl⟩)
    all_goals (go_wp2_with fail; go_meet; exact ⟨rfl, rfl⟩)
  obtain ⟨rfl, rfl⟩ := hcut
  go_wp2
  go_ret
  exact ⟨rfl, HB.out⟩
end Go.Proofs.YtgenpgfhjhcahaaGreatDoor
/- decl.reader.text of a comment. -/
namespace Go.Proofs.YtgenpgfhjhcahaaGreatDoor
open Go.ChangeShapes Go.WideShapes Go.ChangeAt Go.RowKit
set_option linter.unusedVariables false
/-- The cells of a declarations' reader. -/
def rdrV (A : Option Addr) (n cap : Nat) (at_ e k : Int) (nm tx : List UInt8) : Array Value := #[.slice A n cap, .int .i64 at_, .int .i64 e, .int .i64 k, .string ⟨nm.toArray⟩, .bool false, .string ⟨#[]⟩, .string ⟨#[]⟩, .bool false, .string ⟨#[]⟩, .string ⟨#[]⟩, .string ⟨#[]⟩, .slice none 0 0, .string ⟨#[]⟩, .string ⟨#[]⟩, .string ⟨tx.toArray⟩]
set_option maxRecDepth 100000 in
set_option maxHeartbeats 8000000 in
theorem dnText_c (D : Nat) (A : Option Addr) (n cap : Nat) (l s : List UInt8) (k nx : Nat) (kd : Int) (w0 w : World) (h : Byt w0 w0.heap.size A n cap l) (hW : W29 w0) (hBw : Below w0.heap.size w0 w) (hm : n ≤ 50000) (hk : k ≤ n) (hx : commentOut l k = (s, nx, 0)) (hD : w.heap[D]? = some (.cells (rdrV A n cap k 0 kd [] []) 215)) :
    Calls Tryz.prog 155 #[.pointer (some ⟨D, 0, none⟩), .pointer (some ⟨D, 15, none⟩), .func (.func 54) #[] #[]] w fun e w' => (∃ v, e = .returned v) ∧ w'.heap[D]? = some (.cells (rdrV A n cap nx 0 kd [] s) 215) ∧ w.grownBy w' (some D) := by
  have hl := lt_of hD
  have CC : Hid (∀ W, Below w.heap.size w W → Calls Tryz.prog 54 #[.slice A n cap, .int .i64 k] W fun e w' => e = .returned (.tuple #[.string ⟨s.toArray⟩, .int .i64 nx, .int .i64 0]) ∧ Hid (Below w.heap.size w w')) := Lib.hid fun W hb => by
    have := pgComment_c A n cap l k W ((h.below (hBw.trans (hb.mono hBw.size))).more (Nat.le_trans hBw.size hb.size)) (hW.below (hBw.trans (hb.mono hBw.size))) hm hk
    rw [hx] at this
    exact this.mono fun e w' ⟨he, hb2⟩ => ⟨he, Lib.hid (hb.trans (hb2.mono hb.size))⟩
  have KP : Hid (∀ W, Below w.heap.size w W → W.cell? ⟨D, 0, none⟩ = some (.slice A n cap) ∧ W.cell? ⟨D, 1, none⟩ = some (.int .i64 k) ∧ Hid (Below w.heap.size w W)) := Lib.hid fun W hW => by
    have h9 := (hW.block D hl).trans hD
    exact ⟨by rw [cell_of 0 h9]; rfl, by rw [cell_of 1 h9]; rfl, Lib.hid hW⟩
  have c2 : w.cell? ⟨D, 2, none⟩ = some (.int .i64 0) := by rw [cell_of 2 hD]; rfl
  have hB0 : Below w.heap.size w w := Below.refl _ _
  have hB1 : Below w.heap.size w w.drew := hB0.drew
  obtain ⟨c0, c1, _⟩ := KP.out _ hB0
  have HD := Lib.hid (And.intro hD hl)
  clear h hW hx hD hl
  go_enter Tryz.func155, Tryz.ntmps155
  go_wp2_with fail
  go_region_held3 (fun w' => w'.cell? ⟨D, 0, none⟩ = some (.slice A n cap) ∧ w'.cell? ⟨D, 1, none⟩ = some (.int .i64 k) ∧ Hid (Below w.heap.size w w')) (first | exact ⟨by assumption, by assumption, by assumption⟩ | exact KP.out _ hB0 | exact KP.out _ hB1 | exact KP.out _ HB.out) (first
    | (go_at_call 54; refine (CC.out _ (by first | exact hB1 | exact hB0)).mono ?_; rintro e w2 ⟨rfl, HB⟩; obtain ⟨u0, u1, u2⟩ := KP.out _ HB.out))
  all_goals
    have h2 := (HB.out.block D HD.out.2).trans HD.out.1
    have g15 : w2.cell? ⟨D, 15, none⟩ = some (.string ⟨#[]⟩) := by rw [cell_of 15 h2]; rfl
    have g1 := u1
    have f15 := free_of 15 h2
    have f1 := free_of 1 h2
    have hF : ((w2.setCell ⟨D, 15, none⟩ (.string ⟨s.toArray⟩)).setCell ⟨D, 1, none⟩ (.int .i64 nx)).heap[D]? = some (.cells (rdrV A n cap nx 0 kd [] s) 215) := hp_set (hp_set h2)
    have hGr : w.grownBy ((w2.setCell ⟨D, 15, none⟩ (.string ⟨s.toArray⟩)).setCell ⟨D, 1, none⟩ (.int .i64 nx)) (some D) := ((HB.out.gr (some D)).setCell 15 _).setCell 1 _
    have HF := Lib.hid (And.intro hF hGr)
    clear h2 hF hGr u0 u1 u2
    go_wp2
    go_end0
    exact ⟨⟨_, rfl⟩, HF.out⟩
end Go.Proofs.YtgenpgfhjhcahaaGreatDoor
/- A region that draws its order: a head that keeps the world in a class, a tail in one order: one walk serves every order. -/
namespace Go.Proofs.YtgenpgfhjhcahaaGreatDoor
open Go.ChangeShapes Go.WideShapes Go.ChangeAt Go.RowKit
set_option linter.unusedVariables false
section
variable {P : Program} {ops : Array Oper} {md : Region.Mode} {C : World → Prop}
/-- .. with no tail. -/
theorem wp_region_calm0 {id : Nat} {Q : Exit → Act → World → Prop} {a : Act} {w : World} {l : List Oper} (C : World → Prop) (hm : P.follows .mixedOrders = true) (hB : Region.lexB .any l.toArray = true) (hC : C { w with drawn := w.drawn + 1 })
    (h : wpQuiet P l.toArray C (fun a' => ∀ w', C w' → Q .normal a' w') l a) : (Code.region id l.toArray true).wp P Q a w :=
  wp_region_quiet (C := C) hm hB hC (by simpa using h)
end
end Go.Proofs.YtgenpgfhjhcahaaGreatDoor
/- decl.reader.aside. -/
namespace Go.Proofs.YtgenpgfhjhcahaaGreatDoor
open Go.ChangeShapes Go.WideShapes Go.ChangeAt Go.RowKit
set_option linter.unusedVariables false
set_option maxRecDepth 100000 in
set_option maxHeartbeats 8000000 in
theorem dnAsideC_c (D : Nat) (A : Option Addr) (n cap : Nat) (l s : List UInt8) (k nx : Nat) (w0 w : World) (h : Byt w0 w0.heap.size A n cap l) (hW : W29 w0) (hBw : Below w0.heap.size w0 w) (hD0 : w0.heap.size ≤ D) (hm : n ≤ 50000) (hk : k ≤ n) (hp1 : [37].isPrefixOf (l.drop k) = false) (hp2 : [60, 33, 45, 45].isPrefixOf (l.drop k) = true) (hx : commentOut l k = (s, nx, 0)) (hD : w.heap[D]? = some (.cells (rdrV A n cap k 0 0 [] []) 215)) :
    Calls Tryz.prog 107 #[.pointer (some ⟨D, 0, none⟩)] w fun e w' => (∃ v, e = .returned v) ∧ w'.heap[D]? = some (.cells (rdrV A n cap nx 0 6 [] s) 215) ∧ w.grownBy w' (some D) := by
  have hl := lt_of hD
  have CS1 : Hid (Calls Tryz.prog 106 #[.pointer (some ⟨D, 0, none⟩), .string ⟨#[37]⟩] w fun e w' => e = .returned (.bool false) ∧ Below w.heap.size w w') := Lib.hid (by
    have := dcStands_c D A n cap l k [37] w0 w h hBw hk (by decide) hl (by rw [cell_of 0 hD]; rfl) (by rw [cell_of 1 hD]; rfl)
    rwa [hp1] at this)
  have CS2 : Hid (∀ W, Below w.heap.size w W → Calls Tryz.prog 106 #[.pointer (some ⟨D, 0, none⟩), .string ⟨#[60, 33, 45, 45]⟩] W fun e w' => e = .returned (.bool true) ∧ Below W.heap.size W w') := Lib.hid fun W hb => by
    have h9 := (hb.block D hl).trans hD
    have := dcStands_c D A n cap l k [60, 33, 45, 45] w0 W h (hBw.trans (hb.mono hBw.size)) hk (by decide) (lt_of h9) (by rw [cell_of 0 h9]; rfl) (by rw [cell_of 1 h9]; rfl)
    rwa [hp2] at this
  have CT : Hid (∀ W, Below w.heap.size w W → Calls Tryz.prog 155 #[.pointer (some ⟨D, 0, none⟩), .pointer (some ⟨D, 15, none⟩), .func (.func 54) #[] #[]] (W.setCell ⟨D, 3, none⟩ (.int .i64 6)) fun e w' => (∃ v, e = .returned v) ∧ Hid (w'.heap[D]? = some (.cells (rdrV A n cap nx 0 6 [] s) 215) ∧ w.grownBy w' (some D))) := Lib.hid fun W hb => by
    have h9 := (hb.block D hl).trans hD
    have h8 : (W.setCell ⟨D, 3, none⟩ (.int .i64 6)).heap[D]? = some (.cells (rdrV A n cap k 0 6 [] []) 215) := hp_set h9
    have hb8 : Below w0.heap.size w0 (W.setCell ⟨D, 3, none⟩ (.int .i64 6)) := (hBw.trans (hb.mono hBw.size)).setCell (p := ⟨D, 3, none⟩) hD0 _
    exact (dnText_c D A n cap l s k nx 6 w0 _ h hW hb8 hm hk hx h8).mono fun e w' ⟨he, h1, h2⟩ => ⟨he, Lib.hid ⟨h1, ((hb.gr (some D)).setCell 3 _).trans h2⟩⟩
  have HD := Lib.hid (And.intro hD hl)
  clear h hW hBw hD0 hp1 hp2 hx hD hl
  go_enter Tryz.func107, Tryz.ntmps107
  go_wp2_with fail
  refine CS1.out.mono ?_
  rintro e w1 ⟨rfl, hb1⟩
  have C2 := Lib.hid (CS2.out w1 hb1)
  have HB1 := Lib.hid hb1
  clear CS1 CS2 hb1
  go_wp2_with fail
  refine C2.out.mono ?_
  rintro e w2 ⟨rfl, hb2⟩
  have hb := HB1.out.trans (hb2.mono HB1.out.size)
  have h9 := (hb.block D HD.out.2).trans HD.out.1
  have c3 : w2.cell? ⟨D, 3, none⟩ = some (.int .i64 0) := by rw [cell_of 3 h9]; rfl
  have f3 := free_of 3 h9
  have C3 := Lib.hid (CT.out w2 hb)
  clear CT C2 hb2 hb h9
  go_wp2_with fail
  refine C3.out.mono ?_
  rintro e w4 ⟨⟨v, rfl⟩, HF⟩
  go_wp2
  go_end0
  exact ⟨⟨_, rfl⟩, HF.out⟩
set_option maxRecDepth 100000 in
set_option maxHeartbeats 8000000 in
theorem dnAsideP_c (D : Nat) (A : Option Addr) (n cap : Nat) (l nm tx : List UInt8) (k nx : Nat) (w0 w : World) (h : Byt w0 w0.heap.size A n cap l) (hW : W29 w0) (hBw : Below w0.heap.size w0 w) (hD0 : w0.heap.size ≤ D) (hm : n ≤ 50000) (hk : k ≤ n) (hp1 : [37].isPrefixOf (l.drop k) = false) (hp2 : [60, 33, 45, 45].isPrefixOf (l.drop k) = false) (hp3 : [60, 63].isPrefixOf (l.drop k) = true) (hx : piOut l k = (nm, tx, nx, 0)) (hD : w.heap[D]? = some (.cells (rdrV A n cap k 0 0 [] []) 215)) :
    Calls Tryz.prog 107 #[.pointer (some ⟨D, 0, none⟩)] w fun e w' => (∃ v, e = .returned v) ∧ w'.heap[D]? = some (.cells (rdrV A n cap nx 0 5 nm tx) 215) ∧ w.grownBy w' (some D) := by
  have hl := lt_of hD
  have CS : Hid (∀ (p : List UInt8) W, p.length ≤ 1000000 → Below w.heap.size w W → Calls Tryz.prog 106 #[.pointer (some ⟨D, 0, none⟩), .string ⟨p.toArray⟩] W fun e w' => e = .returned (.bool (p.isPrefixOf (l.drop k))) ∧ Below W.heap.size W w') := Lib.hid fun p W hp hb => by
    have h9 := (hb.block D hl).trans hD
    exact dcStands_c D A n cap l k p w0 W h (hBw.trans (hb.mono hBw.size)) hk hp (lt_of h9) (by rw [cell_of 0 h9]; rfl) (by rw [cell_of 1 h9]; rfl)
  have CS1 := Lib.hid (CS.out [37] w (by decide) (Below.refl _ _))
  have CS2 := Lib.hid (CS.out [60, 33, 45, 45])
  have CS3 := Lib.hid (CS.out [60, 63])
  rw [hp1] at CS1
  rw [hp2] at CS2
  rw [hp3] at CS3
  have KD : Hid (∀ W, Below w.heap.size w W → (W.setCell ⟨D, 3, none⟩ (.int .i64 5)).heap[D]? = some (.cells (rdrV A n cap k 0 5 [] []) 215) ∧ w.grownBy (W.setCell ⟨D, 3, none⟩ (.int .i64 5)) (some D) ∧ Below w0.heap.size w0 (W.setCell ⟨D, 3, none⟩ (.int .i64 5))) := Lib.hid fun W hb => by
    have h9 := (hb.block D hl).trans hD
    exact ⟨hp_set h9, (hb.gr (some D)).setCell 3 _, (hBw.trans (hb.mono hBw.size)).setCell (p := ⟨D, 3, none⟩) hD0 _⟩
  have CP : Hid (∀ W, Below w0.heap.size w0 W → Calls Tryz.prog 55 #[.slice A n cap, .int .i64 k] W fun e w' => e = .returned (.tuple #[.string ⟨nm.toArray⟩, .string ⟨tx.toArray⟩, .int .i64 nx, .int .i64 0]) ∧ Below W.heap.size W w') := Lib.hid fun W hb => by
    have := pgPi_c A n cap l k W ((h.below hb).more hb.size) (hW.below hb) hm hk
    rw [hx] at this
    exact this
  have HD := Lib.hid (And.intro hD hl)
  clear h hW hBw hD0 hp1 hp2 hp3 hx hD hl CS
  go_enter Tryz.func107, Tryz.ntmps107
  go_wp2_with fail
  refine CS1.out.mono ?_
  rintro e w1 ⟨rfl, hb1⟩
  have C2 := Lib.hid (CS2.out w1 (by decide) hb1)
  have HB1 := Lib.hid hb1
  clear CS1 CS2 hb1
  go_wp2_with fail
  refine C2.out.mono ?_
  rintro e w2 ⟨rfl, hb2⟩
  have hb := HB1.out.trans (hb2.mono HB1.out.size)
  have C3 := Lib.hid (CS3.out w2 (by decide) hb)
  have HB2 := Lib.hid hb
  clear CS3 C2 hb hb2
  go_wp2_with fail
  refine C3.out.mono ?_
  rintro e w3 ⟨rfl, hb3⟩
  have hb := HB2.out.trans (hb3.mono HB2.out.size)
  have h9 := (hb.block D HD.out.2).trans HD.out.1
  have c3 : w3.cell? ⟨D, 3, none⟩ = some (.int .i64 0) := by rw [cell_of 3 h9]; rfl
  have f3 := free_of 3 h9
  have K3 := Lib.hid (KD.out w3 hb)
  clear KD C3 hb3 hb h9
  obtain ⟨W3, hW3⟩ : ∃ W3, w3.setCell ⟨D, 3, none⟩ (.int .i64 5) = W3 := ⟨_, rfl⟩
  rw [hW3] at K3
  have h9 := K3.out.1
  have d0 : W3.drew.cell? ⟨D, 0, none⟩ = some (.slice A n cap) := by rw [cell_of (w := W3.drew) 0 h9]; rfl
  have d1 : W3.drew.cell? ⟨D, 1, none⟩ = some (.int .i64 k) := by rw [cell_of (w := W3.drew) 1 h9]; rfl
  have C9 : Hid (Calls Tryz.prog 55 #[.slice A n cap, .int .i64 k] W3.drew fun e w' => e = .returned (.tuple #[.string ⟨nm.toArray⟩, .string ⟨tx.toArray⟩, .int .i64 nx, .int .i64 0]) ∧ Below W3.heap.size W3 w') := Lib.hid ((CP.out W3.drew (K3.out.2.2.trans ((Below.refl _ _).drew.mono K3.out.2.2.size))).mono fun e w' ⟨he, hb2⟩ => ⟨he, (Below.refl W3.heap.size W3).drew.trans hb2⟩)
  have AT : Hid (∀ w9, Below W3.heap.size W3 w9 → w9.cell? ⟨D, 4, none⟩ = some (.string ⟨#[]⟩) ∧ w9.cell? ⟨D, 15, none⟩ = some (.string ⟨#[]⟩) ∧ w9.cell? ⟨D, 1, none⟩ = some (.int .i64 k) ∧ w9.cell? ⟨D, 2, none⟩ = some (.int .i64 0) ∧ w9.frozen? ⟨D, 4, none⟩ = false ∧ w9.frozen? ⟨D, 15, none⟩ = false ∧ w9.frozen? ⟨D, 1, none⟩ = false ∧ w9.frozen? ⟨D, 2, none⟩ = false ∧ Hid (((((w9.setCell ⟨D, 4, none⟩ (.string ⟨nm.toArray⟩)).setCell ⟨D, 15, none⟩ (.string ⟨tx.toArray⟩)).setCell ⟨D, 1, none⟩ (.int .i64 nx)).setCell ⟨D, 2, none⟩ (.int .i64 0)).heap[D]? = some (.cells (rdrV A n cap nx 0 5 nm tx) 215) ∧ w.grownBy ((((w9.setCell ⟨D, 4, none⟩ (.string ⟨nm.toArray⟩)).setCell ⟨D, 15, none⟩ (.string ⟨tx.toArray⟩)).setCell ⟨D, 1, none⟩ (.int .i64 nx)).setCell ⟨D, 2, none⟩ (.int .i64 0)) (some D))) := Lib.hid fun w9 hw9 => by
    have h9 := (hw9.block D (lt_of K3.out.1)).trans K3.out.1
    exact ⟨by rw [cell_of 4 h9]; rfl, by rw [cell_of 15 h9]; rfl, by rw [cell_of 1 h9]; rfl, by rw [cell_of 2 h9]; rfl, free_of 4 h9, free_of 15 h9, free_of 1 h9, free_of 2 h9, Lib.hid ⟨hp_set (hp_set (hp_set (hp_set h9))), ((((K3.out.2.1.trans (hw9.gr (some D))).setCell 4 _).setCell 15 _).setCell 1 _).setCell 2 _⟩⟩
  clear CP HB1 HB2 h9
  go_wp2_with fail
  go_region_with (go_at_call 55; (with_reducible refine C9.out.mono ?_); rintro e w9 ⟨rfl, hb9⟩; obtain ⟨g4, g15, g1, g2, f4, f15, f1, f2, HF⟩ := AT.out w9 hb9; clear hb9)
  all_goals
    go_wp2
    go_end0
    exact ⟨⟨_, rfl⟩, HF.out⟩
end Go.Proofs.YtgenpgfhjhcahaaGreatDoor
