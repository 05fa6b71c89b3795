/- Texts of ours, joined: GsB, GsC, GsP. -/
import Derived.Test.YtfemfgkcgboopaaGreatDoorRows
import Derived.WalkKit
import Derived.ProofKit
import Derived.OpenShut
import Derived.ShutString
import Derived.ChangeOld
import Derived.Below
import Derived.BigQuiet
import Derived.Deep.QuietTactic
import Derived.Lib.Hide
import Derived.Deep.RegionHeld3
import Derived.Lib.SlBytesConst
import Derived.Laws.CopyOwn
import Derived.Laws.CopyRow
import Derived.Lib.Bytes
import Derived.Deep.LoopGhost
import Derived.Deep.DeepFit
import Derived.Deep.DeepMust
import Derived.WalkSpells
import Derived.WalkLawsBesides
import Derived.Laws.EntriesVeiled
import Derived.Laws.Rows
import Derived.Maps.OwnOps
import Derived.Maps.OwnSet
import Derived.Maps.Views
import Derived.Maps.AppendAt
import Derived.Lib.SmallJoins
import Derived.Deep.AppendLies
import Derived.Test.YtfemfgkcgboopaaGreatDoorQ1
import Derived.Test.YtfemfgkcgboopaaGreatDoorQ13
import Derived.Test.YtfemfgkcgboopaaGreatDoorQ14
import Derived.Test.YtfemfgkcgboopaaGreatDoorQ18
import Derived.Test.YtfemfgkcgboopaaGreatDoorQ4
import Derived.Test.YtfemfgkcgboopaaGreatDoorQ9
import Derived.Test.YtfemfgkcgboopaaGreatDoorQ10
import Derived.Test.YtfemfgkcgboopaaGreatDoorQ15
import Derived.Test.YtfemfgkcgboopaaGreatDoorQ16
/- A builder within a maker. -/
namespace Go.Proofs.YtfemfgkcgboopaaGreatDoor
open Go.ChangeShapes Go.WideShapes Go.ChangeAt Go.RowKit
set_option linter.unusedVariables false
/-- Every block but m, and but the row's own, stands. -/
structure MkF (m : Nat) (ob : Option Nat) (w w' : World) : Prop where
  os : w'.os = w.os
  tape : w'.tape = w.tape
  output : w'.output = w.output
  size : w.heap.size ≤ w'.heap.size
  block : ∀ k, k < w.heap.size → k ≠ m → some k ≠ ob → w'.heap[k]? = w.heap[k]?
theorem MkF.refl (m : Nat) (ob : Option Nat) (w : World) : MkF m ob w w := ⟨rfl, rfl, rfl, Nat.le_refl _, fun _ _ _ _ => rfl⟩
theorem MkF.set {m : Nat} {ob : Option Nat} {w w' : World} (h : MkF m ob w w') (i : Nat) (v : Value) : MkF m ob w (w'.setCell ⟨m, i, none⟩ v) :=
  ⟨h.os, h.tape, h.output, by have := h.size; simpa [World.setCell] using this, fun k hk hb ho => by rw [hp_other hb]; exact h.block k hk hb ho⟩
/-- A maker in block m: its map, how deep, its stack's block, and its builder that holds the bytes l. -/
def MkP (p : Value) (m s : Nat) (mv : Value) (deep : Int) (v : Value) (l : List UInt8) (w : World) : Prop :=
  w.heap[m]? = some (.cells #[mv, .int .i64 deep, .pointer (some ⟨s, 0, none⟩), p, v] 69 (0, 0)) ∧ w.ownsRow (m + 1) 5 1 v l.length (Lib.byteCells l)
def MkB (m s : Nat) (mv : Value) (deep : Int) (v : Value) (l : List UInt8) (w : World) : Prop := MkP (.pointer none) m s mv deep v l w ∨ MkP (.pointer (some ⟨m, 3, none⟩)) m s mv deep v l w
theorem liesMaker : liesAt Tryz.prog Tryz.prog.depth 69 (5 / Tryz.prog.cellsOf 69) 3 67 1 = true := by kernel_rfl
set_option maxRecDepth 100000 in
set_option maxHeartbeats 2000000 in
theorem copyCheckM_used (m : Nat) (w : World) (h0 : w.cell? ⟨m, 3, none⟩ = some (.pointer (some ⟨m, 3, none⟩))) :
    Calls Tryz.prog 72 #[.pointer (some ⟨m, 3, none⟩)] w fun e w' => e = .returned (.tuple #[]) ∧ w' = w := by
  obtain ⟨j, hj, _⟩ := Option.map_eq_some_iff.1 sizeBuilder
  go_enter Tryz.func72, Tryz.ntmps72
  go_wp2
  rw [Lib.run_neq_ptr_same w _ Tryz.underlying64 hj]
  go_wp2
  go_end0
  exact ⟨rfl, rfl⟩
set_option maxRecDepth 100000 in
set_option maxHeartbeats 2000000 in
theorem copyCheckM_fresh (m : Nat) (w : World) (h0 : w.cell? ⟨m, 3, none⟩ = some (.pointer none)) (hsh : w.shape? m = some (69, 5)) (hfz : w.frozen? ⟨m, 3, none⟩ = false) :
    Calls Tryz.prog 72 #[.pointer (some ⟨m, 3, none⟩)] w fun e w' => e = .returned (.tuple #[]) ∧ w' = w.setCell ⟨m, 3, none⟩ (.pointer (some ⟨m, 3, none⟩)) := by
  obtain ⟨j, hj, hjs⟩ := Option.map_eq_some_iff.1 sizeBuilder
  go_enter Tryz.func72, Tryz.ntmps72
  go_wp2
  rw [Lib.run_to_unsafe w ⟨m, 3, none⟩ Tryz.underlying64 Tryz.underlying155 hj (by rw [hjs]; decide) hsh (by show 3 < 5; omega)]
  simp only [Result.andThen]
  rw [Oper.upon_value]
  go_wp2
  rw [run_callFunc_extern Tryz.func94 (by kernel_rfl) (by kernel_rfl) (by kernel_rfl) (e := Extern.AbiNoEscape.same) (by kernel_rfl)]
  rw [Lib.run_noEscape]
  simp only [Result.andThen]
  rw [Oper.upon_value]
  go_wp2
  rw [Lib.run_from_unsafe w ⟨m, 3, none⟩ Tryz.underlying155 Tryz.underlying64 hj hsh liesMaker]
  simp only [Result.andThen]
  rw [Oper.upon_value]
  go_wp2
  go_end0
  exact ⟨rfl, rfl⟩
theorem copyCheck_m (m s : Nat) (mv : Value) (deep : Int) (v : Value) (l : List UInt8) (w : World) (h : MkB m s mv deep v l w) :
    Calls Tryz.prog 72 #[.pointer (some ⟨m, 3, none⟩)] w fun e w' => e = .returned (.tuple #[]) ∧ MkP (.pointer (some ⟨m, 3, none⟩)) m s mv deep v l w' ∧ MkF m none w w' := by
  rcases h with ⟨hh, ho⟩ | h
  · refine (copyCheckM_fresh m w (by rw [cell_of 3 hh]; rfl) (by simp [World.shape?, hh]) (free_of 3 hh)).mono ?_
    rintro e w' ⟨rfl, rfl⟩
    refine ⟨rfl, ⟨?_, ?_⟩, (MkF.refl m none w).set 3 _⟩
    · rw [hp_set hh]; rfl
    · refine ho.kept (row := some m) ((gr_refl w (some m)).setCell 3 _) (Or.inr ?_)
      intro e
      have := (ho.lt m e).1
      omega
  · obtain ⟨hh, ho⟩ := h
    refine (copyCheckM_used m w (by rw [cell_of 3 hh]; rfl)).mono ?_
    rintro e w' ⟨rfl, rfl⟩
    exact ⟨rfl, ⟨hh, ho⟩, MkF.refl m none _⟩
set_option maxRecDepth 100000 in
set_option maxHeartbeats 4000000 in
/-- (*strings.Builder).WriteByte within a maker. -/
theorem writeByte_m (m s : Nat) (mv : Value) (deep : Int) (v : Value) (l : List UInt8) (c : UInt8) (w : World) (h : MkB m s mv deep v l w) (hlen : l.length + 1 ≤ 140737488355328) :
    Calls Tryz.prog 48 #[.pointer (some ⟨m, 3, none⟩), .int .u8 c.toNat] w fun e w' => e = .returned .nilIface ∧ ∃ v', MkB m s mv deep v' (l ++ [c]) w' ∧ MkF m v.ownBlock w w' ∧ (v'.ownBlock = v.ownBlock ∨ ∃ g, v'.ownBlock = some g ∧ w.heap.size ≤ g) := by
  obtain ⟨i0, hi, hz0, hz1, hz2⟩ := info_parts (show (Tryz.prog.info? 5).map (fun i => (i.zero, i.size, i.bytes)) = some (some (.int .u8 0), 1, 1) by kernel_rfl)
  have hsn := byteCells_snoc l c
  have HSN := Lib.hid hsn
  clear hsn
  generalize (c.toNat : Int) = cn at *
  go_enter Tryz.func48, Tryz.ntmps48
  go_wp2_with fail
  refine (copyCheck_m m s mv deep v l _ h).mono ?_
  rintro e w1 ⟨rfl, ⟨hbk, hown⟩, hf1⟩
  have c0 : w1.cell? ⟨m, 3, none⟩ = some (.pointer (some ⟨m, 3, none⟩)) := by rw [cell_of 3 hbk]; rfl
  have c1 : w1.cell? ⟨m, 4, none⟩ = some v := by rw [cell_of 4 hbk]; rfl
  have hs1 := hf1.size
  have hlt : m < w1.heap.size := lt_of hbk
  go_wp2_with (at_builtin; refine wpList_append_own_at _ rfl _ _ 65 rfl (m + 1) 5 i0 (.int .u8 0) 1 1 Tryz.underlying65 hi hz0 hz1 hz2 rfl (by decide) _ _ _ rfl (hown.alloc _) ⟨w1.heap.size, 0, none⟩ 1 1 [.int .u8 cn] rfl rfl ?c1 ?c2 ?c3 ?c4 ?c5 ?_)
  case c1 =>
    intro j u hj
    match j, hj with
    | 0, hj => simp at hj; subst hj; simp [Addr.add]
  case c2 => intro u hu; simp at hu; subst hu; rfl
  case c3 => unfold maxLen; omega
  case c4 => omega
  case c5 => simp; omega
  intro v' w2 hown' hgrow _ hat
  have hne : some m ≠ v.ownBlock := by
    intro e
    have := (hown.lt m e.symm).1
    omega
  have hb2 : w2.heap[m]? = some (.cells #[mv, .int .i64 deep, .pointer (some ⟨s, 0, none⟩), .pointer (some ⟨m, 3, none⟩), v] 69 (0, 0)) := by
    rw [hgrow.block m (by simp; omega) hne]
    exact hp_old hbk
  have d0 : w2.cell? ⟨m, 3, none⟩ = some (.pointer (some ⟨m, 3, none⟩)) := by rw [cell_of 3 hb2]; rfl
  have d1 : w2.cell? ⟨m, 4, none⟩ = some v := by rw [cell_of 4 hb2]; rfl
  have f1 : w2.frozen? ⟨m, 4, none⟩ = false := free_of 4 hb2
  have hF2 : MkF m v.ownBlock w w2 := ⟨hgrow.os.trans hf1.os, hgrow.tape.trans hf1.tape, hgrow.output.trans hf1.output, by have := hgrow.size; simp at this; omega, fun k hk hkb hko => by
    rw [hgrow.block k (by simp; omega) hko]
    exact (Below.heap_alloc _ _ _ (by omega)).trans (hf1.block k hk hkb (by simp))⟩
  have HAT : Hid (v'.ownBlock = v.ownBlock ∨ ∃ g, v'.ownBlock = some g ∧ w.heap.size ≤ g) := Lib.hid (by
    rcases hat with h9 | h9
    · exact .inl h9
    · refine .inr ⟨_, h9, ?_⟩
      first | omega | (rw [World.size_alloc]; omega) | (simp only [World.size_alloc]; omega))
  obtain ⟨g, cap, rfl⟩ : ∃ g cap, v' = .slice (some ⟨g, 0, none⟩) (l.length + 1) cap := by
    rcases hown'.2 with ⟨_, h0⟩ | ⟨g, cap, cur, hv, _⟩
    · omega
    · exact ⟨g, cap, hv⟩
  have HF2 := Lib.hid hF2
  have HO := Lib.hid hown'
  clear hF2 hown' hgrow hown h hf1 hbk hat
  go_wp2
  go_ret
  refine ⟨rfl, _, Or.inr ⟨by rw [hp_set hb2]; rfl, ?_⟩, HF2.out.set 4 _, HAT.out⟩
  have ho2 := HO.out
  rw [HSN.out] at ho2
  rw [List.length_append]
  refine ho2.kept (row := some m) ((gr_refl w2 (some m)).setCell 4 _) (Or.inr ?_)
  intro e
  have := (ho2.lt m e).1
  omega
end Go.Proofs.YtfemfgkcgboopaaGreatDoor
/- Bytes written within a maker. -/
namespace Go.Proofs.YtfemfgkcgboopaaGreatDoor
open Go.ChangeShapes Go.WideShapes Go.ChangeAt Go.RowKit
set_option linter.unusedVariables false
set_option maxRecDepth 100000 in
set_option maxHeartbeats 4000000 in
/-- (*strings.Builder).Write within a maker. -/
theorem write_m (m s : Nat) (mv : Value) (deep : Int) (v : Value) (l bs : List UInt8) (q o c : Nat) (w : World) (h : MkB m s mv deep v l w) (hlen : l.length + bs.length ≤ 140737488355328) (hq : q ≠ m)
    (hx : ∀ j u, (Lib.byteCells bs)[j]? = some u → w.cell? ⟨q, o + j, none⟩ = some u) :
    Calls Tryz.prog 68 #[.pointer (some ⟨m, 3, none⟩), .slice (some ⟨q, o, none⟩) bs.length c] w fun e w' => e = .returned (.tuple #[.int .i64 bs.length, .nilIface]) ∧ ∃ v', MkB m s mv deep v' (l ++ bs) w' ∧ MkF m v.ownBlock w w' ∧ (v'.ownBlock = v.ownBlock ∨ ∃ g, v'.ownBlock = some g ∧ w.heap.size ≤ g) := by
  obtain ⟨i0, hi, hz0, hz1, hz2⟩ := info_parts (show (Tryz.prog.info? 5).map (fun i => (i.zero, i.size, i.bytes)) = some (some (.int .u8 0), 1, 1) by kernel_rfl)
  have HSN : Hid (Lib.byteCells l ++ Lib.byteCells bs = Lib.byteCells (l ++ bs)) := Lib.hid (by simp [Lib.byteCells])
  have HLB : Hid ((Lib.byteCells bs).length = bs.length) := Lib.hid (by simp [Lib.byteCells])
  have HX := Lib.hid hx
  clear hx
  obtain ⟨n, hn⟩ : ∃ n, bs.length = n := ⟨_, rfl⟩
  have HN := Lib.hid hn
  rw [hn] at hlen ⊢
  clear hn
  go_enter Tryz.func68, Tryz.ntmps68
  go_wp2_with fail
  refine (copyCheck_m m s mv deep v l _ h).mono ?_
  rintro e w1 ⟨rfl, ⟨hbk, hown⟩, hf1⟩
  have c0 : w1.cell? ⟨m, 3, none⟩ = some (.pointer (some ⟨m, 3, none⟩)) := by rw [cell_of 3 hbk]; rfl
  have c1 : w1.cell? ⟨m, 4, none⟩ = some v := by rw [cell_of 4 hbk]; rfl
  have hs1 := hf1.size
  have hlt : m < w1.heap.size := lt_of hbk
  go_wp2_with (at_builtin; refine wpList_append_own_at _ rfl _ _ 65 rfl (m + 1) 5 i0 (.int .u8 0) 1 1 Tryz.underlying65 hi hz0 hz1 hz2 rfl (by decide) _ _ _ rfl hown ⟨q, o, none⟩ n c (Lib.byteCells bs) rfl ?c0 ?c1 ?c2 ?c3 ?c4 ?c5 ?_)
  case c0 => rw [HLB.out, HN.out]; omega
  case c1 =>
    intro j u hj
    have h9 := HX.out j u hj
    rw [show (⟨q, o, none⟩ : Addr).add j = ⟨q, o + j, none⟩ by simp [Addr.add]]
    have hql : q < w.heap.size := by
      by_cases hql : q < w.heap.size
      · exact hql
      · simp [World.cell?, Array.getElem?_eq_none (Nat.le_of_not_lt hql)] at h9
    rw [← h9]
    simp only [World.cell?, hf1.block q hql hq (by simp)]
  case c2 => intro u hu; simp [Lib.byteCells] at hu; obtain ⟨x, _, rfl⟩ := hu; rfl
  case c3 => unfold maxLen; omega
  case c4 => omega
  case c5 => omega
  intro v' w2 hown' hgrow _ hat
  have hne : some m ≠ v.ownBlock := by
    intro e
    have := (hown.lt m e.symm).1
    omega
  have hb2 : w2.heap[m]? = some (.cells #[mv, .int .i64 deep, .pointer (some ⟨s, 0, none⟩), .pointer (some ⟨m, 3, none⟩), v] 69 (0, 0)) := by
    rw [hgrow.block m hlt hne]
    exact hbk
  have d0 : w2.cell? ⟨m, 3, none⟩ = some (.pointer (some ⟨m, 3, none⟩)) := by rw [cell_of 3 hb2]; rfl
  have d1 : w2.cell? ⟨m, 4, none⟩ = some v := by rw [cell_of 4 hb2]; rfl
  have f1 : w2.frozen? ⟨m, 4, none⟩ = false := free_of 4 hb2
  have hF2 : MkF m v.ownBlock w w2 := ⟨hgrow.os.trans hf1.os, hgrow.tape.trans hf1.tape, hgrow.output.trans hf1.output, Nat.le_trans hs1 hgrow.size, fun k hk hkb hko => by
    rw [hgrow.block k (by omega) hko]
    exact hf1.block k hk hkb (by simp)⟩
  have HAT : Hid (v'.ownBlock = v.ownBlock ∨ ∃ g, v'.ownBlock = some g ∧ w.heap.size ≤ g) := Lib.hid (by
    rcases hat with h9 | h9
    · exact .inl h9
    · exact .inr ⟨_, h9, hs1⟩)
  obtain ⟨ao, n', cap, rfl⟩ : ∃ ao n' cap, v' = .slice ao n' cap := by
    rcases hown'.2 with ⟨hv, _⟩ | ⟨g, cap, cur, hv, _⟩
    · exact ⟨_, _, _, hv⟩
    · exact ⟨_, _, _, hv⟩
  have HF2 := Lib.hid hF2
  have HO := Lib.hid hown'
  clear hF2 hown' hgrow hown h hf1 hbk hat
  go_wp2
  go_ret2
  refine ⟨rfl, _, Or.inr ⟨by rw [hp_set hb2]; rfl, ?_⟩, HF2.out.set 4 _, HAT.out⟩
  have ho2 := HO.out
  rw [HSN.out, ← HN.out] at ho2
  rw [List.length_append]
  refine ho2.kept (row := some m) ((gr_refl w2 (some m)).setCell 4 _) (Or.inr ?_)
  intro e
  have := (ho2.lt m e).1
  omega
end Go.Proofs.YtfemfgkcgboopaaGreatDoor
/- The maker's run, plain. -/
namespace Go.Proofs.YtfemfgkcgboopaaGreatDoor
open Go.ChangeShapes Go.WideShapes Go.ChangeAt Go.RowKit
set_option linter.unusedVariables false
/-- The first entity of a name. -/
def fndE (l : List EntT) (s : List UInt8) : Option EntT := l.find? (fun x => decide (x.nm = s))
/-- What a reference gives: the error, the place behind, what is put out then, the text that is gone over next. k: how many texts are open. -/
def refS (l : List EntT) (deep : Int) (k : Nat) (b : List UInt8) (t : Nat) (o : List UInt8) : Nat × Nat × List UInt8 × Option (List UInt8) :=
  if (b.drop t).take 2 = [38, 35] then
    if (charOut b t).2.2 ≠ 0 then ((charOut b t).2.2, t, o, none) else (0, (charOut b t).2.1, o ++ encL (charOut b t).1.toNat, none)
  else if (refOut 38 b t).2.2 ≠ 0 then ((refOut 38 b t).2.2, t, o, none)
  else if 0 < knownOf ⟨(refOut 38 b t).1.toArray⟩ then (0, (refOut 38 b t).2.1, o ++ [UInt8.ofNat (knownOf ⟨(refOut 38 b t).1.toArray⟩)], none)
  else
    match fndE l (refOut 38 b t).1 with
    | none => (7, t, o, none)
    | some x => if x.out = true then (7, t, o, none) else if deep < (k : Int) then (11, t, o, none) else (0, (refOut 38 b t).2.1, o, some x.tx)
/-- The maker's run over the texts that are open (the top first), what was put out so far; with fuel. It says nothing where too much is open or put out. -/
def runL (l : List EntT) (deep : Int) : Nat → List (List UInt8 × Nat) → List UInt8 → Option (List UInt8 × Nat)
  | 0, _, _ => none
  | _ + 1, [], o => some (o, 0)
  | f + 1, (b, t) :: r, o =>
    if 1000000 < o.length ∨ 1000 < r.length then none
    else match b[t]? with
    | none => runL l deep f r o
    | some c =>
      if c = 60 then some (o, 7)
      else if c = 38 then
        if (refS l deep (r.length + 1) b t o).1 ≠ 0 then some (o, (refS l deep (r.length + 1) b t o).1)
        else runL l deep f ((match (refS l deep (r.length + 1) b t o).2.2.2 with | none => [] | some x => [(x, 0)]) ++ (b, (refS l deep (r.length + 1) b t o).2.1) :: r) (refS l deep (r.length + 1) b t o).2.2.1
      else runL l deep f ((b, t + 1) :: r) (o ++ [if isBl c then 32 else c])
/-- What is put out of one text, texts of entities within; with fuel. p: how much was put out ahead of it. -/
def overL (l : List EntT) (deep : Int) : Nat → Nat → Nat → List UInt8 → Nat → List UInt8 → Option (List UInt8 × Nat)
  | 0, _, _, _, _, _ => none
  | f + 1, p, wi, b, t, o =>
    if 1000000 < p + o.length ∨ 1000 < wi then none
    else match b[t]? with
    | none => some (o, 0)
    | some c =>
      if c = 60 then some ([], 7)
      else if c = 38 then
        if (refS l deep (wi + 1) b t o).1 ≠ 0 then some ([], (refS l deep (wi + 1) b t o).1)
        else match (refS l deep (wi + 1) b t o).2.2.2 with
          | none => overL l deep f p wi b (refS l deep (wi + 1) b t o).2.1 (refS l deep (wi + 1) b t o).2.2.1
          | some x => match overL l deep f (p + o.length) (wi + 1) x 0 [] with
            | none => none
            | some (u, e) => if e ≠ 0 then some ([], e) else overL l deep f p wi b (refS l deep (wi + 1) b t o).2.1 (o ++ u)
      else overL l deep f p wi b (t + 1) (o ++ [if isBl c then 32 else c])
/-- What a reference gives does not hang on what was put out. -/
theorem refS_app (l : List EntT) (deep : Int) (k : Nat) (b : List UInt8) (t : Nat) (p o : List UInt8) : refS l deep k b t (p ++ o) = ((refS l deep k b t o).1, (refS l deep k b t o).2.1, p ++ (refS l deep k b t o).2.2.1, (refS l deep k b t o).2.2.2) := by
  unfold refS
  split
  · split <;> simp
  · split
    · rfl
    · split
      · simp
      · split
        · rfl
        · split
          · rfl
          · split <;> rfl
theorem refS_out {l : List EntT} {deep : Int} {k : Nat} {b : List UInt8} {t : Nat} {o x : List UInt8} (h : (refS l deep k b t o).2.2.2 = some x) : (refS l deep k b t o).2.2.1 = o ∧ (refS l deep k b t o).2.1 = (refOut 38 b t).2.1 ∧ (refOut 38 b t).2.2 = 0 ∧ ∃ y, fndE l (refOut 38 b t).1 = some y ∧ y.out = false ∧ y.tx = x := by
  unfold refS at h ⊢
  split at h
  · split at h <;> cases h
  · rename_i h1
    split at h
    · cases h
    · rename_i h2
      split at h
      · cases h
      · rename_i h3
        rw [if_neg h1, if_neg h2, if_neg h3]
        split at h
        · cases h
        · rename_i y hy
          split at h
          · cases h
          · rename_i h4
            split at h
            · cases h
            · rename_i h5
              simp only [Option.some.injEq] at h
              rw [if_neg h4, if_neg h5]
              exact ⟨rfl, rfl, by simpa using h2, y, hy, by simpa using h4, h⟩
/-- What is put out of one text is what the run puts out of it. -/
theorem over_run (l : List EntT) (deep : Int) : ∀ (f p wi : Nat) (b : List UInt8) (t : Nat) (o o2 : List UInt8) (e : Nat), overL l deep f p wi b t o = some (o2, e) → ∀ (r : List (List UInt8 × Nat)) (P : List UInt8), r.length = wi → P.length = p →
    (e = 0 → ∃ n, ∀ k, runL l deep (n + k) ((b, t) :: r) (P ++ o) = runL l deep k r (P ++ o2)) ∧ (e ≠ 0 → ∃ n o', runL l deep n ((b, t) :: r) (P ++ o) = some (o', e)) := by
  intro f
  induction f with
  | zero => intro p wi b t o o2 e h; cases h
  | succ f ih =>
    intro p wi b t o o2 e h r P hr hP
    have hrun : ∀ n, runL l deep (n + 1) ((b, t) :: r) (P ++ o) = if 1000000 < (P ++ o).length ∨ 1000 < r.length then none else match b[t]? with
        | none => runL l deep n r (P ++ o)
        | some c => if c = 60 then some (P ++ o, 7) else if c = 38 then
            if (refS l deep (r.length + 1) b t (P ++ o)).1 ≠ 0 then some (P ++ o, (refS l deep (r.length + 1) b t (P ++ o)).1)
            else runL l deep n ((match (refS l deep (r.length + 1) b t (P ++ o)).2.2.2 with | none => [] | some x => [(x, 0)]) ++ (b, (refS l deep (r.length + 1) b t (P ++ o)).2.1) :: r) (refS l deep (r.length + 1) b t (P ++ o)).2.2.1
          else runL l deep n ((b, t + 1) :: r) ((P ++ o) ++ [if isBl c then 32 else c]) := fun n => rfl
    have hle : (P ++ o).length = p + o.length := by rw [List.length_append, hP]
    rw [overL] at h
    by_cases hb : 1000000 < p + o.length ∨ 1000 < wi
    · rw [if_pos hb] at h; cases h
    · rw [if_neg hb] at h
      have hb2 : ¬ (1000000 < (P ++ o).length ∨ 1000 < r.length) := by rw [hle, hr]; exact hb
      simp only [if_neg hb2] at hrun
      cases hc : b[t]? with
      | none =>
        simp only [hc] at h hrun
        cases h
        exact ⟨fun _ => ⟨1, fun k => by rw [Nat.add_comm]; exact hrun k⟩, fun h => absurd rfl h⟩
      | some c =>
        simp only [hc] at h hrun
        by_cases h60 : c = 60
        · simp only [if_pos h60] at h hrun
          cases h
          exact ⟨(fun h => by cases h), fun _ => ⟨1, _, hrun 0⟩⟩
        · simp only [if_neg h60] at h hrun
          by_cases h38 : c = 38
          · simp only [if_pos h38] at h hrun
            rw [refS_app, hr] at hrun
            try simp only at hrun
            by_cases he : (refS l deep (wi + 1) b t o).1 ≠ 0
            · simp only [if_pos he] at h hrun
              cases h
              exact ⟨fun h => absurd h he, fun _ => ⟨1, _, hrun 0⟩⟩
            · simp only [if_neg he] at h hrun
              cases hx : (refS l deep (wi + 1) b t o).2.2.2 with
              | none =>
                simp only [hx, List.nil_append] at h hrun
                have h2 := ih _ _ _ _ _ _ _ h r P hr hP
                refine ⟨fun h0 => ?_, fun h0 => ?_⟩
                · obtain ⟨n, hn⟩ := h2.1 h0
                  exact ⟨n + 1, fun k => by rw [show n + 1 + k = (n + k) + 1 by omega, hrun, hn]⟩
                · obtain ⟨n, o', hn⟩ := h2.2 h0
                  exact ⟨n + 1, o', by rw [hrun, hn]⟩
              | some x =>
                have hxo := (refS_out hx).1
                simp only [hx, List.cons_append, List.nil_append, hxo] at h hrun
                cases hi : overL l deep f (p + o.length) (wi + 1) x 0 [] with
                | none => rw [hi] at h; cases h
                | some ue =>
                  obtain ⟨u, e1⟩ := ue
                  rw [hi] at h
                  simp only at h
                  have h1 := ih _ _ _ _ _ _ _ hi ((b, (refS l deep (wi + 1) b t o).2.1) :: r) (P ++ o) (by simp [hr]) hle
                  simp only [List.append_nil] at h1
                  by_cases he1 : e1 ≠ 0
                  · rw [if_pos he1] at h
                    cases h
                    obtain ⟨n, o', hn⟩ := h1.2 he1
                    exact ⟨fun h0 => absurd h0 he1, fun _ => ⟨n + 1, o', by rw [hrun, hn]⟩⟩
                  · rw [if_neg he1] at h
                    obtain ⟨n1, hn1⟩ := h1.1 (by omega)
                    have h2 := ih _ _ _ _ _ _ _ h r P hr hP
                    refine ⟨fun h0 => ?_, fun h0 => ?_⟩
                    · obtain ⟨n, hn⟩ := h2.1 h0
                      exact ⟨n1 + n + 1, fun k => by rw [show n1 + n + 1 + k = (n1 + (n + k)) + 1 by omega, hrun, hn1, List.append_assoc, hn]⟩
                    · obtain ⟨n, o', hn⟩ := h2.2 h0
                      exact ⟨n1 + n + 1, o', by rw [hrun, hn1, List.append_assoc, hn]⟩
          · simp only [if_neg h38] at h hrun
            have h2 := ih _ _ _ _ _ _ _ h r P hr hP
            refine ⟨fun h0 => ?_, fun h0 => ?_⟩
            · obtain ⟨n, hn⟩ := h2.1 h0
              exact ⟨n + 1, fun k => by rw [show n + 1 + k = (n + k) + 1 by omega, hrun, List.append_assoc, hn]⟩
            · obtain ⟨n, o', hn⟩ := h2.2 h0
              exact ⟨n + 1, o', by rw [hrun, List.append_assoc, hn]⟩
/-- A whole text: what the run gives. -/
theorem over_all {l : List EntT} {deep : Int} {f : Nat} {b o2 : List UInt8} {e : Nat} (h : overL l deep f 0 0 b 0 [] = some (o2, e)) : ∃ n o', runL l deep n [(b, 0)] [] = some (o', e) ∧ (e = 0 → o' = o2) := by
  have h1 := over_run l deep f 0 0 b 0 [] o2 e h [] [] rfl rfl
  by_cases he : e = 0
  · obtain ⟨n, hn⟩ := h1.1 he
    exact ⟨n + 1, o2, by rw [show ([] : List UInt8) = [] ++ [] by rfl, hn 1, he]; rfl, fun _ => rfl⟩
  · obtain ⟨n, o', hn⟩ := h1.2 he
    exact ⟨n, o', hn, fun h => absurd h he⟩
/-- An escaped text is put out as it was. -/
theorem over_esc (l : List EntT) (deep : Int) (v : List UInt8) (hv : v.length ≤ 1000000) : ∀ (m k : Nat), v.length - k ≤ m → k ≤ v.length → overL l deep (m + 1) 0 0 (esc v) (esc (v.take k)).length (v.take k) = some (v, 0) := by
  intro m
  induction m with
  | zero =>
    intro k h1 h2
    have hk : k = v.length := by omega
    subst hk
    rw [List.take_length, overL, if_neg (by omega), List.getElem?_eq_none (Nat.le_refl _)]
  | succ m ih =>
    intro k h1 h2
    by_cases hk : k < v.length
    · have hd := esc_drop v k hk
      have hc : v[k]? = some (v.getD k 0) := by rw [List.getD_eq_getElem?_getD, List.getElem?_eq_getElem hk]; rfl
      have ht : v.take (k + 1) = v.take k ++ [v.getD k 0] := by rw [List.take_add_one, hc]; rfl
      have hn : (esc (v.take (k + 1))).length = (esc (v.take k)).length + (escB (v.getD k 0)).length := by rw [ht, esc_snoc, List.length_append]
      have hih := ih (k + 1) (by omega) (by omega)
      rw [hn, ht] at hih
      have ha := escAt_of _ _ _ _ hd
      generalize v.getD k 0 = c at *
      have hlt : (v.take k).length ≤ 1000000 := by rw [List.length_take]; omega
      rw [overL, if_neg (by omega)]
      unfold escAt at ha
      rcases ha with ⟨g0, g1, hh⟩ | ⟨g0, g1, g2, g3, g4, g5, g6, g7, g8, g9⟩
      · rw [g0]
        simp only
        rw [if_neg (by decide), if_pos trivial]
        have htk : ∀ d, (esc v)[(esc (v.take k)).length + 1]? = d → (((esc v).drop (esc (v.take k)).length).take 2 = [38, 35] ↔ d = some 35) := fun d hd2 => by
          have e0 : ((esc v).drop (esc (v.take k)).length)[0]? = some 38 := by rw [List.getElem?_drop]; exact g0
          have e1 : ((esc v).drop (esc (v.take k)).length)[1]? = d := by rw [List.getElem?_drop]; exact hd2
          generalize (esc v).drop (esc (v.take k)).length = z at *
          match z, e0, e1 with
          | [a], e0, e1 => simp at e0 e1; subst e1; simp
          | a :: b :: z, e0, e1 => simp at e0 e1; subst e0; subst e1; simp
        rcases hh with ⟨ns, h3, h4, h5, h6⟩ | ⟨h3, h4, h5⟩
        · have hr : refS l deep (0 + 1) (esc v) (esc (v.take k)).length (v.take k) = (0, (esc (v.take k)).length + (escB c).length, v.take k ++ [c], none) := by
            unfold refS
            rw [if_neg (fun h => h6 ((htk _ rfl).1 h)), h3]
            simp only
            have h7 : 0 < knownOf ⟨ns.toArray⟩ := by
              have : knownOf ⟨ns.toArray⟩ = c.toNat := by omega
              rw [this]
              rcases Nat.eq_zero_or_pos c.toNat with h | h
              · exfalso
                have : c = 0 := by apply UInt8.toNat_inj.1; exact h
                subst this
                exact g1 (by decide)
              · exact h
            rw [if_neg (by simp), if_pos h7, show knownOf ⟨ns.toArray⟩ = c.toNat by omega]
            simp
          rw [hr]
          simp only
          rw [if_neg (by simp)]
          exact hih
        · have hr : refS l deep (0 + 1) (esc v) (esc (v.take k)).length (v.take k) = (0, (esc (v.take k)).length + (escB c).length, v.take k ++ [c], none) := by
            unfold refS
            rw [if_pos ((htk _ rfl).2 h5), h4]
            simp only
            have h128 : c.toNat < 128 := by
              rcases Nat.lt_or_ge c.toNat 128 with h | h
              · exact h
              · exfalso
                apply g1
                have hne : ∀ d : UInt8, d.toNat < 128 → ¬ c = d := fun d hd e => by subst e; omega
                unfold escB
                rw [if_neg (hne _ (by decide)), if_neg (hne _ (by decide)), if_neg (hne _ (by decide)), if_neg (hne _ (by decide)), if_neg (hne _ (by decide)), if_neg (hne _ (by decide)), if_neg (hne _ (by decide))]
            rw [if_neg (by simp), Int.toNat_natCast, encL_1 _ h128]
            simp
          rw [hr]
          simp only
          rw [if_neg (by simp)]
          exact hih
      · rw [g0]
        simp only
        rw [if_neg g2, if_neg g1]
        have hbl : (if isBl c then (32 : UInt8) else c) = c := by
          by_cases h : isBl c = true
          · rw [if_pos h]
            unfold isBl isBlank at h
            simp only [Bool.or_eq_true, beq_iff_eq] at h
            have : c.toNat = 32 := by
              have h13 : c.toNat ≠ 13 := fun e => g4 (by apply UInt8.toNat_inj.1; exact e)
              have h10 : c.toNat ≠ 10 := fun e => g5 (by apply UInt8.toNat_inj.1; exact e)
              have h9 : c.toNat ≠ 9 := fun e => g6 (by apply UInt8.toNat_inj.1; exact e)
              omega
            apply UInt8.toNat_inj.1
            exact this.symm
          · rw [if_neg h]
        rw [hbl]
        rw [g8] at hih
        exact hih
    · have hk2 : k = v.length := by omega
      subst hk2
      rw [List.take_length, overL, if_neg (by omega), List.getElem?_eq_none (Nat.le_refl _)]
theorem over_escaped (l : List EntT) (deep : Int) (v : List UInt8) (hv : v.length ≤ 1000000) : ∃ f, overL l deep f 0 0 (esc v) 0 [] = some (v, 0) :=
  ⟨_, over_esc l deep v hv v.length 0 (by omega) (Nat.zero_le _)⟩
end Go.Proofs.YtfemfgkcgboopaaGreatDoor
