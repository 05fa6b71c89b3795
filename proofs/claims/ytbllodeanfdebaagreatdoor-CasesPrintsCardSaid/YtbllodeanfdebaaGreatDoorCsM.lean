/- The first line: its words, the pointers, the numbers. -/
import Derived.Test.YtbllodeanfdebaaGreatDoorRows
import Derived.WalkKit
import Derived.ProofKit
import Derived.OpenShut
import Derived.ShutString
import Derived.ChangeOld
import Derived.Below
import Derived.BigQuiet
import Derived.Deep.QuietTactic
import Derived.Lib.Hide
import Derived.Deep.RegionHeld3
import Derived.Lib.SlBytesConst
import Derived.Laws.CopyOwn
import Derived.Laws.CopyRow
import Derived.Lib.Bytes
import Derived.Deep.LoopGhost
import Derived.Deep.DeepFit
import Derived.Deep.DeepMust
import Derived.WalkSpells
import Derived.WalkLawsBesides
import Derived.Laws.EntriesVeiled
import Derived.Laws.Rows
import Derived.Lib.Replace
import Derived.Lib.Split
import Derived.Lib.ItoaNum
import Derived.Lib.AtoiAllCases
import Derived.Lib.AtoiErrMem
import Derived.Lib.AppendIntMem
import Derived.Test.YtbllodeanfdebaaGreatDoorShelf
import Derived.Test.YtbllodeanfdebaaGreatDoorBase
import Derived.Test.YtbllodeanfdebaaGreatDoorCsE
import Derived.Test.YtbllodeanfdebaaGreatDoorCsG
import Derived.Test.YtbllodeanfdebaaGreatDoorCsH
import Derived.Test.YtbllodeanfdebaaGreatDoorCsI
import Derived.Test.YtbllodeanfdebaaGreatDoorCsJ
import Derived.Test.YtbllodeanfdebaaGreatDoorCalm
import Derived.Test.YtbllodeanfdebaaGreatDoorCsL
import Derived.Test.YtbllodeanfdebaaGreatDoorRowS
namespace Go.Proofs.YtbllodeanfdebaaGreatDoor
open Go.ChangeShapes Go.WideShapes Go.ChangeAt Go.RowKit
set_option linter.unusedVariables false
theorem str_dataC (x : ByteArray) : (⟨x.data.toList.toArray⟩ : ByteArray) = x := by cases x; simp
theorem split_c (s : List UInt8) (w : World) (hs : s.length ≤ 1000000) (hm : ∃ m : Int, w.cell? ⟨2, 0, none⟩ = some (.int .i64 m)) :
    Calls Tryz.prog 45 #[.string ⟨s.toArray⟩, .string ⟨#[32]⟩] w fun e w' => e = .returned (.slice (some ⟨w.heap.size, 0, none⟩) (wordsP s).length (wordsP s).length) ∧ w' = w.alloc (.cells ((wordsP s).map strV).toArray 9) := by
  obtain ⟨m, hm⟩ := hm
  have key : (Lib.splitB ⟨#[32]⟩ 0 (Lib.countB ⟨s.toArray⟩ ⟨#[32]⟩) ⟨s.toArray⟩).map (·.data.toList) = wordsP s := by
    rw [Lib.splitB_data]
    exact split_words s
  have hlen : Lib.countB ⟨s.toArray⟩ ⟨#[32]⟩ + 1 = (wordsP s).length := by
    rw [← key, List.length_map, Lib.splitB_all ⟨#[32]⟩ (by decide) 0 _ _ rfl]
  have hmap : (Lib.splitB ⟨#[32]⟩ 0 (Lib.countB ⟨s.toArray⟩ ⟨#[32]⟩) ⟨s.toArray⟩).map Value.string = (wordsP s).map strV := by
    rw [← key, List.map_map]
    refine List.map_congr_left fun x _ => ?_
    show Value.string x = Value.string ⟨x.data.toList.toArray⟩
    rw [str_dataC]
  refine (Tryz.strings_Split ⟨s.toArray⟩ ⟨#[32]⟩ m w (by show s.toArray.size < _; simp; omega) hm (by decide)).mono fun e w' ⟨he, hw⟩ => ?_
  rw [hlen] at he
  rw [hmap] at hw
  exact ⟨he, hw⟩
/-- Two blocks apart, all stands as it was. -/
structure Kp2 (a b : Nat) (w w' : World) : Prop where
  os : w'.os = w.os
  tape : w'.tape = w.tape
  output : w'.output = w.output
  size : w.heap.size ≤ w'.heap.size
  block : ∀ k, k < w.heap.size → k ≠ a → k ≠ b → w'.heap[k]? = w.heap[k]?
theorem Kp2.trans {a b : Nat} {u v w : World} (h : Kp2 a b u v) (k : Kp2 a b v w) : Kp2 a b u w :=
  ⟨k.os.trans h.os, k.tape.trans h.tape, k.output.trans h.output, Nat.le_trans h.size k.size, fun i hi h1 h2 => (k.block i (Nat.lt_of_lt_of_le hi h.size) h1 h2).trans (h.block i hi h1 h2)⟩
theorem Kp2.of1 {a b : Nat} {w w' : World} (h : w.grownBy w' (some a)) : Kp2 a b w w' := ⟨h.os, h.tape, h.output, h.size, fun k hk h1 _ => h.block k hk fun e => h1 (Option.some.inj e)⟩
theorem Kp2.of2 {a b : Nat} {w w' : World} (h : w.grownBy w' (some b)) : Kp2 a b w w' := ⟨h.os, h.tape, h.output, h.size, fun k hk _ h1 => h.block k hk fun e => h1 (Option.some.inj e)⟩
theorem Kp2.ofB {a b : Nat} {w w' : World} (h : Below w.heap.size w w') : Kp2 a b w w' := .of1 (h.gr _)
theorem Kp2.below {a b B : Nat} {w w' : World} (h : Kp2 a b w w') (ha : B ≤ a) (hb : B ≤ b) (hB : B ≤ w.heap.size) : Below B w w' := ⟨h.os, h.tape, h.output, h.size, fun k hk => h.block k (by omega) (by omega) (by omega)⟩
theorem WC.kp {B a b : Nat} {w w' : World} (h : WC B w) (ha : B ≤ a) (hb : B ≤ b) (hk : Kp2 a b w w') : WC B w' := h.below (hk.below ha hb h.size)
/-- A case's cells where only its numbers are known. -/
def limV (l : List Nat) : Array Value := #[.slice none 0 0, .int .i64 (l.getD 0 0 : Nat), .int .i64 (l.getD 1 0 : Nat), .int .i64 (l.getD 2 0 : Nat), .int .i64 (l.getD 3 0 : Nat), .int .i64 (l.getD 4 0 : Nat), .int .i64 (l.getD 5 0 : Nat), .slice none 0 0, .slice none 0 0]
theorem limV_set (l : List Nat) (k n : Nat) (hk : k < 6) (h6 : l.length = 6) (hn : l[k]? = some n) : (limV (l.take k)).setIfInBounds (1 + k) (.int .i64 (n : Int)) = limV (l.take (k + 1)) := by
  match l, h6 with
  | [a, b, c, d, e, f], _ =>
    rcases (show k = 0 ∨ k = 1 ∨ k = 2 ∨ k = 3 ∨ k = 4 ∨ k = 5 by omega) with rfl | rfl | rfl | rfl | rfl | rfl
    all_goals
      simp at hn
      subst hn
      rfl
theorem ptrs_get (cb k : Nat) (hk : k < 6) : (ptrsV cb 1)[k]? = some (.pointer (some ⟨cb, 1 + k, none⟩)) := by
  rcases (show k = 0 ∨ k = 1 ∨ k = 2 ∨ k = 3 ∨ k = 4 ∨ k = 5 by omega) with rfl | rfl | rfl | rfl | rfl | rfl
  all_goals rfl
theorem mapM_get (num : List UInt8 → Option Nat) : ∀ (ws : List (List UInt8)) (ns : List Nat), ws.mapM num = some ns → ∀ (k : Nat) x, ws[k]? = some x → ∃ n, num x = some n ∧ ns[k]? = some n
  | [], ns, _, k, x, hx => by simp at hx
  | w :: ws, ns, e, k, x, hx => by
    rw [List.mapM_cons] at e
    cases hw : num w with
    | none => rw [hw] at e; cases e
    | some n =>
      cases hm : ws.mapM num with
      | none => rw [hw, hm] at e; cases e
      | some ms =>
        rw [hw, hm] at e
        cases e
        cases k with
        | zero =>
          simp at hx
          subst hx
          exact ⟨n, hw, rfl⟩
        | succ k => exact mapM_get num ws ms hm k x (by simpa using hx)
theorem mapM_first (num : List UInt8 → Option Nat) : ∀ (ws : List (List UInt8)), ws.mapM num = none → ∃ (k : Nat) (x : List UInt8), ws[k]? = some x ∧ num x = none ∧ ∀ j < k, ∀ y, ws[j]? = some y → ∃ n, num y = some n
  | [], e => by cases e
  | w :: ws, e => by
    rw [List.mapM_cons] at e
    cases hw : num w with
    | none => exact ⟨0, w, rfl, hw, fun j hj => absurd hj (by omega)⟩
    | some n =>
      cases hm : ws.mapM num with
      | none =>
        obtain ⟨k, x, h1, h2, h3⟩ := mapM_first num ws hm
        refine ⟨k + 1, x, by simpa using h1, h2, fun j hj y hy => ?_⟩
        cases j with
        | zero =>
          simp at hy
          subst hy
          exact ⟨n, hw⟩
        | succ j => exact h3 j (by omega) y (by simpa using hy)
      | some ms => rw [hw, hm] at e; cases e
/-- The reading of the numbers, at a round: the reader, the numbers read so far, the words, the pointers. -/
structure LmJ (B lb cb wb pb : Nat) (r : List UInt8) (t : Nat) (ws : List (List UInt8)) (l : List Nat) (w W : World) : Prop where
  ln : LnAt W lb r t
  cs : W.heap[cb]? = some (.cells (limV l) 29)
  wd : W.heap[wb]? = some (.cells (ws.map strV).toArray 9)
  pt : W.heap[pb]? = some (.cells (ptrsV cb 1) 88)
  kp : Kp2 lb cb w W
  wc : WC B W
theorem LmJ.kept {B lb cb wb pb : Nat} {r : List UInt8} {t : Nat} {ws : List (List UInt8)} {l : List Nat} {w W W' : World} (h : LmJ B lb cb wb pb r t ws l w W) (hb : Below W.heap.size W W') : LmJ B lb cb wb pb r t ws l w W' :=
  ⟨h.ln.below hb, (hb.block _ (lt_of h.cs)).trans h.cs, (hb.block _ (lt_of h.wd)).trans h.wd, (hb.block _ (lt_of h.pt)).trans h.pt, h.kp.trans (.ofB hb), h.wc.up hb⟩
theorem LmJ.put {B lb cb wb pb : Nat} {r : List UInt8} {t : Nat} {ws : List (List UInt8)} {l : List Nat} {w W : World} {k n : Nat} (h : LmJ B lb cb wb pb r t ws (l.take k) w W) (hne : lb ≠ cb) (hw : wb ≠ cb) (hp : pb ≠ cb) (hB : B ≤ cb) (hk : k < 6) (h6 : l.length = 6) (hn : l[k]? = some n) : LmJ B lb cb wb pb r t ws (l.take (k + 1)) w (W.setCell ⟨cb, 1 + k, none⟩ (.int .i64 (n : Int))) :=
  ⟨(hp_other hne).trans h.ln, by rw [← limV_set l k n hk h6 hn]; exact hp_set h.cs, (hp_other hw).trans h.wd, (hp_other hp).trans h.pt, h.kp.trans (.of2 ((gr_refl W (some cb)).setCell _ _)), h.wc.gr hB ((gr_refl W (some cb)).setCell _ _)⟩
end Go.Proofs.YtbllodeanfdebaaGreatDoor
