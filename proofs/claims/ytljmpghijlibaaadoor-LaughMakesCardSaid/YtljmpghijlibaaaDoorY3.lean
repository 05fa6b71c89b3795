/- Several texts of ours in one: LitP, CChar, CChar2, Lit1, RefC, Build, Esc, Lit2, Lit3, Lit4, Lit5. -/
import Derived.Test.YtljmpghijlibaaaDoorRows
import Derived.WalkKit
import Derived.ProofKit
import Derived.OpenShut
import Derived.ShutString
import Derived.ChangeOld
import Derived.Below
import Derived.BigQuiet
import Derived.Deep.QuietTactic
import Derived.Lib.Hide
import Derived.Deep.RegionHeld3
import Derived.Lib.SlBytesConst
import Derived.Laws.CopyOwn
import Derived.Laws.CopyRow
import Derived.Lib.Bytes
import Derived.Deep.LoopGhost
import Derived.Deep.DeepFit
import Derived.Deep.DeepMust
import Derived.WalkSpells
import Derived.WalkLawsBesides
import Derived.Laws.EntriesVeiled
import Derived.Laws.Rows
import Derived.Lib.Builder
import Derived.Lib.AppendStr
import Derived.Lib.UnsafeStr
import Derived.Laws.Externs
import Derived.Lib.ConvBytes
import Derived.Lib.AtoiErrMem
import Derived.Test.YtljmpghijlibaaaDoorBase
import Derived.Test.YtljmpghijlibaaaDoorShelf
import Derived.Test.YtljmpghijlibaaaDoorCharPlain
import Derived.Test.YtljmpghijlibaaaDoorUtf1
import Derived.Test.YtljmpghijlibaaaDoorUtf2
import Derived.Test.YtljmpghijlibaaaDoorUtf3
import Derived.Test.YtljmpghijlibaaaDoorChars1
import Derived.Test.YtljmpghijlibaaaDoorName1
import Derived.Test.YtljmpghijlibaaaDoorName2
import Derived.Test.YtljmpghijlibaaaDoorName3
import Derived.Test.YtljmpghijlibaaaDoorCref1
import Derived.Test.YtljmpghijlibaaaDoorY2
import Derived.Test.YtljmpghijlibaaaDoorRef1
import Derived.Test.YtljmpghijlibaaaDoorPfx
import Derived.Test.YtljmpghijlibaaaDoorShelf2
import Derived.Test.YtljmpghijlibaaaDoorStr
namespace Go.Proofs.YtljmpghijlibaaaDoor
open Go.ChangeShapes Go.WideShapes Go.ChangeAt Go.RowKit
set_option linter.unusedVariables false
theorem ix_lo (c : UInt8) : ∀ r : List UInt8, -1 ≤ Lib.indexByte r c ∧ Lib.indexByte r c < r.length
  | [] => by simp [Lib.indexByte]
  | x :: r => by
    have := ix_lo c r
    simp only [Lib.indexByte, List.length_cons]
    split
    · omega
    · split <;> omega
theorem ix_at (c : UInt8) : ∀ r : List UInt8, 0 ≤ Lib.indexByte r c → r[(Lib.indexByte r c).toNat]? = some c ∧ ∀ j : Nat, (j : Int) < Lib.indexByte r c → r[j]? ≠ some c
  | [], h => by simp [Lib.indexByte] at h
  | x :: r, h => by
    by_cases hx : x = c
    · subst hx
      simp [Lib.indexByte]
      intro j hj; omega
    · have e : Lib.indexByte (x :: r) c = if Lib.indexByte r c == -1 then -1 else Lib.indexByte r c + 1 := by simp [Lib.indexByte, hx]
      rw [e] at h ⊢
      split at h
      · omega
      · rename_i h1
        rw [if_neg h1] at *
        have hlo := (ix_lo c r).1
        have h2 : 0 ≤ Lib.indexByte r c := by
          have : ¬ Lib.indexByte r c = -1 := by simpa using h1
          omega
        obtain ⟨a, b⟩ := ix_at c r h2
        refine ⟨?_, ?_⟩
        · rw [show (Lib.indexByte r c + 1).toNat = (Lib.indexByte r c).toNat + 1 by omega]
          simpa using a
        · intro j hj
          cases j with
          | zero => simpa using hx
          | succ j => simpa using b j (by omega)
theorem ix_none (c : UInt8) : ∀ r : List UInt8, Lib.indexByte r c < 0 → ∀ j : Nat, r[j]? ≠ some c
  | [], _ => by simp
  | x :: r, h => by
    by_cases hx : x = c
    · subst hx; simp [Lib.indexByte] at h
    · have e : Lib.indexByte (x :: r) c = if Lib.indexByte r c == -1 then -1 else Lib.indexByte r c + 1 := by simp [Lib.indexByte, hx]
      rw [e] at h
      have hlo := (ix_lo c r).1
      split at h
      · rename_i h1
        intro j
        cases j with
        | zero => simpa using hx
        | succ j => simpa using ix_none c r (by have : Lib.indexByte r c = -1 := by simpa using h1
                                                omega) j
      · rename_i h1
        have : ¬ Lib.indexByte r c = -1 := by simpa using h1
        omega
/-- The first place is the one that has the byte and none ahead of it. -/
theorem ix_eq (c : UInt8) (r : List UInt8) (j : Nat) (h : r[j]? = some c) (hn : ∀ i < j, r[i]? ≠ some c) : Lib.indexByte r c = j := by
  rcases Int.lt_or_le (Lib.indexByte r c) 0 with h0 | h0
  · exact absurd h (ix_none c r h0 j)
  · obtain ⟨a, b⟩ := ix_at c r h0
    rcases Nat.lt_trichotomy (Lib.indexByte r c).toNat j with h1 | h1 | h1
    · exact absurd a (hn _ h1)
    · omega
    · exact absurd h (b j (by omega))
theorem ix_eq_none (c : UInt8) (r : List UInt8) (hn : ∀ i : Nat, r[i]? ≠ some c) : Lib.indexByte r c = -1 := by
  rcases Int.lt_or_le (Lib.indexByte r c) 0 with h0 | h0
  · have := (ix_lo c r).1; omega
  · exact absurd (ix_at c r h0).1 (hn _)
/-- What stands between quotes at a place: the text, the place behind, the fault. -/
def quotedQ (q : UInt8) (l : List UInt8) (k : Nat) : List UInt8 × Nat × Nat :=
  if Lib.indexByte (l.drop (k + 1)) q < 0 then ([], 0, 7) else ((l.drop (k + 1)).take (Lib.indexByte (l.drop (k + 1)) q).toNat, k + (Lib.indexByte (l.drop (k + 1)) q).toNat + 2, 0)
def quotedOut (l : List UInt8) (k : Nat) : List UInt8 × Nat × Nat :=
  match l[k]? with
  | none => ([], 0, 7)
  | some q => if q = 34 ∨ q = 39 then quotedQ q l k else ([], 0, 7)
def quotedAt (l : List UInt8) (at_ : Int) : List UInt8 × Nat × Nat := if at_ < 0 ∨ (l.length : Int) < at_ then ([], 0, 3) else quotedOut l at_.toNat
/-- What is read at a mark: the place behind, the fault. -/
def markOut (l : List UInt8) (k : Nat) : Nat × Nat := if l[k + 1]? = some 35 then (charOut l k).2 else (refOut 38 l k).2
/-- The first place that begins no reference, and why; by fuel. -/
def refsF (l : List UInt8) : Nat → Nat → Nat × Nat
  | 0, _ => (0, 0)
  | f + 1, k => if l.length ≤ k then (0, 0) else if l[k]? ≠ some 38 then refsF l f (k + 1) else if (markOut l k).2 ≠ 0 then (k, (markOut l k).2) else refsF l f (markOut l k).1
def refsOut (l : List UInt8) : Nat × Nat := refsF l (l.length + 1) 0
theorem charOut_next (l : List UInt8) (k : Nat) (h : (charOut l k).2.2 = 0) : k < (charOut l k).2.1 ∧ (charOut l k).2.1 ≤ l.length := by
  unfold charOut charBody at *
  simp only at *
  have key : ∀ (b : Int) (o : Nat), l[o + (digs b (l.drop o)).length]? = some 59 → o + (digs b (l.drop o)).length + 1 ≤ l.length := by
    intro b o h
    rcases Nat.lt_or_ge (o + (digs b (l.drop o)).length) l.length with g | g
    · omega
    · rw [List.getElem?_eq_none g] at h; cases h
  by_cases h1 : l[k]? = some 38 ∧ l[k + 1]? = some 35
  · rw [if_pos h1] at h ⊢
    by_cases h2 : l[k + 2]? = some 120
    · rw [if_pos h2] at h ⊢
      by_cases h3 : (digs 16 (l.drop (k + 3))).length = 0 ∨ l[k + 3 + (digs 16 (l.drop (k + 3))).length]? ≠ some 59
      · rw [if_pos h3] at h; simp at h
      · rw [if_neg h3] at h ⊢
        have := key 16 (k + 3) (by simpa using (not_or.1 h3).2)
        by_cases h4 : isDoc (numC 16 2097152 (digs 16 (l.drop (k + 3)))) = true
        · rw [if_pos h4]; simp only; omega
        · rw [if_neg h4] at h; simp at h
    · rw [if_neg h2] at h ⊢
      by_cases h3 : (digs 10 (l.drop (k + 2))).length = 0 ∨ l[k + 2 + (digs 10 (l.drop (k + 2))).length]? ≠ some 59
      · rw [if_pos h3] at h; simp at h
      · rw [if_neg h3] at h ⊢
        have := key 10 (k + 2) (by simpa using (not_or.1 h3).2)
        by_cases h4 : isDoc (numC 10 2097152 (digs 10 (l.drop (k + 2)))) = true
        · rw [if_pos h4]; simp only; omega
        · rw [if_neg h4] at h; simp at h
  · rw [if_neg h1] at h; simp at h
theorem refOut_next (m : UInt8) (l : List UInt8) (k : Nat) (h : (refOut m l k).2.2 = 0) : k < (refOut m l k).2.1 ∧ (refOut m l k).2.1 ≤ l.length := by
  unfold refOut at *
  cases hc : l[k]? with
  | none => rw [hc] at h; simp at h
  | some c =>
    rw [hc] at h
    simp only at h ⊢
    have hk : k < l.length := by
      rcases Nat.lt_or_ge k l.length with g | g
      · exact g
      · rw [List.getElem?_eq_none g] at hc; cases hc
    by_cases h1 : c = m
    · rw [if_pos h1] at h ⊢
      by_cases h2 : (plainOut l (k + 1)).2.2 ≠ 0
      · rw [if_pos h2] at h; exact absurd h h2
      · rw [if_neg h2] at h ⊢
        have hp := plainOut_le l (k + 1) (by omega) (by simpa using h2)
        cases hd : l[(plainOut l (k + 1)).2.1]? with
        | none => rw [hd] at h; simp at h
        | some d =>
          rw [hd] at h
          simp only at h ⊢
          have hk2 : (plainOut l (k + 1)).2.1 < l.length := by
            rcases Nat.lt_or_ge (plainOut l (k + 1)).2.1 l.length with g | g
            · exact g
            · rw [List.getElem?_eq_none g] at hd; cases hd
          by_cases h3 : d = 59
          · rw [if_pos h3]; simp only; omega
          · rw [if_neg h3] at h; simp at h
    · rw [if_neg h1] at h; simp at h
theorem markOut_next (l : List UInt8) (k : Nat) (h : (markOut l k).2 = 0) : k < (markOut l k).1 ∧ (markOut l k).1 ≤ l.length := by
  unfold markOut at *
  by_cases h1 : l[k + 1]? = some 35
  · rw [if_pos h1] at h ⊢; exact charOut_next l k h
  · rw [if_neg h1] at h ⊢; exact refOut_next 38 l k h
theorem refsF_end (l : List UInt8) (f k : Nat) (h : l.length ≤ k) : refsF l f k = (0, 0) := by
  cases f with
  | zero => rfl
  | succ f => unfold refsF; rw [if_pos h]
theorem refsF_skip (l : List UInt8) (f k : Nat) (hk : k < l.length) (h : l[k]? ≠ some 38) : refsF l (f + 1) k = refsF l f (k + 1) := by
  conv => lhs; unfold refsF
  rw [if_neg (by omega), if_pos h]
/-- No more fuel than is needed. -/
theorem refsF_fuel (l : List UInt8) : ∀ (f g k : Nat), l.length + 1 ≤ f + k → l.length + 1 ≤ g + k → refsF l f k = refsF l g k := by
  intro f
  induction f with
  | zero => intro g k hf hg; rw [refsF_end l 0 k (by omega), refsF_end l g k (by omega)]
  | succ f ih =>
    intro g k hf hg
    cases g with
    | zero => rw [refsF_end l _ k (by omega), refsF_end l _ k (by omega)]
    | succ g =>
      unfold refsF
      by_cases h1 : l.length ≤ k
      · rw [if_pos h1, if_pos h1]
      · rw [if_neg h1, if_neg h1]
        by_cases h2 : l[k]? ≠ some 38
        · rw [if_pos h2, if_pos h2]; exact ih g (k + 1) (by omega) (by omega)
        · rw [if_neg h2, if_neg h2]
          by_cases h3 : (markOut l k).2 ≠ 0
          · rw [if_pos h3, if_pos h3]
          · rw [if_neg h3, if_neg h3]
            have := markOut_next l k (by simpa using h3)
            exact ih g _ (by omega) (by omega)
/-- What is told from a place on. -/
def refsFrom (l : List UInt8) (k : Nat) : Nat × Nat := refsF l (l.length + 1) k
theorem refsFrom_end (l : List UInt8) (k : Nat) (h : l.length ≤ k) : refsFrom l k = (0, 0) := refsF_end l _ k h
theorem refsFrom_skip (l : List UInt8) (k : Nat) (hk : k < l.length) (h : l[k]? ≠ some 38) : refsFrom l k = refsFrom l (k + 1) := by
  unfold refsFrom
  rw [refsF_skip l l.length k hk h]
  exact refsF_fuel l _ _ _ (by omega) (by omega)
theorem refsFrom_skips (l : List UInt8) (k n : Nat) (hk : k + n ≤ l.length) (h : ∀ j < n, l[k + j]? ≠ some 38) : refsFrom l k = refsFrom l (k + n) := by
  induction n with
  | zero => rfl
  | succ n ih =>
    rw [ih (by omega) fun j hj => h j (by omega), refsFrom_skip l (k + n) (by omega) (h n (by omega))]
    rfl
theorem refsFrom_bad (l : List UInt8) (k : Nat) (h : l[k]? = some 38) (hb : (markOut l k).2 ≠ 0) : refsFrom l k = (k, (markOut l k).2) := by
  have hk : k < l.length := by
    rcases Nat.lt_or_ge k l.length with g | g
    · exact g
    · rw [List.getElem?_eq_none g] at h; cases h
  unfold refsFrom
  unfold refsF
  rw [if_neg (by omega), if_neg (by simp [h]), if_pos hb]
theorem refsFrom_next (l : List UInt8) (k : Nat) (h : l[k]? = some 38) (hb : (markOut l k).2 = 0) : refsFrom l k = refsFrom l (markOut l k).1 := by
  have hk : k < l.length := by
    rcases Nat.lt_or_ge k l.length with g | g
    · exact g
    · rw [List.getElem?_eq_none g] at h; cases h
  have := markOut_next l k hb
  unfold refsFrom
  conv => lhs; unfold refsF
  rw [if_neg (by omega), if_neg (by simp [h]), if_neg (by simp [hb])]
  exact refsF_fuel l _ _ _ (by omega) (by omega)
theorem refsOut_eq (l : List UInt8) : refsOut l = refsFrom l 0 := rfl
def numV (o : Int × Nat × Nat) : Value := .tuple #[.int .i64 o.1, .int .i64 (o.2.1 : Int), .int .i64 (o.2.2 : Int)]
theorem pre2 (a b : UInt8) (l : List UInt8) : [a, b].isPrefixOf l = decide (l[0]? = some a ∧ l[1]? = some b) := by
  match l with
  | [] => simp
  | [x] => simp [List.isPrefixOf]
  | x :: y :: t =>
    simp [List.isPrefixOf]; rw [Bool.eq_iff_iff]; simp
    exact ⟨fun ⟨p, q⟩ => ⟨p.symm, q.symm⟩, fun ⟨p, q⟩ => ⟨p.symm, q.symm⟩⟩
theorem pre3 (a b c : UInt8) (l : List UInt8) : [a, b, c].isPrefixOf l = decide (l[0]? = some a ∧ l[1]? = some b ∧ l[2]? = some c) := by
  match l with
  | [] => simp
  | [x] => simp [List.isPrefixOf]
  | [x, y] => simp [List.isPrefixOf]
  | x :: y :: z :: t =>
    simp [List.isPrefixOf]; rw [Bool.eq_iff_iff]; simp
    exact ⟨fun ⟨p, q, r⟩ => ⟨p.symm, q.symm, r.symm⟩, fun ⟨p, q, r⟩ => ⟨p.symm, q.symm, r.symm⟩⟩
theorem ne_byte' (c n : UInt8) (z : Int) (hz : z = (n.toNat : Int)) (h : ¬ c = n) : ((c.toNat : Int) == z) = false := by rw [hz, toNat_eq]; simp [h]
/-- What is read of a reference to a character at any place. -/
def charAt (l : List UInt8) (at_ : Int) : Int × Nat × Nat := if at_ < 0 ∨ (l.length : Int) < at_ then (0, 0, 3) else charOut l at_.toNat
theorem indexByte_c (A : Option Addr) (n cap : Nat) (l : List UInt8) (c : UInt8) (w : World) (B : Nat) (h : Byt w B A n cap l) :
    Calls Tryd.prog 77 #[.slice A n cap, .int .u8 c.toNat] w fun e w' => e = .returned (.int .i64 (Lib.indexByte l c)) ∧ w' = w := by
  have hcc : ((c.toNat : Int).toNat.toUInt8) = c := by simp
  cases A with
  | none =>
    have hc := h.nil rfl
    have hn := h.le
    have hl := h.length
    obtain rfl : cap = 0 := hc
    obtain rfl : n = 0 := by omega
    obtain rfl : l = [] := List.length_eq_zero_iff.1 hl
    exact (Tryd.bytes_IndexByte_nil (c.toNat : Int) w)
  | some a =>
    refine (Tryd.bytes_IndexByte_at a n cap (nums l) (c.toNat : Int) w (by rw [nums_length, h.length]) fun i hi => ?_).mono fun e w' ⟨he, hw⟩ => ⟨by rw [he, bytesOf_nums, hcc], hw⟩
    obtain ⟨b, o, e, hc⟩ := h.cells (by have := h.le; omega)
    cases e
    have := hc i hi
    unfold Addr.add
    split
    · rename_i h0; subst h0; rw [Nat.add_zero] at this; exact this
    · exact this
set_option maxRecDepth 100000 in
set_option maxHeartbeats 2000000 in
theorem quoted_range (A : Option Addr) (n cap : Nat) (at_ : Int) (w : World) (ha : at_ < 0 ∨ (n : Int) < at_) :
    Calls Tryd.prog 146 #[.slice A n cap, .int .i64 at_] w fun e w' => e = .returned (outV ([], 0, 3)) ∧ w = w' := by
  by_cases h0 : at_ < 0
  · have hd : decide (at_ < 0) = true := by simpa using h0
    clear ha
    go_enter Tryd.func146, Tryd.ntmps146
    go_wp2
    go_ret3
    exact ⟨rfl, rfl⟩
  · have h1 : (n : Int) < at_ := by omega
    clear ha
    go_enter Tryd.func146, Tryd.ntmps146
    go_wp2
    go_ret3
    exact ⟨rfl, rfl⟩
set_option maxRecDepth 100000 in
set_option maxHeartbeats 2000000 in
theorem quoted_no (A : Option Addr) (n cap : Nat) (l : List UInt8) (k : Nat) (w : World) (B : Nat) (h : Byt w B A n cap l) (hm : n ≤ 50000) (hk : k ≤ n) (hq : ∀ q, l[k]? = some q → ¬ (q = 34 ∨ q = 39)) :
    Calls Tryd.prog 146 #[.slice A n cap, .int .i64 k] w fun e w' => e = .returned (outV ([], 0, 7)) ∧ w = w' := by
  have hat' : ¬ (n : Int) < (k : Int) := by omega
  by_cases hkn : k = n
  · have hkn' : ((k : Int) == (n : Int)) = true := by simp; omega
    clear hq h hm hk hkn
    go_enter Tryd.func146, Tryd.ntmps146
    go_wp2
    go_ret3
    exact ⟨rfl, rfl⟩
  · have hkn' : ((k : Int) == (n : Int)) = false := by simp; omega
    obtain ⟨b, o, c, rfl, hb, hc, hcell⟩ := h.cell (i := k) (by omega)
    have hli : (k : Int) < (n : Int) := by omega
    have hq' := not_or.1 (hq c hc)
    have e1 : ((c.toNat : Int) != 34) = true := by have := ne_byte' c 34 34 rfl hq'.1; simp [bne, this]
    have e2 : ((c.toNat : Int) != 39) = true := by have := ne_byte' c 39 39 rfl hq'.2; simp [bne, this]
    clear hq hq' h hm hk hkn hc
    generalize (c.toNat : Int) = cn at *
    go_enter Tryd.func146, Tryd.ntmps146
    go_wp2
    go_ret3
    exact ⟨rfl, rfl⟩
set_option maxRecDepth 100000 in
set_option maxHeartbeats 2000000 in
theorem quoted_34 (A : Option Addr) (n cap : Nat) (l : List UInt8) (k : Nat) (w : World) (B : Nat) (h : Byt w B A n cap l) (hm : n ≤ 50000) (hq : l[k]? = some 34) :
    Calls Tryd.prog 146 #[.slice A n cap, .int .i64 k] w fun e w' => e = .returned (outV (quotedQ 34 l k)) ∧ ∃ m, w' = w.drewN m := by
  have hl := h.length
  have hkn : k < n := by
    rcases Nat.lt_or_ge k l.length with g | g
    · omega
    · rw [List.getElem?_eq_none g] at hq; cases hq
  have hat' : ¬ (n : Int) < (k : Int) := by omega
  have hne : ((k : Int) == (n : Int)) = false := by simp; omega
  obtain ⟨b, o, c, rfl, hb, hc, hcell⟩ := h.cell (i := k) hkn
  have hcq : c = 34 := by rw [hq] at hc; exact (Option.some.inj hc).symm
  have hcell' : w.cell? ⟨b, o + k, none⟩ = some (.int .u8 34) := by rw [hcell, hcq]; rfl
  have hli : (k : Int) < (n : Int) := by omega
  have hk0 : (0 : Int) ≤ (k : Int) := by omega
  have hk1 : (k : Int) ≤ 50000 := by omega
  have hk2 : (0 : Int) ≤ (k : Int) + 1 := by omega
  have hk3 : (k : Int) + 1 ≤ (n : Int) := by omega
  have hap : IntKind.i64.wrap ((k : Int) + 1) = (k : Int) + 1 := by rw [IntKind.wrap_i64]; omega
  have hrf : ∀ w2 : World, (Instr.slice 35 (.slice (some ⟨b, o, none⟩) n cap) (some (.int .i64 ((k : Int) + 1))) none none).run Tryd.prog w2 = .ok (.slice (cutA (some ⟨b, o, none⟩) cap (k + 1)) (n - (k + 1)) (cap - (k + 1))) w2 := fun w2 => run_from (w := w2) (some ⟨b, o, none⟩) n cap (k + 1) (by omega)
  have hdr := h.drop (k := k + 1) (by omega)
  have HI : Hid (∀ m, Calls Tryd.prog 77 #[.slice (cutA (some ⟨b, o, none⟩) cap (k + 1)) (n - (k + 1)) (cap - (k + 1)), .int .u8 34] (w.drewN m) fun e w' => e = .returned (.int .i64 (Lib.indexByte (l.drop (k + 1)) 34)) ∧ w' = w.drewN m) := Lib.hid fun m => indexByte_c _ _ _ (l.drop (k + 1)) 34 (w.drewN m) _ hdr.drewN
  have hlo := ix_lo 34 (l.drop (k + 1))
  rw [List.length_drop, hl] at hlo
  have hcap := h.le
  have HQ : Hid (quotedQ 34 l k = if Lib.indexByte (l.drop (k + 1)) 34 < 0 then ([], 0, 7) else ((l.drop (k + 1)).take (Lib.indexByte (l.drop (k + 1)) 34).toNat, k + (Lib.indexByte (l.drop (k + 1)) 34).toNat + 2, 0)) := Lib.hid rfl
  have HB : Hid (∀ j m, j ≤ n - (k + 1) → (convert 35 9 (.slice (cutA (some ⟨b, o, none⟩) cap (k + 1)) j (cap - (k + 1)))).run Tryd.prog (w.drewN m) = .ok (.string ⟨((l.drop (k + 1)).take j).toArray⟩) (w.drewN m)) := Lib.hid fun j m hj => (hdr.drewN.take hj).str
  have hlo1 := hlo.1
  have hlo2 := hlo.2
  clear h hc hcell hcq hdr hq hl hlo
  generalize Lib.indexByte (l.drop (k + 1)) 34 = ix at *
  generalize quotedQ 34 l k = res at *
  have hcut : ∀ j : Nat, j ≤ n - (k + 1) → ∀ w2 : World, (Instr.slice 35 (.slice (some ⟨b, o, none⟩) n cap) (some (.int .i64 ((k : Int) + 1))) (some (.int .i64 ((k : Int) + 1 + (j : Int)))) none).run Tryd.prog w2 = .ok (.slice (cutA (some ⟨b, o, none⟩) cap (k + 1)) j (cap - (k + 1))) w2 := fun j hj w2 => by
    have := run_fromTo (w := w2) (some ⟨b, o, none⟩) n cap (k + 1) (k + 1 + j) (by omega) (by omega)
    rw [show k + 1 + j - (k + 1) = j by omega, show ((k + 1 + j : Nat) : Int) = (k : Int) + 1 + (j : Int) by omega] at this
    exact this
  have HCUT := Lib.hid hcut
  clear hcut hcap
  go_enter Tryd.func146, Tryd.ntmps146
  go_wp2
  go_quiet ((go_at_call 77; exact Calls.quiet_of_same (HI.out _)))
  clear HI
  generalize hwq : w.drewN nq = wq at *
  have HWQ := Lib.hid hwq
  clear hwq
  by_cases hx : ix < 0
  · have hd : decide (ix < 0) = true := by simpa using hx
    have HRES : Hid (res = ([], 0, 7)) := Lib.hid (by rw [HQ.out, if_pos hx])
    go_wp2
    go_ret3
    rw [HRES.out]
    exact ⟨rfl, _, HWQ.out.symm⟩
  · obtain ⟨j, rfl⟩ : ∃ j : Nat, ix = (j : Int) := ⟨ix.toNat, by omega⟩
    have hd : decide ((j : Int) < 0) = false := by simp
    have hjn : j ≤ n - (k + 1) := by omega
    have HRES : Hid (res = ((l.drop (k + 1)).take j, k + j + 2, 0)) := Lib.hid (by rw [HQ.out, if_neg hx, Int.toNat_natCast])
    have hct := HCUT.out j hjn
    have hst : (convert 35 9 (.slice (cutA (some ⟨b, o, none⟩) cap (k + 1)) j (cap - (k + 1)))).run Tryd.prog wq = .ok (.string ⟨((l.drop (k + 1)).take j).toArray⟩) wq := by rw [← HWQ.out]; exact HB.out j _ hjn
    have hjb : (j : Int) ≤ 50000 := by omega
    generalize (l.drop (k + 1)).take j = T at *
    have hw1 : IntKind.i64.wrap ((k : Int) + 1 + (j : Int)) = (k : Int) + 1 + (j : Int) := by rw [IntKind.wrap_i64]; omega
    have hw2 : IntKind.i64.wrap ((k : Int) + (j : Int)) = (k : Int) + (j : Int) := by rw [IntKind.wrap_i64]; omega
    have hw3 : IntKind.i64.wrap ((k : Int) + (j : Int) + 2) = (k : Int) + (j : Int) + 2 := by rw [IntKind.wrap_i64]; omega
    clear hx hlo1 hlo2
    go_wp2
    go_ret3
    rw [HRES.out]
    exact ⟨rfl, _, HWQ.out.symm⟩
set_option maxRecDepth 100000 in
set_option maxHeartbeats 2000000 in
theorem quoted_39 (A : Option Addr) (n cap : Nat) (l : List UInt8) (k : Nat) (w : World) (B : Nat) (h : Byt w B A n cap l) (hm : n ≤ 50000) (hq : l[k]? = some 39) :
    Calls Tryd.prog 146 #[.slice A n cap, .int .i64 k] w fun e w' => e = .returned (outV (quotedQ 39 l k)) ∧ ∃ m, w' = w.drewN m := by
  have hl := h.length
  have hkn : k < n := by
    rcases Nat.lt_or_ge k l.length with g | g
    · omega
    · rw [List.getElem?_eq_none g] at hq; cases hq
  have hat' : ¬ (n : Int) < (k : Int) := by omega
  have hne : ((k : Int) == (n : Int)) = false := by simp; omega
  obtain ⟨b, o, c, rfl, hb, hc, hcell⟩ := h.cell (i := k) hkn
  have hcq : c = 39 := by rw [hq] at hc; exact (Option.some.inj hc).symm
  have hcell' : w.cell? ⟨b, o + k, none⟩ = some (.int .u8 39) := by rw [hcell, hcq]; rfl
  have hli : (k : Int) < (n : Int) := by omega
  have hk0 : (0 : Int) ≤ (k : Int) := by omega
  have hk1 : (k : Int) ≤ 50000 := by omega
  have hk2 : (0 : Int) ≤ (k : Int) + 1 := by omega
  have hk3 : (k : Int) + 1 ≤ (n : Int) := by omega
  have hap : IntKind.i64.wrap ((k : Int) + 1) = (k : Int) + 1 := by rw [IntKind.wrap_i64]; omega
  have hrf : ∀ w2 : World, (Instr.slice 35 (.slice (some ⟨b, o, none⟩) n cap) (some (.int .i64 ((k : Int) + 1))) none none).run Tryd.prog w2 = .ok (.slice (cutA (some ⟨b, o, none⟩) cap (k + 1)) (n - (k + 1)) (cap - (k + 1))) w2 := fun w2 => run_from (w := w2) (some ⟨b, o, none⟩) n cap (k + 1) (by omega)
  have hdr := h.drop (k := k + 1) (by omega)
  have HI : Hid (∀ m, Calls Tryd.prog 77 #[.slice (cutA (some ⟨b, o, none⟩) cap (k + 1)) (n - (k + 1)) (cap - (k + 1)), .int .u8 39] (w.drewN m) fun e w' => e = .returned (.int .i64 (Lib.indexByte (l.drop (k + 1)) 39)) ∧ w' = w.drewN m) := Lib.hid fun m => indexByte_c _ _ _ (l.drop (k + 1)) 39 (w.drewN m) _ hdr.drewN
  have hlo := ix_lo 39 (l.drop (k + 1))
  rw [List.length_drop, hl] at hlo
  have hcap := h.le
  have HQ : Hid (quotedQ 39 l k = if Lib.indexByte (l.drop (k + 1)) 39 < 0 then ([], 0, 7) else ((l.drop (k + 1)).take (Lib.indexByte (l.drop (k + 1)) 39).toNat, k + (Lib.indexByte (l.drop (k + 1)) 39).toNat + 2, 0)) := Lib.hid rfl
  have HB : Hid (∀ j m, j ≤ n - (k + 1) → (convert 35 9 (.slice (cutA (some ⟨b, o, none⟩) cap (k + 1)) j (cap - (k + 1)))).run Tryd.prog (w.drewN m) = .ok (.string ⟨((l.drop (k + 1)).take j).toArray⟩) (w.drewN m)) := Lib.hid fun j m hj => (hdr.drewN.take hj).str
  have hlo1 := hlo.1
  have hlo2 := hlo.2
  clear h hc hcell hcq hdr hq hl hlo
  generalize Lib.indexByte (l.drop (k + 1)) 39 = ix at *
  generalize quotedQ 39 l k = res at *
  have hcut : ∀ j : Nat, j ≤ n - (k + 1) → ∀ w2 : World, (Instr.slice 35 (.slice (some ⟨b, o, none⟩) n cap) (some (.int .i64 ((k : Int) + 1))) (some (.int .i64 ((k : Int) + 1 + (j : Int)))) none).run Tryd.prog w2 = .ok (.slice (cutA (some ⟨b, o, none⟩) cap (k + 1)) j (cap - (k + 1))) w2 := fun j hj w2 => by
    have := run_fromTo (w := w2) (some ⟨b, o, none⟩) n cap (k + 1) (k + 1 + j) (by omega) (by omega)
    rw [show k + 1 + j - (k + 1) = j by omega, show ((k + 1 + j : Nat) : Int) = (k : Int) + 1 + (j : Int) by omega] at this
    exact this
  have HCUT := Lib.hid hcut
  clear hcut hcap
  go_enter Tryd.func146, Tryd.ntmps146
  go_wp2
  go_quiet ((go_at_call 77; exact Calls.quiet_of_same (HI.out _)))
  clear HI
  generalize hwq : w.drewN nq = wq at *
  have HWQ := Lib.hid hwq
  clear hwq
  by_cases hx : ix < 0
  · have hd : decide (ix < 0) = true := by simpa using hx
    have HRES : Hid (res = ([], 0, 7)) := Lib.hid (by rw [HQ.out, if_pos hx])
    go_wp2
    go_ret3
    rw [HRES.out]
    exact ⟨rfl, _, HWQ.out.symm⟩
  · obtain ⟨j, rfl⟩ : ∃ j : Nat, ix = (j : Int) := ⟨ix.toNat, by omega⟩
    have hd : decide ((j : Int) < 0) = false := by simp
    have hjn : j ≤ n - (k + 1) := by omega
    have HRES : Hid (res = ((l.drop (k + 1)).take j, k + j + 2, 0)) := Lib.hid (by rw [HQ.out, if_neg hx, Int.toNat_natCast])
    have hct := HCUT.out j hjn
    have hst : (convert 35 9 (.slice (cutA (some ⟨b, o, none⟩) cap (k + 1)) j (cap - (k + 1)))).run Tryd.prog wq = .ok (.string ⟨((l.drop (k + 1)).take j).toArray⟩) wq := by rw [← HWQ.out]; exact HB.out j _ hjn
    have hjb : (j : Int) ≤ 50000 := by omega
    generalize (l.drop (k + 1)).take j = T at *
    have hw1 : IntKind.i64.wrap ((k : Int) + 1 + (j : Int)) = (k : Int) + 1 + (j : Int) := by rw [IntKind.wrap_i64]; omega
    have hw2 : IntKind.i64.wrap ((k : Int) + (j : Int)) = (k : Int) + (j : Int) := by rw [IntKind.wrap_i64]; omega
    have hw3 : IntKind.i64.wrap ((k : Int) + (j : Int) + 2) = (k : Int) + (j : Int) + 2 := by rw [IntKind.wrap_i64]; omega
    clear hx hlo1 hlo2
    go_wp2
    go_ret3
    rw [HRES.out]
    exact ⟨rfl, _, HWQ.out.symm⟩
/-- lit.Quoted. -/
theorem quoted_c (A : Option Addr) (n cap : Nat) (l : List UInt8) (at_ : Int) (w : World) (B : Nat) (h : Byt w B A n cap l) (hm : n ≤ 50000) :
    Calls Tryd.prog 146 #[.slice A n cap, .int .i64 at_] w fun e w' => e = .returned (outV (quotedAt l at_)) ∧ ∃ m, w' = w.drewN m := by
  have hl := h.length
  unfold quotedAt
  rw [hl]
  by_cases ha : at_ < 0 ∨ (n : Int) < at_
  · rw [if_pos ha]; exact (quoted_range A n cap at_ w ha).mono fun e w' ⟨he, hw⟩ => ⟨he, 0, hw.symm⟩
  · rw [if_neg ha]
    obtain ⟨k, rfl⟩ : ∃ k : Nat, at_ = (k : Int) := ⟨at_.toNat, by omega⟩
    rw [Int.toNat_natCast]
    unfold quotedOut
    cases hq : l[k]? with
    | none => exact (quoted_no A n cap l k w B h hm (by omega) (fun q e => by rw [hq] at e; cases e)).mono fun e w' ⟨he, hw⟩ => ⟨he, 0, hw.symm⟩
    | some q =>
      simp only
      by_cases hqq : q = 34 ∨ q = 39
      · rw [if_pos hqq]
        rcases hqq with rfl | rfl
        · exact quoted_34 A n cap l k w B h hm hq
        · exact quoted_39 A n cap l k w B h hm hq
      · rw [if_neg hqq]; exact (quoted_no A n cap l k w B h hm (by omega) (fun q' e => by rw [hq] at e; cases e; exact hqq)).mono fun e w' ⟨he, hw⟩ => ⟨he, 0, hw.symm⟩

/-- A strings.Builder that the call has made, in block b, that holds the bytes l; its row of bytes lies at R or behind; p: what 'addr' holds. -/
def BldP (p : Value) (R b : Nat) (l : List UInt8) (w : World) : Prop :=
  b < R ∧ ∃ v, w.heap[b]? = some (.cells #[p, v] 44 (0, 0)) ∧ w.ownsRow R 5 1 v l.length (Lib.byteCells l)
/-- .. fresh or used. -/
def Bld (R b : Nat) (l : List UInt8) (w : World) : Prop := BldP (.pointer none) R b l w ∨ BldP (.pointer (some ⟨b, 0, none⟩)) R b l w
/-- Below R every block but b stands. -/
structure Fr (R b : Nat) (w w' : World) : Prop where
  os : w'.os = w.os
  tape : w'.tape = w.tape
  output : w'.output = w.output
  size : w.heap.size ≤ w'.heap.size
  block : ∀ k, k < R → k ≠ b → w'.heap[k]? = w.heap[k]?
theorem Fr.refl (R b : Nat) (w : World) : Fr R b w w := ⟨rfl, rfl, rfl, Nat.le_refl _, fun _ _ _ => rfl⟩
theorem Fr.trans {R b : Nat} {x y z : World} (h : Fr R b x y) (k : Fr R b y z) : Fr R b x z :=
  ⟨k.os.trans h.os, k.tape.trans h.tape, k.output.trans h.output, Nat.le_trans h.size k.size, fun i hi hb => (k.block i hi hb).trans (h.block i hi hb)⟩
theorem Fr.below {R b B : Nat} {w w' : World} (h : Fr R b w w') (hR : B ≤ R) (hb : B ≤ b) : Below B w w' := ⟨h.os, h.tape, h.output, h.size, fun k hk => h.block k (by omega) (by omega)⟩
theorem Fr.mono {R R' b : Nat} {w w' : World} (h : Fr R b w w') (hR : R' ≤ R) : Fr R' b w w' := ⟨h.os, h.tape, h.output, h.size, fun k hk hb => h.block k (by omega) hb⟩
theorem Fr.ofBelow {R b : Nat} {w w' : World} (h : Below R w w') : Fr R b w w' := ⟨h.os, h.tape, h.output, h.size, fun k hk _ => h.block k hk⟩
theorem Fr.set {R b : Nat} {w w' : World} (h : Fr R b w w') (i : Nat) (v : Value) : Fr R b w (w'.setCell ⟨b, i, none⟩ v) :=
  ⟨h.os, h.tape, h.output, by have := h.size; simpa [World.setCell] using this, fun k hk hb => by rw [hp_other hb]; exact h.block k hk hb⟩
theorem Fr.draw {R b : Nat} {w w' : World} (h : Fr R b w w') (n : Nat) : Fr R b w (w'.drewN n) := ⟨h.os, h.tape, h.output, h.size, h.block⟩
theorem ownsRow_base {w : World} {B B' : Nat} {e : TypeId} {c : Nat} {v : Value} {n : Nat} {xs : List Value} (h : w.ownsRow B e c v n xs) (hB : B' ≤ B) : w.ownsRow B' e c v n xs := by
  obtain ⟨hl, h2 | ⟨g, cap, cur, hv, hg, r⟩⟩ := h
  · exact ⟨hl, Or.inl h2⟩
  · exact ⟨hl, Or.inr ⟨g, cap, cur, hv, by omega, r⟩⟩
theorem Bld.p {R b : Nat} {l : List UInt8} {w : World} (h : Bld R b l w) : ∃ p, BldP p R b l w := by
  rcases h with h | h
  · exact ⟨_, h⟩
  · exact ⟨_, h⟩
theorem Bld.lt {R b : Nat} {l : List UInt8} {w : World} (h : Bld R b l w) : b < w.heap.size := by
  obtain ⟨p, hb, v, hh, ho⟩ := h.p
  exact lt_of hh
theorem BldP.alloc {p : Value} {R b : Nat} {l : List UInt8} {w : World} (h : BldP p R b l w) (o : Obj) : BldP p R b l (w.alloc o) := by
  obtain ⟨hb, v, hh, ho⟩ := h
  exact ⟨hb, v, hp_old hh, ho.alloc _⟩
theorem Bld.alloc {R b : Nat} {l : List UInt8} {w : World} (h : Bld R b l w) (o : Obj) : Bld R b l (w.alloc o) := by
  rcases h with h | h
  · exact Or.inl (h.alloc o)
  · exact Or.inr (h.alloc o)
theorem Bld.drewN {R b : Nat} {l : List UInt8} {w : World} (h : Bld R b l w) (n : Nat) : Bld R b l (w.drewN n) := h
/-- Below the heap's size every block stands: so does the builder. -/
theorem BldP.kept {p : Value} {R b : Nat} {l : List UInt8} {w w' : World} (h : BldP p R b l w) (hb : Below w.heap.size w w') : BldP p R b l w' := by
  obtain ⟨hb', v, hh, ho⟩ := h
  refine ⟨hb', v, (hb.block b (lt_of hh)).trans hh, ho.kept (row := none) (hb.gr none) ?_⟩
  cases hv : v.ownBlock with
  | none => exact Or.inl rfl
  | some k => exact Or.inr (by simp)
theorem Bld.kept {R b : Nat} {l : List UInt8} {w w' : World} (h : Bld R b l w) (hb : Below w.heap.size w w') : Bld R b l w' := by
  rcases h with h | h
  · exact Or.inl (h.kept hb)
  · exact Or.inr (h.kept hb)
theorem Bld.fresh (R : Nat) (w : World) (hR : w.heap.size < R) : Bld R w.heap.size [] (w.alloc (.cells #[.pointer none, .slice none 0 0] 44)) :=
  Or.inl ⟨hR, .slice none 0 0, hp_new w _, World.ownsRow_nil _ _ _ _⟩
theorem Bld.is {R b : Nat} {l : List UInt8} {w : World} (h : Bld R b l w) : Lib.IsBuilder 44 5 b b (Lib.byteCells l) w := by
  have aux : ∀ p, BldP p R b l w → Lib.BuilderAt 44 5 b b p (Lib.byteCells l) w := by
    rintro p ⟨hb, v, hh, ho⟩
    refine ⟨Nat.le_refl _, v, hh, ?_, ?_⟩
    · rw [Lib.byteCells_length]; exact ownsRow_base ho (by omega)
    · intro e
      have := (ho.lt b e).1
      omega
  rcases h with h | h
  · exact Or.inl (aux _ h)
  · exact Or.inr (aux _ h)
theorem sizeBuilder : (Tryd.prog.info? 44).map (·.size) = some 2 := by kernel_rfl
theorem liesBuilder : liesAt Tryd.prog Tryd.prog.depth 44 (2 / Tryd.prog.cellsOf 44) 0 44 1 = true := by kernel_rfl
set_option maxHeartbeats 2000000 in
set_option maxRecDepth 100000 in
theorem copyCheck_used (b : Nat) (w : World) (h0 : w.cell? ⟨b, 0, none⟩ = some (.pointer (some ⟨b, 0, none⟩))) :
    Calls Tryd.prog 54 #[.pointer (some ⟨b, 0, none⟩)] w fun e w' => e = .returned (.tuple #[]) ∧ w' = w := by
  obtain ⟨j, hj, _⟩ := Option.map_eq_some_iff.1 sizeBuilder
  go_enter Tryd.func54, Tryd.ntmps54
  go_wp2
  rw [Lib.run_neq_ptr_same w _ Tryd.underlying42 hj]
  go_wp2
  go_end0
  exact ⟨rfl, rfl⟩
set_option maxHeartbeats 2000000 in
set_option maxRecDepth 100000 in
theorem copyCheck_fresh (b : Nat) (w : World) (h0 : w.cell? ⟨b, 0, none⟩ = some (.pointer none)) (hsh : w.shape? b = some (44, 2)) (hfz : w.frozen? ⟨b, 0, none⟩ = false) :
    Calls Tryd.prog 54 #[.pointer (some ⟨b, 0, none⟩)] w fun e w' => e = .returned (.tuple #[]) ∧ w' = w.setCell ⟨b, 0, none⟩ (.pointer (some ⟨b, 0, none⟩)) := by
  obtain ⟨j, hj, hjs⟩ := Option.map_eq_some_iff.1 sizeBuilder
  go_enter Tryd.func54, Tryd.ntmps54
  go_wp2
  rw [Lib.run_to_unsafe w ⟨b, 0, none⟩ Tryd.underlying42 Tryd.underlying109 hj (by rw [hjs]; decide) hsh (Nat.zero_lt_succ 1)]
  simp only [Result.andThen]
  rw [Oper.upon_value]
  go_wp2
  rw [run_callFunc_extern Tryd.func80 (by kernel_rfl) (by kernel_rfl) (by kernel_rfl) (e := Extern.AbiNoEscape.same) (by kernel_rfl)]
  rw [Lib.run_noEscape]
  simp only [Result.andThen]
  rw [Oper.upon_value]
  go_wp2
  rw [Lib.run_from_unsafe w ⟨b, 0, none⟩ Tryd.underlying109 Tryd.underlying42 hj hsh liesBuilder]
  simp only [Result.andThen]
  rw [Oper.upon_value]
  go_wp2
  go_end0
  exact ⟨rfl, rfl⟩
/-- (*strings.Builder).copyCheck: behind it the builder is used. -/
theorem copyCheck_b (R b : Nat) (l : List UInt8) (w : World) (h : Bld R b l w) :
    Calls Tryd.prog 54 #[.pointer (some ⟨b, 0, none⟩)] w fun e w' => e = .returned (.tuple #[]) ∧ BldP (.pointer (some ⟨b, 0, none⟩)) R b l w' ∧ Fr R b w w' := by
  rcases h with ⟨hb, v, hh, ho⟩ | h
  · refine (copyCheck_fresh b w (by rw [cell_of 0 hh]; rfl) (by simp [World.shape?, hh]) (free_of 0 hh)).mono ?_
    rintro e w' ⟨rfl, rfl⟩
    refine ⟨rfl, ⟨hb, v, ?_, ?_⟩, (Fr.refl R b w).set 0 _⟩
    · rw [hp_set hh]; rfl
    · refine ho.kept (row := some b) ((gr_refl w (some b)).setCell 0 _) (Or.inr ?_)
      intro e
      have := (ho.lt b e).1
      omega
  · obtain ⟨hb, v, hh, ho⟩ := h
    refine (copyCheck_used b w (by rw [cell_of 0 hh]; rfl)).mono ?_
    rintro e w' ⟨rfl, rfl⟩
    exact ⟨rfl, ⟨hb, v, hh, ho⟩, Fr.refl R b _⟩
theorem byteCells_snoc (l : List UInt8) (c : UInt8) : Lib.byteCells l ++ [.int .u8 (c.toNat : Int)] = Lib.byteCells (l ++ [c]) := by simp [Lib.byteCells]
set_option maxHeartbeats 4000000 in
set_option maxRecDepth 100000 in
/-- (*strings.Builder).WriteByte. -/
theorem writeByte_b (R b : Nat) (l : List UInt8) (c : UInt8) (w : World) (h : Bld R b l w) (hlen : l.length + 1 ≤ 140737488355328) (hRw : R ≤ w.heap.size) :
    Calls Tryd.prog 64 #[.pointer (some ⟨b, 0, none⟩), .int .u8 c.toNat] w fun e w' => e = .returned .nilIface ∧ Bld R b (l ++ [c]) w' ∧ Fr R b w w' := by
  obtain ⟨i0, hi, hz0, hz1, hz2⟩ := info_parts (show (Tryd.prog.info? 5).map (fun i => (i.zero, i.size, i.bytes)) = some (some (.int .u8 0), 1, 1) by kernel_rfl)
  have hsn := byteCells_snoc l c
  have HSN := Lib.hid hsn
  clear hsn
  generalize (c.toNat : Int) = cn at *
  go_enter Tryd.func64, Tryd.ntmps64
  go_wp2_with fail
  refine (copyCheck_b R b l _ h).mono ?_
  rintro e w1 ⟨rfl, ⟨hbR, v, hbk, hown⟩, hf1⟩
  have c0 : w1.cell? ⟨b, 0, none⟩ = some (.pointer (some ⟨b, 0, none⟩)) := by rw [cell_of 0 hbk]; rfl
  have c1 : w1.cell? ⟨b, 1, none⟩ = some v := by rw [cell_of 1 hbk]; rfl
  have hs1 := hf1.size
  go_wp2_with (at_builtin; refine wpList_append_own _ rfl _ _ 35 rfl R 5 i0 (.int .u8 0) 1 1 Tryd.underlying35 hi hz0 hz1 hz2 rfl (by decide) _ _ _ rfl (hown.alloc _) ⟨w1.heap.size, 0, none⟩ 1 1 [.int .u8 cn] rfl rfl ?c1 ?c2 ?c3 ?c4 ?c5 ?_)
  case c1 =>
    intro j u hj
    match j, hj with
    | 0, hj => simp at hj; subst hj; simp [Addr.add]
  case c2 => intro u hu; simp at hu; subst hu; rfl
  case c3 => unfold maxLen; omega
  case c4 => omega
  case c5 => simp; omega
  intro v' w2 hown' hgrow _
  have hlt : b < w1.heap.size := lt_of hbk
  have hne : some b ≠ v.ownBlock := by
    intro e
    have := (hown.lt b e.symm).1
    omega
  have hb2 : w2.heap[b]? = some (.cells #[.pointer (some ⟨b, 0, none⟩), v] 44 (0, 0)) := by
    rw [hgrow.block b (by simp; omega) hne]
    exact hp_old hbk
  have d0 : w2.cell? ⟨b, 0, none⟩ = some (.pointer (some ⟨b, 0, none⟩)) := by rw [cell_of 0 hb2]; rfl
  have d1 : w2.cell? ⟨b, 1, none⟩ = some v := by rw [cell_of 1 hb2]; rfl
  have f1 : w2.frozen? ⟨b, 1, none⟩ = false := free_of 1 hb2
  have hF2 : Fr R b w w2 := hf1.trans ⟨hgrow.os, hgrow.tape, hgrow.output, by have := hgrow.size; simp at this; omega, fun k hk hkb => by
    rw [hgrow.block k (by simp; omega) (fun e => by have := (hown.lt k e.symm).1; omega)]
    exact Below.heap_alloc _ _ _ (by omega)⟩
  obtain ⟨g, cap, rfl⟩ : ∃ g cap, v' = .slice (some ⟨g, 0, none⟩) (l.length + 1) cap := by
    rcases hown'.2 with ⟨_, h0⟩ | ⟨g, cap, cur, hv, _⟩
    · omega
    · exact ⟨g, cap, hv⟩
  have HF2 := Lib.hid hF2
  have HO := Lib.hid hown'
  clear hF2 hown' hgrow hown h hf1 hbk
  go_wp2
  go_ret
  refine ⟨rfl, Or.inr ⟨hbR, _, by rw [hp_set hb2]; rfl, ?_⟩, HF2.out.set 1 _⟩
  have ho2 := HO.out
  rw [HSN.out] at ho2
  rw [List.length_append]
  refine ho2.kept (row := some b) ((gr_refl w2 (some b)).setCell 1 _) (Or.inr ?_)
  intro e
  have := (ho2.lt b e).1
  omega
set_option maxHeartbeats 4000000 in
set_option maxRecDepth 100000 in
/-- (*strings.Builder).WriteString. -/
theorem writeString_b (R b : Nat) (l s : List UInt8) (w : World) (h : Bld R b l w) (hlen : l.length + s.length ≤ 140737488355328) (hRw : R ≤ w.heap.size) :
    Calls Tryd.prog 25 #[.pointer (some ⟨b, 0, none⟩), .string ⟨s.toArray⟩] w fun e w' => e = .returned (.tuple #[.int .i64 s.length, .nilIface]) ∧ Bld R b (l ++ s) w' ∧ Fr R b w w' := by
  obtain ⟨i0, hi, hz0, hz1, hz2⟩ := info_parts (show (Tryd.prog.info? 5).map (fun i => (i.zero, i.size, i.bytes)) = some (some (.int .u8 0), 1, 1) by kernel_rfl)
  have hss : (⟨s.toArray⟩ : ByteArray).size = s.length := by simp [ByteArray.size]
  have HSS := Lib.hid hss
  have hsc : Lib.strCells ⟨s.toArray⟩ = Lib.byteCells s := by simp [Lib.strCells, Lib.byteCells]
  have HSC := Lib.hid hsc
  have hle : (⟨s.toArray⟩ : ByteArray).size + l.length ≤ 140737488355328 := by omega
  have hsn : Lib.byteCells l ++ Lib.byteCells s = Lib.byteCells (l ++ s) := by simp [Lib.byteCells]
  have HSN := Lib.hid hsn
  rw [← hss]
  clear hss hsn hsc hlen
  generalize (⟨s.toArray⟩ : ByteArray) = sa at *
  go_enter Tryd.func25, Tryd.ntmps25
  go_wp2_with fail
  refine (copyCheck_b R b l _ h).mono ?_
  rintro e w1 ⟨rfl, ⟨hbR, v, hbk, hown⟩, hf1⟩
  have c0 : w1.cell? ⟨b, 0, none⟩ = some (.pointer (some ⟨b, 0, none⟩)) := by rw [cell_of 0 hbk]; rfl
  have c1 : w1.cell? ⟨b, 1, none⟩ = some v := by rw [cell_of 1 hbk]; rfl
  have hs1 := hf1.size
  go_wp2_with (at_builtin; refine Lib.wpList_append_own_string _ rfl _ _ 35 9 rfl R 5 i0 Tryd.underlying35 Tryd.underlying9 hi hz0 hz1 hz2 _ _ _ rfl hown sa rfl ?c3 ?c4 ?c5 ?_)
  case c3 => unfold maxLen; omega
  case c4 => omega
  case c5 => omega
  intro v' w2 hown' hgrow _
  have hlt : b < w1.heap.size := lt_of hbk
  have hne : some b ≠ v.ownBlock := by
    intro e
    have := (hown.lt b e.symm).1
    omega
  have hb2 : w2.heap[b]? = some (.cells #[.pointer (some ⟨b, 0, none⟩), v] 44 (0, 0)) := by
    rw [hgrow.block b hlt hne]
    exact hbk
  have d0 : w2.cell? ⟨b, 0, none⟩ = some (.pointer (some ⟨b, 0, none⟩)) := by rw [cell_of 0 hb2]; rfl
  have d1 : w2.cell? ⟨b, 1, none⟩ = some v := by rw [cell_of 1 hb2]; rfl
  have f1 : w2.frozen? ⟨b, 1, none⟩ = false := free_of 1 hb2
  have hF2 : Fr R b w w2 := hf1.trans ⟨hgrow.os, hgrow.tape, hgrow.output, hgrow.size, fun k hk hkb => hgrow.block k (by omega) (fun e => by have := (hown.lt k e.symm).1; omega)⟩
  obtain ⟨ao, n', cap, rfl⟩ : ∃ ao n' cap, v' = .slice ao n' cap := by
    rcases hown'.2 with ⟨hv, _⟩ | ⟨g, cap, cur, hv, _⟩
    · exact ⟨_, _, _, hv⟩
    · exact ⟨_, _, _, hv⟩
  have HF2 := Lib.hid hF2
  have HO := Lib.hid hown'
  clear hF2 hown' hgrow hown h hf1 hbk
  go_wp2
  go_ret2
  refine ⟨rfl, Or.inr ⟨hbR, _, by rw [hp_set hb2]; rfl, ?_⟩, HF2.out.set 1 _⟩
  have ho2 := HO.out
  rw [HSC.out, HSN.out, HSS.out] at ho2
  rw [List.length_append]
  refine ho2.kept (row := some b) ((gr_refl w2 (some b)).setCell 1 _) (Or.inr ?_)
  intro e
  have := (ho2.lt b e).1
  omega
/-- (*strings.Builder).String. -/
theorem string_b (R b : Nat) (l : List UInt8) (w : World) (h : Bld R b l w) :
    Calls Tryd.prog 29 #[.pointer (some ⟨b, 0, none⟩)] w fun e w' => e = .returned (.string ⟨l.toArray⟩) ∧ Below b w w' := Tryd.Builder_String_any b b l w h.is (by have := h.lt; omega)
/-- '[]byte(s)'. -/
theorem toBytes (w : World) (l : List UInt8) (hl : l.length ≤ 1000000) : ∃ c w', (convert 9 35 (.string ⟨l.toArray⟩)).run Tryd.prog w = .ok (.slice (some ⟨w.heap.size, 0, none⟩) l.length c) w' ∧ Below w.heap.size w w' ∧ w'.heap.size = w.heap.size + 1 ∧ Byt w' (w.heap.size + 1) (some ⟨w.heap.size, 0, none⟩) l.length c l := by
  have hsz : (⟨l.toArray⟩ : ByteArray).size = l.length := by simp [ByteArray.size]
  refine ⟨_, _, (by have := Lib.run_convert_string_bytes (P := Tryd.prog) w 9 35 5 ⟨l.toArray⟩ Tryd.underlying9 Tryd.underlying35 Tryd.underlying5; rw [hsz] at this; exact this), Lib.bytesWorld_below _ _ _, Lib.bytesWorld_size _ _ _, ⟨by simp, grownCap_ge _ _ _ _, grownCap_le_maxLen _ _ _ _ (by unfold maxLen; omega), (fun e => by cases e), fun _ => ⟨_, _, rfl, by omega, fun i u hu => ?_⟩⟩⟩
  have hi : i < l.length := by
    rcases Nat.lt_or_ge i l.length with h' | h'
    · exact h'
    · rw [List.getElem?_eq_none (by simpa using h')] at hu; cases hu
  rw [Nat.zero_add, Lib.bytesWorld_cell _ _ _ _ (by rw [hsz]; exact hi)]
  rw [List.getElem?_map, List.getElem?_eq_getElem hi] at hu
  simp only [Option.map_some, Option.some.injEq] at hu
  rw [← hu]
  simp [bv, hi]
/-- One byte, escaped. -/
def escB (c : UInt8) : List UInt8 :=
  if c = 38 then [38, 97, 109, 112, 59] else if c = 60 then [38, 108, 116, 59] else if c = 62 then [38, 103, 116, 59] else if c = 34 then [38, 113, 117, 111, 116, 59]
  else if c = 13 then [38, 35, 49, 51, 59] else if c = 10 then [38, 35, 49, 48, 59] else if c = 9 then [38, 35, 57, 59] else [c]
def esc (l : List UInt8) : List UInt8 := l.flatMap escB
theorem escB_le (c : UInt8) : (escB c).length ≤ 6 ∧ 1 ≤ (escB c).length := by unfold escB; (repeat' split) <;> simp
theorem esc_le (l : List UInt8) : (esc l).length ≤ 6 * l.length := by
  induction l with
  | nil => simp [esc]
  | cons c t ih =>
    have := (escB_le c).1
    simp only [esc, List.flatMap_cons, List.length_append, List.length_cons] at *
    omega
theorem esc_snoc (l : List UInt8) (c : UInt8) : esc (l ++ [c]) = esc l ++ escB c := by simp [esc]
theorem ne_byte (c n : UInt8) (z : Int) (hz : z = (n.toNat : Int)) (h : ¬ c = n) : ((c.toNat : Int) == z) = false := by rw [hz, toNat_eq]; simp [h]
theorem itoa_small (i : Nat) (hi : i < 100) (w : World) : Calls Tryd.prog 57 #[.int .i64 i] w fun e w' => e = .returned (.string ⟨(Lib.decDigits i).toArray⟩) ∧ w = w' :=
  (Tryd.strconv_Itoa_small i hi w).mono fun e w' ⟨he, hw⟩ => ⟨he, hw.symm⟩
set_option maxRecDepth 100000 in
set_option maxHeartbeats 16000000 in
theorem escape_c (l : List UInt8) (w : World) (hm : l.length ≤ 1000000) :
    Calls Tryd.prog 36 #[.string ⟨l.toArray⟩] w fun e w' => e = .returned (.string ⟨(esc l).toArray⟩) ∧ Below w.heap.size w w' := by
  have hB := Bld.fresh (w.heap.size + 2) w (by omega)
  have hb0 : Below w.heap.size w (w.alloc (.cells #[.pointer none, .slice none 0 0] 44)) := (Below.refl _ _).alloc (Nat.le_refl _) _
  have hs0 : (w.alloc (.cells #[.pointer none, .slice none 0 0] 44)).heap.size = w.heap.size + 1 := by simp
  obtain ⟨c, w2, hcv, hb2, hs2, hby⟩ := toBytes (w.alloc (.cells #[.pointer none, .slice none 0 0] 44)) l hm
  rw [hs0] at hcv hb2 hs2 hby
  have hB2 := hB.kept (by rw [hs0]; exact hb2)
  have hbw := hb0.trans (hb2.mono (by omega))
  have hcell : ∀ (wr : World), Fr (w.heap.size + 2) w.heap.size w2 wr → ∀ k, k < l.length → wr.cell? ⟨w.heap.size + 1, k, none⟩ = some (.int .u8 (UInt8.toNat (l.getD k 0) : Int)) := fun wr hf k hk => by
    obtain ⟨b, o, c, e, hb, hc, hcl⟩ := hby.cell hk
    cases e
    rw [World.cell?_of_block (w := w2) (a := ⟨w.heap.size + 1, k, none⟩) (hf.block (w.heap.size + 1) (by omega) (by omega))]
    rw [Nat.zero_add] at hcl
    rw [hcl, List.getD_eq_getElem?_getD, hc]
    rfl
  have HC := Lib.hid hcell
  have HB2 := Lib.hid (And.intro hB2 hbw)
  have HS2 := Lib.hid hs2
  clear hB hb0 hs0 hB2 hb2 hs2 hby hbw hcell
  generalize hwS : w.heap.size = S at *
  go_enter Tryd.func36, Tryd.ntmps36
  go_wp2
  go_loopw [9] (fun i wr => ∃ k : Nat, k ≤ l.length ∧ i = .int .i64 k ∧ Hid (Bld (S + 2) S (esc (l.take k)) wr ∧ Fr (S + 2) S w2 wr)) (fun i _ => l.length - (intOf i).toNat)
  case atStart => exact ⟨0, Nat.zero_le _, rfl, Lib.hid ⟨HB2.out.1, Fr.refl _ _ _⟩⟩
  case round =>
    obtain ⟨k, hk, rfl, I⟩ := hrel
    by_cases hlt : k < l.length
    · have hcl := HC.out _ I.out.2 k hlt
      have HSN : Hid (esc (l.take (k + 1)) = esc (l.take k) ++ escB (l.getD k 0)) := Lib.hid (by
        rw [take_snoc l k (l.getD k 0) (by simp [hlt]), esc_snoc])
      have HLE : Hid ((esc (l.take k)).length + 6 ≤ 140737488355328) := Lib.hid (by have := esc_le (l.take k); rw [List.length_take] at this; omega)
      have HSZ : Hid (S + 2 ≤ wr.heap.size) := Lib.hid (by have := I.out.2.size; have := HS2.out; omega)
      generalize l.getD k 0 = d at *
      by_cases h0 : d = 38
      · have HEB : Hid (escB d = [38, 97, 109, 112, 59]) := Lib.hid (by subst h0; rfl)
        have hdn : (d.toNat : Int) = 38 := by subst h0; rfl
        rw [hdn] at hcl
        clear hdn
        go_wp2_with fail
        refine (writeString_b (S + 2) S (esc (l.take k)) [38, 97, 109, 112, 59] _ I.out.1 (by have := HLE.out; simp; omega) HSZ.out).mono ?_
        rintro e w3 ⟨rfl, hb3, hf3⟩
        have HN : Hid (Bld (S + 2) S (esc (l.take (k + 1))) w3 ∧ Fr (S + 2) S w2 w3) := Lib.hid ⟨by rw [HSN.out, HEB.out]; exact hb3, I.out.2.trans hf3⟩
        clear hb3 hf3
        go_wp2
        go_roundw
        case rel => exact ⟨k + 1, by omega, by go_num, HN⟩
        case measure => simp [intOf]; omega
      · have e0 : ((d.toNat : Int) == 38) = false := ne_byte d 38 38 rfl h0
        by_cases h1 : d = 60
        · have HEB : Hid (escB d = [38, 108, 116, 59]) := Lib.hid (by subst h1; rfl)
          have hdn : (d.toNat : Int) = 60 := by subst h1; rfl
          rw [hdn] at hcl
          clear hdn
          go_wp2_with fail
          refine (writeString_b (S + 2) S (esc (l.take k)) [38, 108, 116, 59] _ I.out.1 (by have := HLE.out; simp; omega) HSZ.out).mono ?_
          rintro e w3 ⟨rfl, hb3, hf3⟩
          have HN : Hid (Bld (S + 2) S (esc (l.take (k + 1))) w3 ∧ Fr (S + 2) S w2 w3) := Lib.hid ⟨by rw [HSN.out, HEB.out]; exact hb3, I.out.2.trans hf3⟩
          clear hb3 hf3
          go_wp2
          go_roundw
          case rel => exact ⟨k + 1, by omega, by go_num, HN⟩
          case measure => simp [intOf]; omega
        · have e1 : ((d.toNat : Int) == 60) = false := ne_byte d 60 60 rfl h1
          by_cases h2 : d = 62
          · have HEB : Hid (escB d = [38, 103, 116, 59]) := Lib.hid (by subst h2; rfl)
            have hdn : (d.toNat : Int) = 62 := by subst h2; rfl
            rw [hdn] at hcl
            clear hdn
            go_wp2_with fail
            refine (writeString_b (S + 2) S (esc (l.take k)) [38, 103, 116, 59] _ I.out.1 (by have := HLE.out; simp; omega) HSZ.out).mono ?_
            rintro e w3 ⟨rfl, hb3, hf3⟩
            have HN : Hid (Bld (S + 2) S (esc (l.take (k + 1))) w3 ∧ Fr (S + 2) S w2 w3) := Lib.hid ⟨by rw [HSN.out, HEB.out]; exact hb3, I.out.2.trans hf3⟩
            clear hb3 hf3
            go_wp2
            go_roundw
            case rel => exact ⟨k + 1, by omega, by go_num, HN⟩
            case measure => simp [intOf]; omega
          · have e2 : ((d.toNat : Int) == 62) = false := ne_byte d 62 62 rfl h2
            by_cases h3 : d = 34
            · have HEB : Hid (escB d = [38, 113, 117, 111, 116, 59]) := Lib.hid (by subst h3; rfl)
              have hdn : (d.toNat : Int) = 34 := by subst h3; rfl
              rw [hdn] at hcl
              clear hdn
              go_wp2_with fail
              refine (writeString_b (S + 2) S (esc (l.take k)) [38, 113, 117, 111, 116, 59] _ I.out.1 (by have := HLE.out; simp; omega) HSZ.out).mono ?_
              rintro e w3 ⟨rfl, hb3, hf3⟩
              have HN : Hid (Bld (S + 2) S (esc (l.take (k + 1))) w3 ∧ Fr (S + 2) S w2 w3) := Lib.hid ⟨by rw [HSN.out, HEB.out]; exact hb3, I.out.2.trans hf3⟩
              clear hb3 hf3
              go_wp2
              go_roundw
              case rel => exact ⟨k + 1, by omega, by go_num, HN⟩
              case measure => simp [intOf]; omega
            · have e3 : ((d.toNat : Int) == 34) = false := ne_byte d 34 34 rfl h3
              by_cases h4 : d = 13
              · have HEB : Hid (escB d = [38, 35, 49, 51, 59]) := Lib.hid (by subst h4; rfl)
                have hdn : (d.toNat : Int) = 13 := by subst h4; rfl
                rw [hdn] at hcl
                clear hdn
                go_wp2_with fail
                have hit := itoa_small 13 (by decide) wr
                rw [show Lib.decDigits 13 = [49, 51] by decide +kernel] at hit
                refine hit.mono ?_
                rintro e w4 ⟨rfl, rfl⟩
                clear hit
                go_wp2_with fail
                refine (writeString_b (S + 2) S (esc (l.take k)) [38, 35, 49, 51, 59] _ I.out.1 (by have := HLE.out; simp; omega) HSZ.out).mono ?_
                rintro e w3 ⟨rfl, hb3, hf3⟩
                have HN : Hid (Bld (S + 2) S (esc (l.take (k + 1))) w3 ∧ Fr (S + 2) S w2 w3) := Lib.hid ⟨by rw [HSN.out, HEB.out]; exact hb3, I.out.2.trans hf3⟩
                clear hb3 hf3
                go_wp2
                go_roundw
                case rel => exact ⟨k + 1, by omega, by go_num, HN⟩
                case measure => simp [intOf]; omega
              · have e4 : ((d.toNat : Int) == 13) = false := ne_byte d 13 13 rfl h4
                by_cases h5 : d = 10
                · have HEB : Hid (escB d = [38, 35, 49, 48, 59]) := Lib.hid (by subst h5; rfl)
                  have hdn : (d.toNat : Int) = 10 := by subst h5; rfl
                  rw [hdn] at hcl
                  clear hdn
                  go_wp2_with fail
                  have hit := itoa_small 10 (by decide) wr
                  rw [show Lib.decDigits 10 = [49, 48] by decide +kernel] at hit
                  refine hit.mono ?_
                  rintro e w4 ⟨rfl, rfl⟩
                  clear hit
                  go_wp2_with fail
                  refine (writeString_b (S + 2) S (esc (l.take k)) [38, 35, 49, 48, 59] _ I.out.1 (by have := HLE.out; simp; omega) HSZ.out).mono ?_
                  rintro e w3 ⟨rfl, hb3, hf3⟩
                  have HN : Hid (Bld (S + 2) S (esc (l.take (k + 1))) w3 ∧ Fr (S + 2) S w2 w3) := Lib.hid ⟨by rw [HSN.out, HEB.out]; exact hb3, I.out.2.trans hf3⟩
                  clear hb3 hf3
                  go_wp2
                  go_roundw
                  case rel => exact ⟨k + 1, by omega, by go_num, HN⟩
                  case measure => simp [intOf]; omega
                · have e5 : ((d.toNat : Int) == 10) = false := ne_byte d 10 10 rfl h5
                  by_cases h6 : d = 9
                  · have HEB : Hid (escB d = [38, 35, 57, 59]) := Lib.hid (by subst h6; rfl)
                    have hdn : (d.toNat : Int) = 9 := by subst h6; rfl
                    rw [hdn] at hcl
                    clear hdn
                    go_wp2_with fail
                    have hit := itoa_small 9 (by decide) wr
                    rw [show Lib.decDigits 9 = [57] by decide +kernel] at hit
                    refine hit.mono ?_
                    rintro e w4 ⟨rfl, rfl⟩
                    clear hit
                    go_wp2_with fail
                    refine (writeString_b (S + 2) S (esc (l.take k)) [38, 35, 57, 59] _ I.out.1 (by have := HLE.out; simp; omega) HSZ.out).mono ?_
                    rintro e w3 ⟨rfl, hb3, hf3⟩
                    have HN : Hid (Bld (S + 2) S (esc (l.take (k + 1))) w3 ∧ Fr (S + 2) S w2 w3) := Lib.hid ⟨by rw [HSN.out, HEB.out]; exact hb3, I.out.2.trans hf3⟩
                    clear hb3 hf3
                    go_wp2
                    go_roundw
                    case rel => exact ⟨k + 1, by omega, by go_num, HN⟩
                    case measure => simp [intOf]; omega
                  · have e6 : ((d.toNat : Int) == 9) = false := ne_byte d 9 9 rfl h6
                    have HEB : Hid (escB d = [d]) := Lib.hid (by unfold escB; simp [h0, h1, h2, h3, h4, h5, h6])
                    go_wp2_with fail
                    refine (writeByte_b (S + 2) S (esc (l.take k)) d _ I.out.1 (by have := HLE.out; omega) HSZ.out).mono ?_
                    rintro e w3 ⟨rfl, hb3, hf3⟩
                    have HN : Hid (Bld (S + 2) S (esc (l.take (k + 1))) w3 ∧ Fr (S + 2) S w2 w3) := Lib.hid ⟨by rw [HSN.out, HEB.out]; exact hb3, I.out.2.trans hf3⟩
                    clear hb3 hf3
                    go_wp2
                    go_roundw
                    case rel => exact ⟨k + 1, by omega, by go_num, HN⟩
                    case measure => simp [intOf]; omega
    · obtain rfl : k = l.length := by omega
      have hst := string_b (S + 2) S (esc l) wr (by have := I.out.1; rwa [List.take_length] at this)
      go_wp2_with fail
      refine hst.mono ?_
      rintro e w3 ⟨rfl, hb3⟩
      have HN : Hid (Below S w w3) := Lib.hid (HB2.out.2.trans ((I.out.2.below (by omega) (Nat.le_refl _)).trans hb3))
      clear hb3 hst
      go_wp2
      go_ret
      exact ⟨rfl, HN.out⟩
theorem refAt_in (m : UInt8) (l : List UInt8) (k : Nat) (h : k ≤ l.length) : refAt m l (k : Int) = refOut m l k := by
  unfold refAt; rw [if_neg (by omega), Int.toNat_natCast]
theorem charAt_in (l : List UInt8) (k : Nat) (h : k ≤ l.length) : charAt l (k : Int) = charOut l k := by
  unfold charAt; rw [if_neg (by omega), Int.toNat_natCast]

/-- What stands between quotes, without a byte, each reference one. -/
def strictAt (but : UInt8) (l : List UInt8) (at_ : Int) : List UInt8 × Nat × Nat :=
  if (quotedAt l at_).2.2 ≠ 0 then ([], 0, (quotedAt l at_).2.2)
  else if 0 ≤ Lib.indexByte (quotedAt l at_).1 but then ([], 0, 7)
  else if (refsOut (quotedAt l at_).1).2 ≠ 0 then ([], 0, (refsOut (quotedAt l at_).1).2)
  else ((quotedAt l at_).1, (quotedAt l at_).2.1, 0)
theorem quotedAt_le (l : List UInt8) (at_ : Int) : (quotedAt l at_).1.length ≤ l.length := by
  unfold quotedAt quotedOut quotedQ
  split
  · simp
  · split
    · simp
    · split
      · split
        · simp
        · simp only [List.length_take, List.length_drop]; omega
      · simp
set_option maxRecDepth 100000 in
set_option maxHeartbeats 2000000 in
theorem refQuoted_range (A : Option Addr) (n cap : Nat) (at_ : Int) (w : World) (ha : at_ < 0 ∨ (n : Int) < at_) :
    Calls Tryd.prog 98 #[.slice A n cap, .int .i64 at_] w fun e w' => e = .returned (outV ([], 0, 3)) ∧ w = w' := by
  by_cases h0 : at_ < 0
  · have hd : decide (at_ < 0) = true := by simpa using h0
    clear ha
    go_enter Tryd.func98, Tryd.ntmps98
    go_wp2
    go_ret3
    exact ⟨rfl, rfl⟩
  · have h1 : (n : Int) < at_ := by omega
    clear ha
    go_enter Tryd.func98, Tryd.ntmps98
    go_wp2
    go_ret3
    exact ⟨rfl, rfl⟩
set_option maxRecDepth 100000 in
set_option maxHeartbeats 2000000 in
theorem refQuoted_no (A : Option Addr) (n cap : Nat) (l : List UInt8) (k : Nat) (w : World) (B : Nat) (h : Byt w B A n cap l) (hm : n ≤ 50000) (hk : k ≤ n) (hq : ∀ q, l[k]? = some q → ¬ (q = 34 ∨ q = 39)) :
    Calls Tryd.prog 98 #[.slice A n cap, .int .i64 k] w fun e w' => e = .returned (outV ([], 0, 7)) ∧ w = w' := by
  have hat' : ¬ (n : Int) < (k : Int) := by omega
  by_cases hkn : k = n
  · have hkn' : ((k : Int) == (n : Int)) = true := by simp; omega
    clear hq h hm hk hkn
    go_enter Tryd.func98, Tryd.ntmps98
    go_wp2
    go_ret3
    exact ⟨rfl, rfl⟩
  · have hkn' : ((k : Int) == (n : Int)) = false := by simp; omega
    obtain ⟨b, o, c, rfl, hb, hc, hcell⟩ := h.cell (i := k) (by omega)
    have hli : (k : Int) < (n : Int) := by omega
    have hq' := not_or.1 (hq c hc)
    have e1 : ((c.toNat : Int) != 34) = true := by have := ne_byte' c 34 34 rfl hq'.1; simp [bne, this]
    have e2 : ((c.toNat : Int) != 39) = true := by have := ne_byte' c 39 39 rfl hq'.2; simp [bne, this]
    clear hq hq' h hm hk hkn hc
    generalize (c.toNat : Int) = cn at *
    go_enter Tryd.func98, Tryd.ntmps98
    go_wp2
    go_ret3
    exact ⟨rfl, rfl⟩
set_option maxRecDepth 100000 in
set_option maxHeartbeats 2000000 in
theorem refQuoted_34 (A : Option Addr) (n cap : Nat) (l : List UInt8) (k : Nat) (w : World) (B : Nat) (h : Byt w B A n cap l) (hm : n ≤ 50000) (hq : l[k]? = some 34) :
    Calls Tryd.prog 98 #[.slice A n cap, .int .i64 k] w fun e w' => e = .returned (outV (quotedQ 34 l k)) ∧ ∃ m, w' = w.drewN m := by
  have hl := h.length
  have hkn : k < n := by
    rcases Nat.lt_or_ge k l.length with g | g
    · omega
    · rw [List.getElem?_eq_none g] at hq; cases hq
  have hat' : ¬ (n : Int) < (k : Int) := by omega
  have hne : ((k : Int) == (n : Int)) = false := by simp; omega
  obtain ⟨b, o, c, rfl, hb, hc, hcell⟩ := h.cell (i := k) hkn
  have hcq : c = 34 := by rw [hq] at hc; exact (Option.some.inj hc).symm
  have hcell' : w.cell? ⟨b, o + k, none⟩ = some (.int .u8 34) := by rw [hcell, hcq]; rfl
  have hli : (k : Int) < (n : Int) := by omega
  have hk0 : (0 : Int) ≤ (k : Int) := by omega
  have hk1 : (k : Int) ≤ 50000 := by omega
  have hap : IntKind.i64.wrap ((k : Int) + 1) = (k : Int) + 1 := by rw [IntKind.wrap_i64]; omega
  have hdr := h.drop (k := k + 1) (by omega)
  have hlo := ix_lo 34 (l.drop (k + 1))
  rw [List.length_drop, hl] at hlo
  have hcap := h.le
  have HQ : Hid (quotedQ 34 l k = if Lib.indexByte (l.drop (k + 1)) 34 < 0 then ([], 0, 7) else ((l.drop (k + 1)).take (Lib.indexByte (l.drop (k + 1)) 34).toNat, k + (Lib.indexByte (l.drop (k + 1)) 34).toNat + 2, 0)) := Lib.hid rfl
  have HB : Hid (∀ j w1, (∃ m, w1 = w.drewN m) → j ≤ n - (k + 1) → (convert 35 9 (.slice (cutA (some ⟨b, o, none⟩) cap (k + 1)) j (cap - (k + 1)))).run Tryd.prog w1 = .ok (.string ⟨((l.drop (k + 1)).take j).toArray⟩) w1) := Lib.hid (by
    rintro j w1 ⟨m, rfl⟩ hj
    exact (hdr.drewN.take hj).str)
  have HCELL : Hid (∀ i, i < n → ∀ w1, (∃ m, w1 = w.drewN m) → w1.cell? ⟨b, o + i, none⟩ = some (.int .u8 (UInt8.toNat (l.getD i 0) : Int))) := Lib.hid (by
    rintro i hi w1 ⟨m, rfl⟩
    obtain ⟨b', o', c', e, hb', hc', hcl⟩ := h.cell hi
    cases e
    show w.cell? _ = _
    rw [hcl, List.getD_eq_getElem?_getD, hc']
    rfl)
  have hcut : ∀ j : Nat, j ≤ n - (k + 1) → ∀ w2 : World, (Instr.slice 35 (.slice (some ⟨b, o, none⟩) n cap) (some (.int .i64 ((k : Int) + 1))) (some (.int .i64 ((k + 1 + j : Nat) : Int))) none).run Tryd.prog w2 = .ok (.slice (cutA (some ⟨b, o, none⟩) cap (k + 1)) j (cap - (k + 1))) w2 := fun j hj w2 => by
    have := run_fromTo (w := w2) (some ⟨b, o, none⟩) n cap (k + 1) (k + 1 + j) (by omega) (by omega)
    rw [show k + 1 + j - (k + 1) = j by omega] at this
    exact this
  have HCUT := Lib.hid hcut
  have HC0 : Hid (∀ w1, (∃ m, w1 = w.drewN m) → w1.cell? ⟨b, o + k, none⟩ = some (.int .u8 34)) := Lib.hid (by
    rintro w1 ⟨m, rfl⟩
    exact hcell')
  have HL := Lib.hid hl
  clear hc hcell hcq hdr hlo hcap hcut h hq hl
  generalize quotedQ 34 l k = res at *
  go_enter Tryd.func98, Tryd.ntmps98
  go_wp2
  clear hcell'
  go_loopg [7] (n - (k + 1)) (fun g i wr => ∃ t : Nat, k + 1 ≤ t ∧ t ≤ n ∧ Hid (g + t = n) ∧ i = .int .i64 (t : Int) ∧ Hid (∃ m, wr = w.drewN m) ∧ Hid (∀ j < t - (k + 1), (l.drop (k + 1))[j]? ≠ some 34))
  case atStart => exact ⟨k + 1, Nat.le_refl _, by omega, Lib.hid (by omega), rfl, Lib.hid ⟨0, rfl⟩, Lib.hid (fun j hj => absurd hj (by omega))⟩
  case round =>
    obtain ⟨t, ht1, ht2, hg, rfl, HW, HN⟩ := hrel
    have ht0 : (0 : Int) ≤ (t : Int) := by omega
    have htb : (t : Int) ≤ 50000 := by omega
    by_cases htn : t < n
    · have htni : (t : Int) < (n : Int) := by omega
      have h1 := HCELL.out t htn wr HW.out
      have h2 := HC0.out wr HW.out
      have hdt : (l.drop (k + 1))[t - (k + 1)]? = some (l.getD t 0) := by
        rw [List.getElem?_drop, show k + 1 + (t - (k + 1)) = t by omega, List.getElem?_eq_getElem (by rw [HL.out]; exact htn)]
        simp [HL.out ▸ htn]
      have HDT := Lib.hid hdt
      clear hdt
      generalize l.getD t 0 = d at *
      have hd0 : (0 : Int) ≤ (d.toNat : Int) := by omega
      have hd1 : (d.toNat : Int) ≤ 255 := by have := d.toNat_lt; omega
      by_cases hdq : d = 34
      · subst hdq
        have hix : Lib.indexByte (l.drop (k + 1)) 34 = ((t - (k + 1) : Nat) : Int) := ix_eq 34 _ _ HDT.out HN.out
        have HRES : Hid (res = ((l.drop (k + 1)).take (t - (k + 1)), t + 1, 0)) := Lib.hid (by
          rw [HQ.out, hix, if_neg (by omega), Int.toNat_natCast]
          congr 2
          omega)
        have hct := HCUT.out (t - (k + 1)) (by omega)
        rw [show k + 1 + (t - (k + 1)) = t by omega] at hct
        have hw1 : IntKind.i64.wrap ((t : Int) + 1) = (t : Int) + 1 := by rw [IntKind.wrap_i64]; omega
        clear hix hd0 hd1
        go_wp2
        go_quiet (fail)
        have HW2 : Hid (∃ m, wr.drewN nq = w.drewN m) := Lib.hid (by
          obtain ⟨m, rfl⟩ := HW.out
          exact ⟨m + nq, by rw [World.drewN_drewN]⟩)
        generalize wr.drewN nq = wq at *
        have hst := HB.out (t - (k + 1)) wq HW2.out (by omega)
        generalize (l.drop (k + 1)).take (t - (k + 1)) = T at *
        go_wp2
        go_ret3
        rw [HRES.out]
        exact ⟨rfl, HW2.out⟩
      · have e1 : ((d.toNat : Int) == 34) = false := ne_byte' d 34 34 rfl hdq
        have HN2 : Hid (∀ j < t + 1 - (k + 1), (l.drop (k + 1))[j]? ≠ some 34) := Lib.hid (fun j hj => by
          rcases (show j < t - (k + 1) ∨ j = t - (k + 1) by omega) with h | rfl
          · exact HN.out j h
          · rw [HDT.out]; simpa using hdq)
        clear hdq
        generalize (d.toNat : Int) = dn at *
        go_wp2
        go_quiet (fail)
        have HW2 : Hid (∃ m, wr.drewN nq = w.drewN m) := Lib.hid (by
          obtain ⟨m, rfl⟩ := HW.out
          exact ⟨m + nq, by rw [World.drewN_drewN]⟩)
        generalize wr.drewN nq = wq at *
        go_wp2
        go_roundg (n - (t + 1))
        case measure => have := hg.out; omega
        case rel => exact ⟨t + 1, by omega, by omega, Lib.hid (by omega), by go_num, HW2, HN2⟩
    · have htni : ¬ (t : Int) < (n : Int) := by omega
      have hix : Lib.indexByte (l.drop (k + 1)) 34 = -1 := ix_eq_none 34 _ (fun j => by
        rcases Nat.lt_or_ge j (t - (k + 1)) with h | h
        · exact HN.out j h
        · rw [List.getElem?_eq_none (by rw [List.length_drop, HL.out]; omega)]; simp)
      have HRES : Hid (res = ([], 0, 7)) := Lib.hid (by rw [HQ.out, hix, if_pos (by omega)])
      clear hix
      go_wp2
      go_ret3
      rw [HRES.out]
      exact ⟨rfl, HW.out⟩
set_option maxRecDepth 100000 in
set_option maxHeartbeats 2000000 in
theorem refQuoted_39 (A : Option Addr) (n cap : Nat) (l : List UInt8) (k : Nat) (w : World) (B : Nat) (h : Byt w B A n cap l) (hm : n ≤ 50000) (hq : l[k]? = some 39) :
    Calls Tryd.prog 98 #[.slice A n cap, .int .i64 k] w fun e w' => e = .returned (outV (quotedQ 39 l k)) ∧ ∃ m, w' = w.drewN m := by
  have hl := h.length
  have hkn : k < n := by
    rcases Nat.lt_or_ge k l.length with g | g
    · omega
    · rw [List.getElem?_eq_none g] at hq; cases hq
  have hat' : ¬ (n : Int) < (k : Int) := by omega
  have hne : ((k : Int) == (n : Int)) = false := by simp; omega
  obtain ⟨b, o, c, rfl, hb, hc, hcell⟩ := h.cell (i := k) hkn
  have hcq : c = 39 := by rw [hq] at hc; exact (Option.some.inj hc).symm
  have hcell' : w.cell? ⟨b, o + k, none⟩ = some (.int .u8 39) := by rw [hcell, hcq]; rfl
  have hli : (k : Int) < (n : Int) := by omega
  have hk0 : (0 : Int) ≤ (k : Int) := by omega
  have hk1 : (k : Int) ≤ 50000 := by omega
  have hap : IntKind.i64.wrap ((k : Int) + 1) = (k : Int) + 1 := by rw [IntKind.wrap_i64]; omega
  have hdr := h.drop (k := k + 1) (by omega)
  have hlo := ix_lo 39 (l.drop (k + 1))
  rw [List.length_drop, hl] at hlo
  have hcap := h.le
  have HQ : Hid (quotedQ 39 l k = if Lib.indexByte (l.drop (k + 1)) 39 < 0 then ([], 0, 7) else ((l.drop (k + 1)).take (Lib.indexByte (l.drop (k + 1)) 39).toNat, k + (Lib.indexByte (l.drop (k + 1)) 39).toNat + 2, 0)) := Lib.hid rfl
  have HB : Hid (∀ j w1, (∃ m, w1 = w.drewN m) → j ≤ n - (k + 1) → (convert 35 9 (.slice (cutA (some ⟨b, o, none⟩) cap (k + 1)) j (cap - (k + 1)))).run Tryd.prog w1 = .ok (.string ⟨((l.drop (k + 1)).take j).toArray⟩) w1) := Lib.hid (by
    rintro j w1 ⟨m, rfl⟩ hj
    exact (hdr.drewN.take hj).str)
  have HCELL : Hid (∀ i, i < n → ∀ w1, (∃ m, w1 = w.drewN m) → w1.cell? ⟨b, o + i, none⟩ = some (.int .u8 (UInt8.toNat (l.getD i 0) : Int))) := Lib.hid (by
    rintro i hi w1 ⟨m, rfl⟩
    obtain ⟨b', o', c', e, hb', hc', hcl⟩ := h.cell hi
    cases e
    show w.cell? _ = _
    rw [hcl, List.getD_eq_getElem?_getD, hc']
    rfl)
  have hcut : ∀ j : Nat, j ≤ n - (k + 1) → ∀ w2 : World, (Instr.slice 35 (.slice (some ⟨b, o, none⟩) n cap) (some (.int .i64 ((k : Int) + 1))) (some (.int .i64 ((k + 1 + j : Nat) : Int))) none).run Tryd.prog w2 = .ok (.slice (cutA (some ⟨b, o, none⟩) cap (k + 1)) j (cap - (k + 1))) w2 := fun j hj w2 => by
    have := run_fromTo (w := w2) (some ⟨b, o, none⟩) n cap (k + 1) (k + 1 + j) (by omega) (by omega)
    rw [show k + 1 + j - (k + 1) = j by omega] at this
    exact this
  have HCUT := Lib.hid hcut
  have HC0 : Hid (∀ w1, (∃ m, w1 = w.drewN m) → w1.cell? ⟨b, o + k, none⟩ = some (.int .u8 39)) := Lib.hid (by
    rintro w1 ⟨m, rfl⟩
    exact hcell')
  have HL := Lib.hid hl
  clear hc hcell hcq hdr hlo hcap hcut h hq hl
  generalize quotedQ 39 l k = res at *
  go_enter Tryd.func98, Tryd.ntmps98
  go_wp2
  clear hcell'
  go_loopg [7] (n - (k + 1)) (fun g i wr => ∃ t : Nat, k + 1 ≤ t ∧ t ≤ n ∧ Hid (g + t = n) ∧ i = .int .i64 (t : Int) ∧ Hid (∃ m, wr = w.drewN m) ∧ Hid (∀ j < t - (k + 1), (l.drop (k + 1))[j]? ≠ some 39))
  case atStart => exact ⟨k + 1, Nat.le_refl _, by omega, Lib.hid (by omega), rfl, Lib.hid ⟨0, rfl⟩, Lib.hid (fun j hj => absurd hj (by omega))⟩
  case round =>
    obtain ⟨t, ht1, ht2, hg, rfl, HW, HN⟩ := hrel
    have ht0 : (0 : Int) ≤ (t : Int) := by omega
    have htb : (t : Int) ≤ 50000 := by omega
    by_cases htn : t < n
    · have htni : (t : Int) < (n : Int) := by omega
      have h1 := HCELL.out t htn wr HW.out
      have h2 := HC0.out wr HW.out
      have hdt : (l.drop (k + 1))[t - (k + 1)]? = some (l.getD t 0) := by
        rw [List.getElem?_drop, show k + 1 + (t - (k + 1)) = t by omega, List.getElem?_eq_getElem (by rw [HL.out]; exact htn)]
        simp [HL.out ▸ htn]
      have HDT := Lib.hid hdt
      clear hdt
      generalize l.getD t 0 = d at *
      have hd0 : (0 : Int) ≤ (d.toNat : Int) := by omega
      have hd1 : (d.toNat : Int) ≤ 255 := by have := d.toNat_lt; omega
      by_cases hdq : d = 39
      · subst hdq
        have hix : Lib.indexByte (l.drop (k + 1)) 39 = ((t - (k + 1) : Nat) : Int) := ix_eq 39 _ _ HDT.out HN.out
        have HRES : Hid (res = ((l.drop (k + 1)).take (t - (k + 1)), t + 1, 0)) := Lib.hid (by
          rw [HQ.out, hix, if_neg (by omega), Int.toNat_natCast]
          congr 2
          omega)
        have hct := HCUT.out (t - (k + 1)) (by omega)
        rw [show k + 1 + (t - (k + 1)) = t by omega] at hct
        have hw1 : IntKind.i64.wrap ((t : Int) + 1) = (t : Int) + 1 := by rw [IntKind.wrap_i64]; omega
        clear hix hd0 hd1
        go_wp2
        go_quiet (fail)
        have HW2 : Hid (∃ m, wr.drewN nq = w.drewN m) := Lib.hid (by
          obtain ⟨m, rfl⟩ := HW.out
          exact ⟨m + nq, by rw [World.drewN_drewN]⟩)
        generalize wr.drewN nq = wq at *
        have hst := HB.out (t - (k + 1)) wq HW2.out (by omega)
        generalize (l.drop (k + 1)).take (t - (k + 1)) = T at *
        go_wp2
        go_ret3
        rw [HRES.out]
        exact ⟨rfl, HW2.out⟩
      · have e1 : ((d.toNat : Int) == 39) = false := ne_byte' d 39 39 rfl hdq
        have HN2 : Hid (∀ j < t + 1 - (k + 1), (l.drop (k + 1))[j]? ≠ some 39) := Lib.hid (fun j hj => by
          rcases (show j < t - (k + 1) ∨ j = t - (k + 1) by omega) with h | rfl
          · exact HN.out j h
          · rw [HDT.out]; simpa using hdq)
        clear hdq
        generalize (d.toNat : Int) = dn at *
        go_wp2
        go_quiet (fail)
        have HW2 : Hid (∃ m, wr.drewN nq = w.drewN m) := Lib.hid (by
          obtain ⟨m, rfl⟩ := HW.out
          exact ⟨m + nq, by rw [World.drewN_drewN]⟩)
        generalize wr.drewN nq = wq at *
        go_wp2
        go_roundg (n - (t + 1))
        case measure => have := hg.out; omega
        case rel => exact ⟨t + 1, by omega, by omega, Lib.hid (by omega), by go_num, HW2, HN2⟩
    · have htni : ¬ (t : Int) < (n : Int) := by omega
      have hix : Lib.indexByte (l.drop (k + 1)) 39 = -1 := ix_eq_none 39 _ (fun j => by
        rcases Nat.lt_or_ge j (t - (k + 1)) with h | h
        · exact HN.out j h
        · rw [List.getElem?_eq_none (by rw [List.length_drop, HL.out]; omega)]; simp)
      have HRES : Hid (res = ([], 0, 7)) := Lib.hid (by rw [HQ.out, hix, if_pos (by omega)])
      clear hix
      go_wp2
      go_ret3
      rw [HRES.out]
      exact ⟨rfl, HW.out⟩
/-- narthexref07.Quoted. -/
theorem refQuoted_c (A : Option Addr) (n cap : Nat) (l : List UInt8) (at_ : Int) (w : World) (B : Nat) (h : Byt w B A n cap l) (hm : n ≤ 50000) :
    Calls Tryd.prog 98 #[.slice A n cap, .int .i64 at_] w fun e w' => e = .returned (outV (quotedAt l at_)) ∧ ∃ m, w' = w.drewN m := by
  have hl := h.length
  unfold quotedAt
  rw [hl]
  by_cases ha : at_ < 0 ∨ (n : Int) < at_
  · rw [if_pos ha]; exact (refQuoted_range A n cap at_ w ha).mono fun e w' ⟨he, hw⟩ => ⟨he, 0, hw.symm⟩
  · rw [if_neg ha]
    obtain ⟨k, rfl⟩ : ∃ k : Nat, at_ = (k : Int) := ⟨at_.toNat, by omega⟩
    rw [Int.toNat_natCast]
    unfold quotedOut
    cases hq : l[k]? with
    | none => exact (refQuoted_no A n cap l k w B h hm (by omega) (fun q e => by rw [hq] at e; cases e)).mono fun e w' ⟨he, hw⟩ => ⟨he, 0, hw.symm⟩
    | some q =>
      simp only
      by_cases hqq : q = 34 ∨ q = 39
      · rw [if_pos hqq]
        rcases hqq with rfl | rfl
        · exact refQuoted_34 A n cap l k w B h hm hq
        · exact refQuoted_39 A n cap l k w B h hm hq
      · rw [if_neg hqq]; exact (refQuoted_no A n cap l k w B h hm (by omega) (fun q' e => by rw [hq] at e; cases e; exact hqq)).mono fun e w' ⟨he, hw⟩ => ⟨he, 0, hw.symm⟩
set_option maxRecDepth 100000 in
set_option maxHeartbeats 2000000 in
theorem has_c (l : List UInt8) (c : UInt8) (w : World) (hm : l.length ≤ 1000000) :
    Calls Tryd.prog 30 #[.string ⟨l.toArray⟩, .int .u8 c.toNat] w fun e w' => e = .returned (.bool (decide (0 ≤ Lib.indexByte l c))) ∧ w = w' := by
  have hsz : (⟨l.toArray⟩ : ByteArray).size = l.length := by simp [ByteArray.size]
  have hc0 : (0 : Int) ≤ (c.toNat : Int) := by omega
  go_enter Tryd.func30, Tryd.ntmps30
  go_wp2
  go_loopg [5] (l.length) (fun g i wr => ∃ t : Nat, t ≤ l.length ∧ Hid (g + t = l.length) ∧ i = .int .i64 (t : Int) ∧ w = wr ∧ Hid (∀ j < t, l[j]? ≠ some c))
  case atStart => exact ⟨0, Nat.zero_le _, Lib.hid rfl, rfl, rfl, Lib.hid (fun j hj => absurd hj (Nat.not_lt_zero _))⟩
  case round =>
    obtain ⟨t, ht, hg, rfl, rfl, HN⟩ := hrel
    have ht0 : (0 : Int) ≤ (t : Int) := by omega
    have htb : (t : Int) ≤ 1000000 := by omega
    by_cases htn : t < l.length
    · have htni : (t : Int) < (l.length : Int) := by omega
      have hix := run_strIndex l t htn w
      have HD : Hid (l[t]? = some (l.getD t 0)) := Lib.hid (by rw [List.getElem?_eq_getElem htn]; simp [htn])
      generalize l.getD t 0 = d at *
      by_cases hdc : d = c
      · have HE : Hid (decide (0 ≤ Lib.indexByte l c) = true) := Lib.hid (by
          rw [ix_eq c l t (by rw [HD.out, hdc]) HN.out]; simp)
        subst hdc
        go_wp2
        go_ret
        rw [HE.out]
        exact ⟨rfl, rfl⟩
      · have e1 : ((d.toNat : Int) == (c.toNat : Int)) = false := ne_byte' d c _ rfl hdc
        have HN2 : Hid (∀ j < t + 1, l[j]? ≠ some c) := Lib.hid (fun j hj => by
          rcases (show j < t ∨ j = t by omega) with h | rfl
          · exact HN.out j h
          · rw [HD.out]; simpa using hdc)
        clear hdc
        go_wp2
        go_roundg (l.length - (t + 1))
        case measure => have := hg.out; omega
        case rel => exact ⟨t + 1, by omega, Lib.hid (by omega), by go_num, rfl, HN2⟩
    · have HE : Hid (decide (0 ≤ Lib.indexByte l c) = false) := Lib.hid (by
        rw [ix_eq_none c l (fun j => by
          rcases Nat.lt_or_ge j t with h | h
          · exact HN.out j h
          · rw [List.getElem?_eq_none (by omega)]; simp)]
        simp)
      go_wp2
      go_ret
      rw [HE.out]
      exact ⟨rfl, rfl⟩
end Go.Proofs.YtljmpghijlibaaaDoor
