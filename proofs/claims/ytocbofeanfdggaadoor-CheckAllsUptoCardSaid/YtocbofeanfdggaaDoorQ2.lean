/- Texts of ours, joined: Base, CharPlain, Str, Build, Esc, Bits. -/
import Derived.Test.YtocbofeanfdggaaDoorRows
import Derived.WalkKit
import Derived.ProofKit
import Derived.OpenShut
import Derived.ShutString
import Derived.ChangeOld
import Derived.Below
import Derived.BigQuiet
import Derived.Deep.QuietTactic
import Derived.Lib.Hide
import Derived.Deep.RegionHeld3
import Derived.Lib.SlBytesConst
import Derived.Laws.CopyOwn
import Derived.Laws.CopyRow
import Derived.Lib.Bytes
import Derived.Deep.LoopGhost
import Derived.Deep.DeepFit
import Derived.Deep.DeepMust
import Derived.WalkSpells
import Derived.WalkLawsBesides
import Derived.Lib.ItoaNum
import Derived.Test.YtocbofeanfdggaaDoorQ1
import Derived.Laws.EntriesVeiled
import Derived.Laws.Rows
import Derived.Lib.Builder
import Derived.Lib.AppendStr
import Derived.Lib.UnsafeStr
import Derived.Laws.Externs
import Derived.Lib.ConvBytes
import Derived.Lib.AtoiErrMem
/- Small lemmas on worlds, slices of bytes and strings that this seat's texts use; no condition. -/
namespace Go.Proofs.YtocbofeanfdggaaDoor
open Go.ChangeShapes Go.WideShapes Go.ChangeAt Go.RowKit
set_option linter.unusedVariables false
/-- What every file over this seat uses: blocks of cells as wholes, and how they stand behind a store and a new block. -/
theorem cell_of {w : World} {b : Nat} {vs : Array Value} {T : TypeId} {f : Nat × Nat} (i : Nat) (h : w.heap[b]? = some (.cells vs T f)) : w.cell? ⟨b, i, none⟩ = vs[i]? := by simp [World.cell?, h]
theorem free_of {w : World} {b : Nat} {vs : Array Value} {T : TypeId} (i : Nat) (h : w.heap[b]? = some (.cells vs T)) : w.frozen? ⟨b, i, none⟩ = false := by simp [World.frozen?, h]
theorem lt_of {w : World} {b : Nat} {o : Obj} (h : w.heap[b]? = some o) : b < w.heap.size := by
  rcases Nat.lt_or_ge b w.heap.size with h' | h'
  · exact h'
  · simp [Array.getElem?_eq_none h'] at h
theorem hp_new (w : World) (o : Obj) : (w.alloc o).heap[w.heap.size]? = some o := by
  show (w.heap.push o)[w.heap.size]? = _
  simp
theorem hp_old {w : World} {o o' : Obj} {k : Nat} (h : w.heap[k]? = some o') : (w.alloc o).heap[k]? = some o' := by
  rw [← h]; exact Below.heap_alloc _ _ _ (lt_of h)
theorem hp_other {w : World} {b i k : Nat} {v : Value} (h : k ≠ b) : (w.setCell ⟨b, i, none⟩ v).heap[k]? = w.heap[k]? := Below.heap_setCell _ _ _ _ h
theorem hp_set {w : World} {b i : Nat} {v : Value} {vs : Array Value} {T : TypeId} {f : Nat × Nat} (h : w.heap[b]? = some (.cells vs T f)) :
    (w.setCell ⟨b, i, none⟩ v).heap[b]? = some (.cells (vs.setIfInBounds i v) T f) := by
  simp [World.setCell, Array.getElem?_modify, h]
theorem below_drewN' {B : Nat} {a w : World} {n : Nat} (h : Below B a w) : Below B a (w.drewN n) := below_drewN h n
theorem gr_refl (w : World) (row : Option Nat) : w.grownBy w row := ⟨rfl, rfl, rfl, Nat.le_refl _, fun _ _ _ => rfl⟩
theorem _root_.Go.World.grownBy.drewN {a w : World} {row : Option Nat} {n : Nat} (h : a.grownBy w row) : a.grownBy (w.drewN n) row := ⟨h.os, h.tape, h.output, h.size, h.block⟩
theorem _root_.Go.World.grownBy.setCell {a w : World} {b : Nat} (h : a.grownBy w (some b)) (i : Nat) (v : Value) : a.grownBy (w.setCell ⟨b, i, none⟩ v) (some b) :=
  ⟨h.os, h.tape, h.output, by simpa using h.size, fun k hk hr => by rw [hp_other (by intro e; exact hr (by rw [e]))]; exact h.block k hk hr⟩
theorem _root_.Go.World.grownBy.alloc {a w : World} {row : Option Nat} (h : a.grownBy w row) (o : Obj) : a.grownBy (w.alloc o) row :=
  ⟨h.os, h.tape, h.output, by have := h.size; simp; omega, fun k hk hr => by rw [Below.heap_alloc _ _ _ (by have := h.size; omega)]; exact h.block k hk hr⟩
theorem _root_.Go.RowKit.Below.gr {w w' : World} (h : Below w.heap.size w w') (row : Option Nat) : w.grownBy w' row := ⟨h.os, h.tape, h.output, h.size, fun k hk _ => h.block k hk⟩
theorem _root_.Go.World.grownBy.below {w w' : World} {b B : Nat} (h : w.grownBy w' (some b)) (hB : B ≤ w.heap.size) (hb : B ≤ b) : Below B w w' := (Below.refl B w).grown h hB fun k e => by cases e; exact hb
/-- WHAT THE WALK IS TOLD OF A SLICE OF INTEGERS THAT CAME IN. -/
def IsRow (k : IntKind) (w : World) (a : Option Addr) (len cap : Nat) (zs : List Int) : Prop :=
  (a = none ∧ len = 0 ∧ cap = 0 ∧ zs = []) ∨
  ∃ x, a = some x ∧ len ≤ cap ∧ cap ≤ maxLen ∧ zs.length = cap ∧ (∀ i, i < zs.length → w.cell? (x.add i) = some (.int k (zs.getD i 0))) ∧ ∀ n ∈ zs, (Lit.int k n).wf = true
theorem IsRow.at {k : IntKind} {w : World} {a : Option Addr} {len cap : Nat} {zs : List Int} (h : IsRow k w a len cap zs) : len ≤ cap ∧ zs.length = cap ∧ len ≤ maxLen ∧
    (0 < len → ∃ b o, a = some ⟨b, o, none⟩ ∧ b < w.heap.size ∧ ∀ i, i < len → w.cell? ⟨b, o + i, none⟩ = some (.int k (zs.getD i 0))) := by
  rcases h with ⟨rfl, rfl, rfl, rfl⟩ | ⟨⟨b, o, s⟩, rfl, hl, hm, hz, hc, _⟩
  · exact ⟨by omega, rfl, Nat.zero_le _, fun h => absurd h (by omega)⟩
  · refine ⟨hl, hz, by omega, fun h0 => ?_⟩
    have h := hc 0 (by omega)
    have hs : s = none := by simpa [Addr.add] using World.cell?_spot h
    subst hs
    exact ⟨b, o, rfl, World.block_lt_of_cell? w _ h, fun i hi => by
    have := hc i (by omega)
    unfold Addr.add at this
    split at this
    · rename_i hi; subst hi; exact this
    · exact this⟩

/-- One byte as the model holds it. -/
def bv (b : UInt8) : Value := .int .u8 b.toNat
/-- A slice of one-cell elements that can be read: n elements, room for cap, its cells below block B. -/
structure Rd (w : World) (B : Nat) (A : Option Addr) (n cap : Nat) (us : List Value) : Prop where
  len : us.length = n
  le : n ≤ cap
  fit : cap ≤ maxLen
  nil : A = none → cap = 0
  at_ : 0 < cap → ∃ b o, A = some ⟨b, o, none⟩ ∧ b < B ∧ ∀ i u, us[i]? = some u → w.cell? ⟨b, o + i, none⟩ = some u
/-- A slice of bytes that can be read. -/
def Byt (w : World) (B : Nat) (A : Option Addr) (n cap : Nat) (l : List UInt8) : Prop := Rd w B A n cap (l.map bv)
section
variable {w w' : World} {B B' n cap : Nat} {A : Option Addr} {us : List Value} {l : List UInt8}
theorem Rd.keep (h : Rd w B A n cap us) (hk : ∀ p : Addr, p.block < B → w'.cell? p = w.cell? p) : Rd w' B A n cap us :=
  ⟨h.len, h.le, h.fit, h.nil, fun h0 => by
    obtain ⟨b, o, e, hb, hc⟩ := h.at_ h0
    exact ⟨b, o, e, hb, fun i u hu => (hk ⟨b, o + i, none⟩ hb).trans (hc i u hu)⟩⟩
theorem Rd.more (h : Rd w B A n cap us) (hB : B ≤ B') : Rd w B' A n cap us :=
  ⟨h.len, h.le, h.fit, h.nil, fun h0 => by
    obtain ⟨b, o, e, hb, hc⟩ := h.at_ h0
    exact ⟨b, o, e, by omega, hc⟩⟩
theorem Rd.below (h : Rd w B A n cap us) (hb : Below B w w') : Rd w' B A n cap us := h.keep fun p hp => hb.cell hp
theorem Rd.drewN {k : Nat} (h : Rd w B A n cap us) : Rd (w.drewN k) B A n cap us := h.keep (w' := w.drewN k) fun _ _ => rfl
theorem Rd.nilR (w : World) (B : Nat) : Rd w B none 0 0 [] := ⟨rfl, Nat.le_refl _, Nat.zero_le _, fun _ => rfl, fun h => absurd h (by omega)⟩
theorem Rd.ofOwn {base : Nat} {e : TypeId} {c : Nat} (h : w.ownsRow base e 1 (.slice A n c) n us) : Rd w w.heap.size A n c us := by
  obtain ⟨hl, h2 | ⟨g, cap, cur, hv, hg, hh, hn, hc, hs, ht⟩⟩ := h
  · obtain ⟨hv, hn⟩ := h2
    cases hv
    have : us = [] := by simpa using hl
    subst this
    exact Rd.nilR w _
  · cases hv
    refine ⟨by simpa using hl, hn, hc, (fun e => by cases e), fun _ => ⟨g, 0, rfl, lt_of hh, fun i u hu => ?_⟩⟩
    rw [cell_of _ hh, ← hu, ← ht, Nat.zero_add]
    have hi : i < us.length := by
      rcases Nat.lt_or_ge i us.length with h' | h'
      · exact h'
      · simp [List.getElem?_eq_none h'] at hu
    rw [List.getElem?_take_of_lt (by rw [← hl]; exact hi), Array.getElem?_toList]
theorem Rd.take {k : Nat} (h : Rd w B A n cap us) (hk : k ≤ n) : Rd w B A k cap (us.take k) :=
  ⟨by rw [List.length_take, h.len]; omega, by have := h.le; omega, h.fit, h.nil, fun h0 => by
    obtain ⟨b, o, e, hb, hc⟩ := h.at_ h0
    exact ⟨b, o, e, hb, fun i u hu => hc i u (by rw [List.getElem?_take] at hu; split at hu
                                                 · exact hu
                                                 · cases hu)⟩⟩
theorem Byt.length (h : Byt w B A n cap l) : l.length = n := by simpa using h.len
theorem Byt.below (h : Byt w B A n cap l) (hb : Below B w w') : Byt w' B A n cap l := Rd.below h hb
theorem Byt.more (h : Byt w B A n cap l) (hB : B ≤ B') : Byt w B' A n cap l := Rd.more h hB
theorem Byt.drewN {k : Nat} (h : Byt w B A n cap l) : Byt (w.drewN k) B A n cap l := Rd.drewN h
theorem Byt.take {k : Nat} (h : Byt w B A n cap l) (hk : k ≤ n) : Byt w B A k cap (l.take k) := by
  have := Rd.take h hk
  rwa [← List.map_take] at this
theorem Byt.cell {i : Nat} (h : Byt w B A n cap l) (hi : i < n) : ∃ b o c, A = some ⟨b, o, none⟩ ∧ b < B ∧ l[i]? = some c ∧ w.cell? ⟨b, o + i, none⟩ = some (.int .u8 (UInt8.toNat c : Int)) := by
  obtain ⟨b, o, e, hb, hc⟩ := h.at_ (by have := h.le; omega)
  have hl : i < l.length := by rw [h.length]; exact hi
  exact ⟨b, o, l[i], e, hb, List.getElem?_eq_getElem hl, hc i _ (by simp [hl, bv])⟩
/-- The same bytes as a shelf's contract reads them: numbers. -/
def nums (l : List UInt8) : List Int := l.map fun b => (b.toNat : Int)
theorem nums_length (l : List UInt8) : (nums l).length = l.length := by simp [nums]
theorem bytesOf_nums (l : List UInt8) : Lib.bytesOf (nums l) = l := by
  simp only [Lib.bytesOf, nums, List.map_map]
  conv => rhs; rw [← List.map_id l]
  refine List.map_congr_left fun b _ => ?_
  simp
theorem Byt.cells (h : Byt w B A n cap l) (h0 : 0 < cap) : ∃ b o, A = some ⟨b, o, none⟩ ∧ ∀ i, i < n → w.cell? ⟨b, o + i, none⟩ = some (.int .u8 ((nums l).getD i 0)) := by
  obtain ⟨b, o, e, hb, hc⟩ := h.at_ h0
  refine ⟨b, o, e, fun i hi => ?_⟩
  have hl : i < l.length := by rw [h.length]; exact hi
  rw [hc i _ (by simp [hl, bv]; rfl)]
  simp [nums, hl]
end
theorem cell_new1 (w : World) (u : Value) (T : TypeId) : ∀ (j : Nat) (v : Value), [u][j]? = some v → (w.alloc (.cells #[u] T)).cell? ((⟨w.heap.size, 0, none⟩ : Addr).add j) = some v := by
  intro j v hv
  cases j with
  | zero => simp at hv; subst hv; simp [Addr.add]
  | succ j => simp at hv
/-- 'out = append(out, u)' onto a row of the call's own, the elements of one cell each. -/
theorem wpList_app1 {P : Program} {ops : Array Oper} {rest : List Oper} {o : Oper} {a : Act} {Q : Exit → Act → World → Prop} {w : World} (hgd : o.guard = none) (s x : Operand) (t e : TypeId)
    (ho : o.op = .call { callee := .builtin .append, args := #[s, x], argTypes := #[t, t] }) (z : Value) (bytes : Nat) (ht : P.underlying t = some (.slice e))
    (hi : ∃ i, P.info? e = some i ∧ i.zero = some z ∧ i.size = 1 ∧ i.bytes = bytes) (hzs : z.cells.size = 1)
    (base : Nat) (v : Value) (n : Nat) (xs : List Value) (hs : a.eval s = v) (hown : w.ownsRow base e 1 v n xs) (u : Value) (hx : a.eval x = .slice (some ⟨w.heap.size, 0, none⟩) 1 1)
    (h1 : u.oneCell' = true) (hn : n ≤ 1000000000) (hby : bytes ≤ 1000) (hbase : base ≤ w.heap.size) (w0 : World) (B : Nat) (hb : Below B w0 w) (hB : B ≤ base)
    (h : ∀ v' w', w'.ownsRow base e 1 v' (n + 1) (xs ++ [u]) → Below B w0 w' → w.heap.size ≤ w'.heap.size → wpList P ops Q rest (a.put o.dst v') w') : wpList P ops Q (o :: rest) a (w.alloc (.cells #[u] e)) := by
  obtain ⟨i, hi, hz, hsz, hbt⟩ := hi
  refine wpList_append_own _ hgd s x t ho base e i z 1 bytes ht hi hz hsz hbt hzs (by decide) v n xs hs (hown.alloc _) ⟨w.heap.size, 0, none⟩ 1 1 [u] hx rfl (cell_new1 w u e) (by simpa using h1) (by unfold maxLen; omega) ?_ (by simp; omega) fun v' w' hown' hgrow _ => ?_
  · have : (n + 1) * bytes ≤ 1000000001 * 1000 := Nat.mul_le_mul (by omega) hby
    omega
  · have hw1 : Below B w0 (w.alloc (.cells #[u] e)) := hb.alloc (by omega) _
    have hw2 := hgrow.size
    refine h v' w' hown' (hw1.grown hgrow (by simp; omega) fun k hk => ?_) (by simp at hw2; omega)
    have := (hown.lt k hk).1
    omega
theorem info_int : ∃ i, Tryd.prog.info? 3 = some i ∧ i.zero = some (.int .i64 0) ∧ i.size = 1 ∧ i.bytes = 8 := by
  obtain ⟨i, h1, h2, h3, h4⟩ := info_parts (show (Tryd.prog.info? 3).map (fun i => (i.zero, i.size, i.bytes)) = some (some (.int .i64 0), 1, 8) by kernel_rfl)
  exact ⟨i, h1, h2, h3, h4⟩
theorem own_form {w : World} {base : Nat} {e : TypeId} {v : Value} {n : Nat} {xs : List Value} (h : w.ownsRow base e 1 v n xs) : ∃ A c, v = .slice A n c ∧ Rd w w.heap.size A n c xs := by
  have h' := h
  obtain ⟨hl, ⟨hv, hn⟩ | ⟨g, cap, cur, hv, r⟩⟩ := h
  · subst hn; exact ⟨none, 0, hv, Rd.ofOwn (c := 0) (hv ▸ h')⟩
  · exact ⟨_, cap, hv, Rd.ofOwn (hv ▸ h')⟩
/-- string(b), of bytes that can be read. -/
theorem Byt.str {w : World} {B n cap : Nat} {A : Option Addr} {l : List UInt8} (h : Byt w B A n cap l) : (convert 55 9 (.slice A n cap)).run Tryd.prog w = .ok (.string ⟨l.toArray⟩) w := by
  have hs : strOfNums (nums l) = ⟨l.toArray⟩ := by
    have : (strOfNums (nums l)).data.toList = l := by rw [strOfNums_data]; exact bytesOf_nums l
    refine ByteArray.ext ?_
    show (strOfNums (nums l)).data = l.toArray
    conv => rhs; rw [← this]
  rcases Nat.eq_zero_or_pos cap with h0 | h0
  · have hn := h.le
    obtain rfl : n = 0 := by omega
    obtain rfl : l = [] := List.length_eq_zero_iff.1 h.length
    cases A with
    | none => exact run_convert_bytes_nil w 55 5 Tryd.underlying55 Tryd.underlying5 0 cap 9 Tryd.underlying9
    | some a =>
      rw [run_convert_bytes_string w 55 9 5 _ 0 cap Tryd.underlying55 Tryd.underlying5 Tryd.underlying9]
      have := run_bytesToString (P := Tryd.prog) w a 0 cap [] (by simp [loadCells, loadCellsFrom])
      rw [this]; rfl
  · obtain ⟨b, o, rfl, hc⟩ := h.cells h0
    rw [← hs]
    exact run_convert_bytes_arg w 55 5 Tryd.underlying55 Tryd.underlying5 b o n cap (nums l) (by rw [nums_length, h.length]) hc 9 Tryd.underlying9
theorem Byt.drew {w : World} {B n cap : Nat} {A : Option Addr} {l : List UInt8} (h : Byt w B A n cap l) : Byt w.drew B A n cap l := Rd.keep (w' := w.drew) h fun _ _ => rfl
/-- The address of a slice that begins later. -/
def cutA (A : Option Addr) (cap s : Nat) : Option Addr := if cap = s then A else A.map (·.add s)
theorem addr_add (b o s : Nat) : (⟨b, o, none⟩ : Addr).add s = ⟨b, o + s, none⟩ := by
  unfold Addr.add
  split
  · rename_i h; subst h; rfl
  · rfl
theorem Rd.drop {w : World} {B n cap : Nat} {A : Option Addr} {us : List Value} {k : Nat} (h : Rd w B A n cap us) (hk : k ≤ n) : Rd w B (cutA A cap k) (n - k) (cap - k) (us.drop k) := by
  refine ⟨by rw [List.length_drop, h.len], by have := h.le; omega, by have := h.fit; omega, fun e => ?_, fun h0 => ?_⟩
  · unfold cutA at e
    split at e
    · omega
    · have : A = none := by cases A with
        | none => rfl
        | some a => simp at e
      have := h.nil this
      omega
  · obtain ⟨b, o, rfl, hb, hc⟩ := h.at_ (by omega)
    unfold cutA
    rw [if_neg (by omega), Option.map_some, addr_add]
    exact ⟨b, o + k, rfl, hb, fun i u hu => by rw [Nat.add_assoc]; exact hc (k + i) u (by rw [← hu, List.getElem?_drop])⟩
theorem Byt.drop {w : World} {B n cap : Nat} {A : Option Addr} {l : List UInt8} {k : Nat} (h : Byt w B A n cap l) (hk : k ≤ n) : Byt w B (cutA A cap k) (n - k) (cap - k) (l.drop k) := by
  have := Rd.drop h hk
  rwa [← List.map_drop] at this
theorem size_u8 (w : World) : (sizeOf (Tryd.prog.elem 55)).run Tryd.prog w = .ok 1 w := by kernel_rfl
/-- 'b[s:t]' of bytes. -/
theorem run_fromTo {w : World} (A : Option Addr) (n cap s t : Nat) (h : s ≤ t) (ht : t ≤ cap) : (Instr.slice 55 (.slice A n cap) (some (.int .i64 (s : Int))) (some (.int .i64 (t : Int))) none).run Tryd.prog w = .ok (.slice (cutA A cap s) (t - s) (cap - s)) w := by
  rw [run_slice_lh (P := Tryd.prog) (w := w) 55 A n cap (by kernel_rfl) .i64 .i64 s t (by omega) (by omega) (by omega), size_u8]
  simp [sliced, cutA]
end Go.Proofs.YtocbofeanfdggaaDoor
/- Plain facts on characters as bytes. -/
namespace Go.Proofs.YtocbofeanfdggaaDoor
open Go.ChangeShapes Go.WideShapes Go.ChangeAt Go.RowKit
set_option linter.unusedVariables false
theorem take_snoc (l : List UInt8) (k : Nat) (c : UInt8) (h : l[k]? = some c) : l.take (k + 1) = l.take k ++ [c] := by
  rw [List.take_add_one, h]; rfl
theorem toNat_eq (c d : UInt8) : ((c.toNat : Int) == (d.toNat : Int)) = decide (c = d) := by
  by_cases h : c = d
  · simp [h]
  · have : ¬ c.toNat = d.toNat := fun e => h (UInt8.toNat_inj.1 e)
    simp [h]; omega
/-- A character's number. -/
def isR (r : Int) : Bool := decide (0 ≤ r) && decide (r ≤ 1114111) && (decide (r < 55296) || decide (57343 < r))
/-- How many bytes a character has, by the first one; 0: it is none. -/
def lenB (c : Nat) : Nat := if c < 128 then 1 else if c < 192 then 0 else if c < 224 then 2 else if c < 240 then 3 else if c < 248 then 4 else 0
def msk (n c : Nat) : Nat := if n = 1 then c % 128 else if n = 2 then c % 32 else if n = 3 then c % 16 else c % 8
def least (n : Nat) : Nat := if n = 1 then 0 else if n = 2 then 128 else if n = 3 then 2048 else 65536
/-- What follows on a first byte. -/
def cont (r : Nat) : List UInt8 → Option Nat
  | [] => some r
  | c :: t => if 128 ≤ c.toNat ∧ c.toNat < 192 then cont (r * 64 + (c.toNat - 128)) t else none
/-- The character that bytes begin with, and how many of them it has. -/
def dec : List UInt8 → Option (Nat × Nat)
  | [] => none
  | c :: t => if lenB c.toNat = 0 ∨ t.length + 1 < lenB c.toNat then none else
    match cont (msk (lenB c.toNat) c.toNat) (t.take (lenB c.toNat - 1)) with
    | some r => if least (lenB c.toNat) ≤ r ∧ isR r = true then some (r, lenB c.toNat) else none
    | none => none
theorem lenB_le (c : Nat) : lenB c ≤ 4 := by unfold lenB; repeat' split <;> try omega
theorem dec_le (l : List UInt8) (r n : Nat) (h : dec l = some (r, n)) : 1 ≤ n ∧ n ≤ 4 ∧ n ≤ l.length ∧ r ≤ 1114111 := by
  cases l with
  | nil => simp [dec] at h
  | cons c t =>
    have h4 := lenB_le c.toNat
    simp only [dec] at h
    split at h
    · cases h
    · rename_i hn
      split at h
      · rename_i q hq
        split at h
        · rename_i hr
          simp only [Option.some.injEq, Prod.mk.injEq] at h
          obtain ⟨rfl, rfl⟩ := h
          simp only [not_or] at hn
          refine ⟨by omega, h4, by simp; omega, ?_⟩
          have := hr.2
          simp [isR] at this
          omega
        · cases h
      · cases h
end Go.Proofs.YtocbofeanfdggaaDoor
/- Strings: pieces; narthexref06.Digits. -/
namespace Go.Proofs.YtocbofeanfdggaaDoor
open Go.ChangeShapes Go.WideShapes Go.ChangeAt Go.RowKit
set_option linter.unusedVariables false
/-- 's[k]' of a string. -/
theorem run_strIndex (l : List UInt8) (k : Nat) (hk : k < l.length) (w : World) :
    (Instr.index 9 (.string ⟨l.toArray⟩) (.int .i64 (k : Int))).run Tryd.prog w = .ok (.int .u8 (UInt8.toNat (l.getD k 0) : Int)) w := by
  have hsz : (⟨l.toArray⟩ : ByteArray).size = l.length := by simp [ByteArray.size]
  have hb : ((⟨l.toArray⟩ : ByteArray)[k]'(by rw [hsz]; exact hk)) = l.getD k 0 := by
    simp [ByteArray.getElem_eq_getElem_data, hk]
  rw [run_index_string (P := Tryd.prog) w 9 ⟨l.toArray⟩ .i64 (k : Int) Tryd.underlying9, dif_pos ⟨by omega, by rw [hsz]; omega⟩]
  simp only [Int.toNat_natCast, hb]
theorem run_sop {w : World} (a b : List UInt8) (h : a.length + b.length ≤ 9223372036854775807) : (Op.stringOp .add ⟨a.toArray⟩ ⟨b.toArray⟩).run Tryd.prog w = .ok (.string ⟨(a ++ b).toArray⟩) w := by
  rw [run_string_add_sum w _ _ (by simp [ByteArray.size]; omega), ByteArray.mk_append_mk]
end Go.Proofs.YtocbofeanfdggaaDoor
/- strings.Builder: what its methods do to a builder that the call has made. -/
namespace Go.Proofs.YtocbofeanfdggaaDoor
open Go.ChangeShapes Go.WideShapes Go.ChangeAt Go.RowKit
set_option linter.unusedVariables false
/-- A strings.Builder that the call has made, in block b, that holds the bytes l; its row of bytes lies at R or behind; p: what 'addr' holds. -/
def BldP (p : Value) (R b : Nat) (l : List UInt8) (w : World) : Prop :=
  b < R ∧ ∃ v, w.heap[b]? = some (.cells #[p, v] 57 (0, 0)) ∧ w.ownsRow R 5 1 v l.length (Lib.byteCells l)
/-- .. fresh or used. -/
def Bld (R b : Nat) (l : List UInt8) (w : World) : Prop := BldP (.pointer none) R b l w ∨ BldP (.pointer (some ⟨b, 0, none⟩)) R b l w
/-- Below R every block but b stands. -/
structure Fr (R b : Nat) (w w' : World) : Prop where
  os : w'.os = w.os
  tape : w'.tape = w.tape
  output : w'.output = w.output
  size : w.heap.size ≤ w'.heap.size
  block : ∀ k, k < R → k ≠ b → w'.heap[k]? = w.heap[k]?
theorem Fr.refl (R b : Nat) (w : World) : Fr R b w w := ⟨rfl, rfl, rfl, Nat.le_refl _, fun _ _ _ => rfl⟩
theorem Fr.trans {R b : Nat} {x y z : World} (h : Fr R b x y) (k : Fr R b y z) : Fr R b x z :=
  ⟨k.os.trans h.os, k.tape.trans h.tape, k.output.trans h.output, Nat.le_trans h.size k.size, fun i hi hb => (k.block i hi hb).trans (h.block i hi hb)⟩
theorem Fr.below {R b B : Nat} {w w' : World} (h : Fr R b w w') (hR : B ≤ R) (hb : B ≤ b) : Below B w w' := ⟨h.os, h.tape, h.output, h.size, fun k hk => h.block k (by omega) (by omega)⟩
theorem Fr.mono {R R' b : Nat} {w w' : World} (h : Fr R b w w') (hR : R' ≤ R) : Fr R' b w w' := ⟨h.os, h.tape, h.output, h.size, fun k hk hb => h.block k (by omega) hb⟩
theorem Fr.set {R b : Nat} {w w' : World} (h : Fr R b w w') (i : Nat) (v : Value) : Fr R b w (w'.setCell ⟨b, i, none⟩ v) :=
  ⟨h.os, h.tape, h.output, by have := h.size; simpa [World.setCell] using this, fun k hk hb => by rw [hp_other hb]; exact h.block k hk hb⟩
theorem ownsRow_base {w : World} {B B' : Nat} {e : TypeId} {c : Nat} {v : Value} {n : Nat} {xs : List Value} (h : w.ownsRow B e c v n xs) (hB : B' ≤ B) : w.ownsRow B' e c v n xs := by
  obtain ⟨hl, h2 | ⟨g, cap, cur, hv, hg, r⟩⟩ := h
  · exact ⟨hl, Or.inl h2⟩
  · exact ⟨hl, Or.inr ⟨g, cap, cur, hv, by omega, r⟩⟩
theorem Bld.p {R b : Nat} {l : List UInt8} {w : World} (h : Bld R b l w) : ∃ p, BldP p R b l w := by
  rcases h with h | h
  · exact ⟨_, h⟩
  · exact ⟨_, h⟩
theorem Bld.lt {R b : Nat} {l : List UInt8} {w : World} (h : Bld R b l w) : b < w.heap.size := by
  obtain ⟨p, hb, v, hh, ho⟩ := h.p
  exact lt_of hh
theorem BldP.alloc {p : Value} {R b : Nat} {l : List UInt8} {w : World} (h : BldP p R b l w) (o : Obj) : BldP p R b l (w.alloc o) := by
  obtain ⟨hb, v, hh, ho⟩ := h
  exact ⟨hb, v, hp_old hh, ho.alloc _⟩
theorem Bld.alloc {R b : Nat} {l : List UInt8} {w : World} (h : Bld R b l w) (o : Obj) : Bld R b l (w.alloc o) := by
  rcases h with h | h
  · exact Or.inl (h.alloc o)
  · exact Or.inr (h.alloc o)
theorem Bld.drewN {R b : Nat} {l : List UInt8} {w : World} (h : Bld R b l w) (n : Nat) : Bld R b l (w.drewN n) := h
/-- Below the heap's size every block stands: so does the builder. -/
theorem BldP.kept {p : Value} {R b : Nat} {l : List UInt8} {w w' : World} (h : BldP p R b l w) (hb : Below w.heap.size w w') : BldP p R b l w' := by
  obtain ⟨hb', v, hh, ho⟩ := h
  refine ⟨hb', v, (hb.block b (lt_of hh)).trans hh, ho.kept (row := none) (hb.gr none) ?_⟩
  cases hv : v.ownBlock with
  | none => exact Or.inl rfl
  | some k => exact Or.inr (by simp)
theorem Bld.kept {R b : Nat} {l : List UInt8} {w w' : World} (h : Bld R b l w) (hb : Below w.heap.size w w') : Bld R b l w' := by
  rcases h with h | h
  · exact Or.inl (h.kept hb)
  · exact Or.inr (h.kept hb)
theorem Bld.fresh (R : Nat) (w : World) (hR : w.heap.size < R) : Bld R w.heap.size [] (w.alloc (.cells #[.pointer none, .slice none 0 0] 57)) :=
  Or.inl ⟨hR, .slice none 0 0, hp_new w _, World.ownsRow_nil _ _ _ _⟩
theorem Bld.is {R b : Nat} {l : List UInt8} {w : World} (h : Bld R b l w) : Lib.IsBuilder 57 5 b b (Lib.byteCells l) w := by
  have aux : ∀ p, BldP p R b l w → Lib.BuilderAt 57 5 b b p (Lib.byteCells l) w := by
    rintro p ⟨hb, v, hh, ho⟩
    refine ⟨Nat.le_refl _, v, hh, ?_, ?_⟩
    · rw [Lib.byteCells_length]; exact ownsRow_base ho (by omega)
    · intro e
      have := (ho.lt b e).1
      omega
  rcases h with h | h
  · exact Or.inl (aux _ h)
  · exact Or.inr (aux _ h)
end Go.Proofs.YtocbofeanfdggaaDoor
/- cref.Escape. -/
namespace Go.Proofs.YtocbofeanfdggaaDoor
open Go.ChangeShapes Go.WideShapes Go.ChangeAt Go.RowKit
set_option linter.unusedVariables false
theorem ne_byte (c n : UInt8) (z : Int) (hz : z = (n.toNat : Int)) (h : ¬ c = n) : ((c.toNat : Int) == z) = false := by rw [hz, toNat_eq]; simp [h]
end Go.Proofs.YtocbofeanfdggaaDoor
/- Bytes of a string, of a constant. -/
namespace Go.Proofs.YtocbofeanfdggaaDoor
open Go.ChangeShapes Go.WideShapes Go.ChangeAt Go.RowKit
set_option linter.unusedVariables false
theorem byt_new (w : World) (l : List UInt8) (hl : l.length ≤ 1000000) : Byt (Lib.bytesWorld w 5 ⟨l.toArray⟩) (w.heap.size + 1) (some ⟨w.heap.size, 0, none⟩) l.length (grownCap w l.length 0 5) l := by
  have hsz : (⟨l.toArray⟩ : ByteArray).size = l.length := by simp [ByteArray.size]
  refine ⟨by simp, grownCap_ge _ _ _ _, grownCap_le_maxLen _ _ _ _ (by unfold maxLen; omega), (fun e => by cases e), fun _ => ⟨_, _, rfl, by omega, fun i u hu => ?_⟩⟩
  have hi : i < l.length := by
    rcases Nat.lt_or_ge i l.length with h' | h'
    · exact h'
    · rw [List.getElem?_eq_none (by simpa using h')] at hu; cases hu
  rw [Nat.zero_add, Lib.bytesWorld_cell _ _ _ _ (by rw [hsz]; exact hi)]
  rw [List.getElem?_map, List.getElem?_eq_getElem hi] at hu
  simp only [Option.map_some, Option.some.injEq] at hu
  rw [← hu]
  simp [bv, hi]
theorem run_toBytes (w : World) (l : List UInt8) : (convert 9 55 (.string ⟨l.toArray⟩)).run Tryd.prog w = .ok (.slice (some ⟨w.heap.size, 0, none⟩) l.length (grownCap w l.length 0 5)) (Lib.bytesWorld w 5 ⟨l.toArray⟩) := by
  have hsz : (⟨l.toArray⟩ : ByteArray).size = l.length := by simp [ByteArray.size]
  have := Lib.run_convert_string_bytes (P := Tryd.prog) w 9 55 5 ⟨l.toArray⟩ Tryd.underlying9 Tryd.underlying55 Tryd.underlying5
  rwa [hsz] at this
end Go.Proofs.YtocbofeanfdggaaDoor
