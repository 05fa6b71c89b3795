/- Small lemmas on worlds, slices of bytes and strings that this seat's texts use; no condition. -/
import Derived.Test.YtbllodeanfdebaaGreatDoorRows
import Derived.WalkKit
import Derived.ProofKit
import Derived.OpenShut
import Derived.ShutString
import Derived.ChangeOld
import Derived.Below
import Derived.BigQuiet
import Derived.Deep.QuietTactic
import Derived.Lib.Hide
import Derived.Deep.RegionHeld3
import Derived.Lib.SlBytesConst
import Derived.Laws.CopyOwn
import Derived.Laws.CopyRow
import Derived.Lib.Bytes
import Derived.Deep.LoopGhost
import Derived.Deep.DeepFit
import Derived.Deep.DeepMust
import Derived.WalkSpells
import Derived.WalkLawsBesides
namespace Go.Proofs.YtbllodeanfdebaaGreatDoor
open Go.ChangeShapes Go.WideShapes Go.ChangeAt Go.RowKit
set_option linter.unusedVariables false
/-- What every file over this seat uses: blocks of cells as wholes, and how they stand behind a store and a new block. -/
theorem cell_of {w : World} {b : Nat} {vs : Array Value} {T : TypeId} {f : Nat × Nat} (i : Nat) (h : w.heap[b]? = some (.cells vs T f)) : w.cell? ⟨b, i, none⟩ = vs[i]? := by simp [World.cell?, h]
theorem free_of {w : World} {b : Nat} {vs : Array Value} {T : TypeId} (i : Nat) (h : w.heap[b]? = some (.cells vs T)) : w.frozen? ⟨b, i, none⟩ = false := by simp [World.frozen?, h]
theorem lt_of {w : World} {b : Nat} {o : Obj} (h : w.heap[b]? = some o) : b < w.heap.size := by
  rcases Nat.lt_or_ge b w.heap.size with h' | h'
  · exact h'
  · simp [Array.getElem?_eq_none h'] at h
theorem hp_new (w : World) (o : Obj) : (w.alloc o).heap[w.heap.size]? = some o := by
  show (w.heap.push o)[w.heap.size]? = _
  simp
theorem hp_old {w : World} {o o' : Obj} {k : Nat} (h : w.heap[k]? = some o') : (w.alloc o).heap[k]? = some o' := by
  rw [← h]; exact Below.heap_alloc _ _ _ (lt_of h)
theorem hp_other {w : World} {b i k : Nat} {v : Value} (h : k ≠ b) : (w.setCell ⟨b, i, none⟩ v).heap[k]? = w.heap[k]? := Below.heap_setCell _ _ _ _ h
theorem hp_set {w : World} {b i : Nat} {v : Value} {vs : Array Value} {T : TypeId} {f : Nat × Nat} (h : w.heap[b]? = some (.cells vs T f)) :
    (w.setCell ⟨b, i, none⟩ v).heap[b]? = some (.cells (vs.setIfInBounds i v) T f) := by
  simp [World.setCell, Array.getElem?_modify, h]
theorem below_drewN' {B : Nat} {a w : World} {n : Nat} (h : Below B a w) : Below B a (w.drewN n) := below_drewN h n
theorem gr_refl (w : World) (row : Option Nat) : w.grownBy w row := ⟨rfl, rfl, rfl, Nat.le_refl _, fun _ _ _ => rfl⟩
theorem _root_.Go.World.grownBy.trans' {a b c : World} {row : Option Nat} (h : a.grownBy b row) (k : b.grownBy c row) : a.grownBy c row :=
  ⟨k.os.trans h.os, k.tape.trans h.tape, k.output.trans h.output, Nat.le_trans h.size k.size, fun i hi hr => (k.block i (Nat.lt_of_lt_of_le hi h.size) hr).trans (h.block i hi hr)⟩
theorem _root_.Go.World.grownBy.drewN {a w : World} {row : Option Nat} {n : Nat} (h : a.grownBy w row) : a.grownBy (w.drewN n) row := ⟨h.os, h.tape, h.output, h.size, h.block⟩
theorem _root_.Go.World.grownBy.setCell {a w : World} {b : Nat} (h : a.grownBy w (some b)) (i : Nat) (v : Value) : a.grownBy (w.setCell ⟨b, i, none⟩ v) (some b) :=
  ⟨h.os, h.tape, h.output, by simpa using h.size, fun k hk hr => by rw [hp_other (by intro e; exact hr (by rw [e]))]; exact h.block k hk hr⟩
theorem _root_.Go.World.grownBy.alloc {a w : World} {row : Option Nat} (h : a.grownBy w row) (o : Obj) : a.grownBy (w.alloc o) row :=
  ⟨h.os, h.tape, h.output, by have := h.size; simp; omega, fun k hk hr => by rw [Below.heap_alloc _ _ _ (by have := h.size; omega)]; exact h.block k hk hr⟩
theorem _root_.Go.RowKit.Below.gr {w w' : World} (h : Below w.heap.size w w') (row : Option Nat) : w.grownBy w' row := ⟨h.os, h.tape, h.output, h.size, fun k hk _ => h.block k hk⟩
theorem _root_.Go.World.grownBy.below {w w' : World} {b B : Nat} (h : w.grownBy w' (some b)) (hB : B ≤ w.heap.size) (hb : B ≤ b) : Below B w w' := (Below.refl B w).grown h hB fun k e => by cases e; exact hb
/-- WHAT THE WALK IS TOLD OF A SLICE OF INTEGERS THAT CAME IN. -/
def IsRow (k : IntKind) (w : World) (a : Option Addr) (len cap : Nat) (zs : List Int) : Prop :=
  (a = none ∧ len = 0 ∧ cap = 0 ∧ zs = []) ∨
  ∃ x, a = some x ∧ len ≤ cap ∧ cap ≤ maxLen ∧ zs.length = cap ∧ (∀ i, i < zs.length → w.cell? (x.add i) = some (.int k (zs.getD i 0))) ∧ ∀ n ∈ zs, (Lit.int k n).wf = true
theorem IsRow.at {k : IntKind} {w : World} {a : Option Addr} {len cap : Nat} {zs : List Int} (h : IsRow k w a len cap zs) : len ≤ cap ∧ zs.length = cap ∧ len ≤ maxLen ∧
    (0 < len → ∃ b o, a = some ⟨b, o, none⟩ ∧ b < w.heap.size ∧ ∀ i, i < len → w.cell? ⟨b, o + i, none⟩ = some (.int k (zs.getD i 0))) := by
  rcases h with ⟨rfl, rfl, rfl, rfl⟩ | ⟨⟨b, o, s⟩, rfl, hl, hm, hz, hc, _⟩
  · exact ⟨by omega, rfl, Nat.zero_le _, fun h => absurd h (by omega)⟩
  · refine ⟨hl, hz, by omega, fun h0 => ?_⟩
    have h := hc 0 (by omega)
    have hs : s = none := by simpa [Addr.add] using World.cell?_spot h
    subst hs
    exact ⟨b, o, rfl, World.block_lt_of_cell? w _ h, fun i hi => by
    have := hc i (by omega)
    unfold Addr.add at this
    split at this
    · rename_i hi; subst hi; exact this
    · exact this⟩

/-- One byte as the model holds it. -/
def bv (b : UInt8) : Value := .int .u8 b.toNat
/-- A slice of one-cell elements that can be read: n elements, room for cap, its cells below block B. -/
structure Rd (w : World) (B : Nat) (A : Option Addr) (n cap : Nat) (us : List Value) : Prop where
  len : us.length = n
  le : n ≤ cap
  fit : cap ≤ maxLen
  nil : A = none → cap = 0
  at_ : 0 < cap → ∃ b o, A = some ⟨b, o, none⟩ ∧ b < B ∧ ∀ i u, us[i]? = some u → w.cell? ⟨b, o + i, none⟩ = some u
/-- A slice of bytes that can be read. -/
def Byt (w : World) (B : Nat) (A : Option Addr) (n cap : Nat) (l : List UInt8) : Prop := Rd w B A n cap (l.map bv)
section
variable {w w' : World} {B B' n cap : Nat} {A : Option Addr} {us : List Value} {l : List UInt8}
theorem Rd.keep (h : Rd w B A n cap us) (hk : ∀ p : Addr, p.block < B → w'.cell? p = w.cell? p) : Rd w' B A n cap us :=
  ⟨h.len, h.le, h.fit, h.nil, fun h0 => by
    obtain ⟨b, o, e, hb, hc⟩ := h.at_ h0
    exact ⟨b, o, e, hb, fun i u hu => (hk ⟨b, o + i, none⟩ hb).trans (hc i u hu)⟩⟩
theorem Rd.more (h : Rd w B A n cap us) (hB : B ≤ B') : Rd w B' A n cap us :=
  ⟨h.len, h.le, h.fit, h.nil, fun h0 => by
    obtain ⟨b, o, e, hb, hc⟩ := h.at_ h0
    exact ⟨b, o, e, by omega, hc⟩⟩
theorem Rd.below (h : Rd w B A n cap us) (hb : Below B w w') : Rd w' B A n cap us := h.keep fun p hp => hb.cell hp
theorem Rd.drewN {k : Nat} (h : Rd w B A n cap us) : Rd (w.drewN k) B A n cap us := h.keep (w' := w.drewN k) fun _ _ => rfl
theorem Rd.nilR (w : World) (B : Nat) : Rd w B none 0 0 [] := ⟨rfl, Nat.le_refl _, Nat.zero_le _, fun _ => rfl, fun h => absurd h (by omega)⟩
theorem Rd.ofOwn {base : Nat} {e : TypeId} {c : Nat} (h : w.ownsRow base e 1 (.slice A n c) n us) : Rd w w.heap.size A n c us := by
  obtain ⟨hl, h2 | ⟨g, cap, cur, hv, hg, hh, hn, hc, hs, ht⟩⟩ := h
  · obtain ⟨hv, hn⟩ := h2
    cases hv
    have : us = [] := by simpa using hl
    subst this
    exact Rd.nilR w _
  · cases hv
    refine ⟨by simpa using hl, hn, hc, (fun e => by cases e), fun _ => ⟨g, 0, rfl, lt_of hh, fun i u hu => ?_⟩⟩
    rw [cell_of _ hh, ← hu, ← ht, Nat.zero_add]
    have hi : i < us.length := by
      rcases Nat.lt_or_ge i us.length with h' | h'
      · exact h'
      · simp [List.getElem?_eq_none h'] at hu
    rw [List.getElem?_take_of_lt (by rw [← hl]; exact hi), Array.getElem?_toList]
theorem Rd.take {k : Nat} (h : Rd w B A n cap us) (hk : k ≤ n) : Rd w B A k cap (us.take k) :=
  ⟨by rw [List.length_take, h.len]; omega, by have := h.le; omega, h.fit, h.nil, fun h0 => by
    obtain ⟨b, o, e, hb, hc⟩ := h.at_ h0
    exact ⟨b, o, e, hb, fun i u hu => hc i u (by rw [List.getElem?_take] at hu; split at hu
                                                 · exact hu
                                                 · cases hu)⟩⟩
theorem Byt.length (h : Byt w B A n cap l) : l.length = n := by simpa using h.len
theorem Byt.below (h : Byt w B A n cap l) (hb : Below B w w') : Byt w' B A n cap l := Rd.below h hb
theorem Byt.more (h : Byt w B A n cap l) (hB : B ≤ B') : Byt w B' A n cap l := Rd.more h hB
theorem Byt.drewN {k : Nat} (h : Byt w B A n cap l) : Byt (w.drewN k) B A n cap l := Rd.drewN h
theorem Byt.take {k : Nat} (h : Byt w B A n cap l) (hk : k ≤ n) : Byt w B A k cap (l.take k) := by
  have := Rd.take h hk
  rwa [← List.map_take] at this
theorem Byt.cell {i : Nat} (h : Byt w B A n cap l) (hi : i < n) : ∃ b o c, A = some ⟨b, o, none⟩ ∧ b < B ∧ l[i]? = some c ∧ w.cell? ⟨b, o + i, none⟩ = some (.int .u8 (UInt8.toNat c : Int)) := by
  obtain ⟨b, o, e, hb, hc⟩ := h.at_ (by have := h.le; omega)
  have hl : i < l.length := by rw [h.length]; exact hi
  exact ⟨b, o, l[i], e, hb, List.getElem?_eq_getElem hl, hc i _ (by simp [hl, bv])⟩
theorem Byt.ofRow {z : List Int} (h : IsRow .u8 w A n cap z) : Byt w w.heap.size A n cap ((z.take n).map fun x => UInt8.ofNat x.toNat) := by
  rcases h with ⟨rfl, rfl, rfl, rfl⟩ | ⟨⟨b, o, s⟩, rfl, hl, hm, hz, hc, hwf⟩
  · exact Rd.nilR w _
  · refine ⟨by simp; omega, hl, hm, (fun e => by cases e), fun h0 => ?_⟩
    have h := hc 0 (by omega)
    have hs : s = none := by simpa [Addr.add] using World.cell?_spot h
    subst hs
    refine ⟨b, o, rfl, World.block_lt_of_cell? w _ h, fun i u hu => ?_⟩
    have hi : i < n := by
      rcases Nat.lt_or_ge i n with h' | h'
      · exact h'
      · rw [List.getElem?_eq_none (by simp; omega)] at hu; cases hu
    have hiz : i < z.length := by omega
    have hci := hc i hiz
    have hr := bounds_u8 (hwf z[i] (List.getElem_mem hiz))
    have hu' : u = .int .u8 z[i] := by
      simp only [List.getElem?_map, List.getElem?_take_of_lt hi, List.getElem?_eq_getElem hiz, Option.map_some, Option.some.injEq] at hu
      rw [← hu, bv]
      congr 1
      rw [UInt8.toNat_ofNat_of_lt' (by show z[i].toNat < 256; omega)]
      omega
    rw [hu']
    rw [List.getD_eq_getElem?_getD, List.getElem?_eq_getElem hiz] at hci
    unfold Addr.add at hci
    split at hci
    · rename_i h0; subst h0; exact hci
    · exact hci
/-- The same bytes as a shelf's contract reads them: numbers. -/
def nums (l : List UInt8) : List Int := l.map fun b => (b.toNat : Int)
theorem nums_length (l : List UInt8) : (nums l).length = l.length := by simp [nums]
theorem bytesOf_nums (l : List UInt8) : Lib.bytesOf (nums l) = l := by
  simp only [Lib.bytesOf, nums, List.map_map]
  conv => rhs; rw [← List.map_id l]
  refine List.map_congr_left fun b _ => ?_
  simp
theorem nums_range (l : List UInt8) : ∀ x ∈ nums l, 0 ≤ x ∧ x < 256 := by
  intro x hx
  obtain ⟨b, _, rfl⟩ := List.mem_map.1 hx
  have := b.toNat_lt
  exact ⟨by omega, by omega⟩
theorem Byt.cells (h : Byt w B A n cap l) (h0 : 0 < cap) : ∃ b o, A = some ⟨b, o, none⟩ ∧ ∀ i, i < n → w.cell? ⟨b, o + i, none⟩ = some (.int .u8 ((nums l).getD i 0)) := by
  obtain ⟨b, o, e, hb, hc⟩ := h.at_ h0
  refine ⟨b, o, e, fun i hi => ?_⟩
  have hl : i < l.length := by rw [h.length]; exact hi
  rw [hc i _ (by simp [hl, bv]; rfl)]
  simp [nums, hl]
end
theorem cell_new1 (w : World) (u : Value) (T : TypeId) : ∀ (j : Nat) (v : Value), [u][j]? = some v → (w.alloc (.cells #[u] T)).cell? ((⟨w.heap.size, 0, none⟩ : Addr).add j) = some v := by
  intro j v hv
  cases j with
  | zero => simp at hv; subst hv; simp [Addr.add]
  | succ j => simp at hv
/-- 'out = append(out, u)' onto a row of the call's own, the elements of one cell each. -/
theorem wpList_app1 {P : Program} {ops : Array Oper} {rest : List Oper} {o : Oper} {a : Act} {Q : Exit → Act → World → Prop} {w : World} (hgd : o.guard = none) (s x : Operand) (t e : TypeId)
    (ho : o.op = .call { callee := .builtin .append, args := #[s, x], argTypes := #[t, t] }) (z : Value) (bytes : Nat) (ht : P.underlying t = some (.slice e))
    (hi : ∃ i, P.info? e = some i ∧ i.zero = some z ∧ i.size = 1 ∧ i.bytes = bytes) (hzs : z.cells.size = 1)
    (base : Nat) (v : Value) (n : Nat) (xs : List Value) (hs : a.eval s = v) (hown : w.ownsRow base e 1 v n xs) (u : Value) (hx : a.eval x = .slice (some ⟨w.heap.size, 0, none⟩) 1 1)
    (h1 : u.oneCell' = true) (hn : n ≤ 1000000000) (hby : bytes ≤ 1000) (hbase : base ≤ w.heap.size) (w0 : World) (B : Nat) (hb : Below B w0 w) (hB : B ≤ base)
    (h : ∀ v' w', w'.ownsRow base e 1 v' (n + 1) (xs ++ [u]) → Below B w0 w' → w.heap.size ≤ w'.heap.size → wpList P ops Q rest (a.put o.dst v') w') : wpList P ops Q (o :: rest) a (w.alloc (.cells #[u] e)) := by
  obtain ⟨i, hi, hz, hsz, hbt⟩ := hi
  refine wpList_append_own _ hgd s x t ho base e i z 1 bytes ht hi hz hsz hbt hzs (by decide) v n xs hs (hown.alloc _) ⟨w.heap.size, 0, none⟩ 1 1 [u] hx rfl (cell_new1 w u e) (by simpa using h1) (by unfold maxLen; omega) ?_ (by simp; omega) fun v' w' hown' hgrow _ => ?_
  · have : (n + 1) * bytes ≤ 1000000001 * 1000 := Nat.mul_le_mul (by omega) hby
    omega
  · have hw1 : Below B w0 (w.alloc (.cells #[u] e)) := hb.alloc (by omega) _
    have hw2 := hgrow.size
    refine h v' w' hown' (hw1.grown hgrow (by simp; omega) fun k hk => ?_) (by simp at hw2; omega)
    have := (hown.lt k hk).1
    omega
theorem info_u8 : ∃ i, Tryz.prog.info? 5 = some i ∧ i.zero = some (.int .u8 0) ∧ i.size = 1 ∧ i.bytes = 1 := by
  obtain ⟨i, h1, h2, h3, h4⟩ := info_parts (show (Tryz.prog.info? 5).map (fun i => (i.zero, i.size, i.bytes)) = some (some (.int .u8 0), 1, 1) by kernel_rfl)
  exact ⟨i, h1, h2, h3, h4⟩
theorem info_int : ∃ i, Tryz.prog.info? 3 = some i ∧ i.zero = some (.int .i64 0) ∧ i.size = 1 ∧ i.bytes = 8 := by
  obtain ⟨i, h1, h2, h3, h4⟩ := info_parts (show (Tryz.prog.info? 3).map (fun i => (i.zero, i.size, i.bytes)) = some (some (.int .i64 0), 1, 8) by kernel_rfl)
  exact ⟨i, h1, h2, h3, h4⟩
theorem own_form {w : World} {base : Nat} {e : TypeId} {v : Value} {n : Nat} {xs : List Value} (h : w.ownsRow base e 1 v n xs) : ∃ A c, v = .slice A n c ∧ Rd w w.heap.size A n c xs := by
  have h' := h
  obtain ⟨hl, ⟨hv, hn⟩ | ⟨g, cap, cur, hv, r⟩⟩ := h
  · subst hn; exact ⟨none, 0, hv, Rd.ofOwn (c := 0) (hv ▸ h')⟩
  · exact ⟨_, cap, hv, Rd.ofOwn (hv ▸ h')⟩
/-- string(b), of bytes that can be read. -/
theorem Byt.str {w : World} {B n cap : Nat} {A : Option Addr} {l : List UInt8} (h : Byt w B A n cap l) : (convert 23 9 (.slice A n cap)).run Tryz.prog w = .ok (.string ⟨l.toArray⟩) w := by
  have hs : strOfNums (nums l) = ⟨l.toArray⟩ := by
    have : (strOfNums (nums l)).data.toList = l := by rw [strOfNums_data]; exact bytesOf_nums l
    refine ByteArray.ext ?_
    show (strOfNums (nums l)).data = l.toArray
    conv => rhs; rw [← this]
  rcases Nat.eq_zero_or_pos cap with h0 | h0
  · have hn := h.le
    obtain rfl : n = 0 := by omega
    obtain rfl : l = [] := List.length_eq_zero_iff.1 h.length
    cases A with
    | none => exact run_convert_bytes_nil w 23 5 Tryz.underlying23 Tryz.underlying5 0 cap 9 Tryz.underlying9
    | some a =>
      rw [run_convert_bytes_string w 23 9 5 _ 0 cap Tryz.underlying23 Tryz.underlying5 Tryz.underlying9]
      have := run_bytesToString (P := Tryz.prog) w a 0 cap [] (by simp [loadCells, loadCellsFrom])
      rw [this]; rfl
  · obtain ⟨b, o, rfl, hc⟩ := h.cells h0
    rw [← hs]
    exact run_convert_bytes_arg w 23 5 Tryz.underlying23 Tryz.underlying5 b o n cap (nums l) (by rw [nums_length, h.length]) hc 9 Tryz.underlying9
/-- A constant's bytes in a block of their own. -/
theorem Byt.const (w : World) (l : List UInt8) (f : Nat × Nat) (hl : l.length ≤ 1000000) : Byt (w.alloc (.cells (l.map bv).toArray 5 f)) (w.heap.size + 1) (some ⟨w.heap.size, 0, none⟩) l.length l.length l :=
  ⟨by simp, Nat.le_refl _, by unfold maxLen; omega, (fun e => by cases e), fun _ => ⟨w.heap.size, 0, rfl, by omega, fun i u hu => by rw [cell_of _ (hp_new _ _), Nat.zero_add, List.getElem?_toArray]; exact hu⟩⟩
theorem Byt.drew {w : World} {B n cap : Nat} {A : Option Addr} {l : List UInt8} (h : Byt w B A n cap l) : Byt w.drew B A n cap l := Rd.keep (w' := w.drew) h fun _ _ => rfl
theorem wpAnyH_mono {P : Program} {md : Region.Mode} {ops : Array Oper} {Q : Exit → Act → World → Prop} {S S' : World → Prop} (hs : ∀ w, S w → S' w) :
    ∀ {fuel : Nat} {listed : Array Bool} {a : Act} {w : World}, wpAnyH P md ops Q S fuel listed a w → wpAnyH P md ops Q S' fuel listed a w := by
  intro fuel
  induction fuel with
  | zero => intro listed a w h; exact h
  | succ fuel ih => intro listed a w h; exact ⟨h.1, fun i hi => wpOp_mono (fun a' w' h' => ⟨hs _ h'.1, ih h'.2⟩) (h.2 i hi)⟩
/-- 'wpAnyH_take', the slot that is written told by its number. -/
theorem wpAnyH_takeD {P : Program} {md : Region.Mode} {ops : Array Oper} {Q : Exit → Act → World → Prop} {S : World → Prop} {i : Nat} {oi : Oper} {v : Value} {fuel : Nat} {listed : Array Bool} {tmps : Array Value} {ds : List Deferred} {w : World} (d : Tmp)
    (hi : ops[i]? = some oi) (hd : oi.dst = some d) (hs : Region.noSelect ops = true) (hf : Region.free md ops listed i = true) (hr : (Region.ready md ops listed).contains i = true)
    (hQ : ∀ c a w, Q (.panic c) (a.put oi.dst v) w → Q (.panic c) a w) (hy : YieldsIf P ops S oi v ⟨tmps, ds⟩) (hS : S w)
    (h : wpAnyH P md ops Q S fuel (listed.setIfInBounds i true) ⟨tmps.setIfInBounds d v, ds⟩ w) : wpAnyH P md ops Q S (fuel + 1) listed ⟨tmps, ds⟩ w :=
  wpAnyH_take hi hs hf hr hQ hy hS (by rw [hd]; exact h)
/-- The address of a slice that begins later. -/
def cutA (A : Option Addr) (cap s : Nat) : Option Addr := if cap = s then A else A.map (·.add s)
theorem addr_add (b o s : Nat) : (⟨b, o, none⟩ : Addr).add s = ⟨b, o + s, none⟩ := by
  unfold Addr.add
  split
  · rename_i h; subst h; rfl
  · rfl
theorem Rd.drop {w : World} {B n cap : Nat} {A : Option Addr} {us : List Value} {k : Nat} (h : Rd w B A n cap us) (hk : k ≤ n) : Rd w B (cutA A cap k) (n - k) (cap - k) (us.drop k) := by
  refine ⟨by rw [List.length_drop, h.len], by have := h.le; omega, by have := h.fit; omega, fun e => ?_, fun h0 => ?_⟩
  · unfold cutA at e
    split at e
    · omega
    · have : A = none := by cases A with
        | none => rfl
        | some a => simp at e
      have := h.nil this
      omega
  · obtain ⟨b, o, rfl, hb, hc⟩ := h.at_ (by omega)
    unfold cutA
    rw [if_neg (by omega), Option.map_some, addr_add]
    exact ⟨b, o + k, rfl, hb, fun i u hu => by rw [Nat.add_assoc]; exact hc (k + i) u (by rw [← hu, List.getElem?_drop])⟩
theorem Byt.drop {w : World} {B n cap : Nat} {A : Option Addr} {l : List UInt8} {k : Nat} (h : Byt w B A n cap l) (hk : k ≤ n) : Byt w B (cutA A cap k) (n - k) (cap - k) (l.drop k) := by
  have := Rd.drop h hk
  rwa [← List.map_drop] at this
theorem size_u8 (w : World) : (sizeOf (Tryz.prog.elem 23)).run Tryz.prog w = .ok 1 w := by kernel_rfl
/-- 'b[s:]' of bytes, the address under one name. -/
theorem run_from {w : World} (A : Option Addr) (n cap s : Nat) (h : s ≤ n) : (Instr.slice 23 (.slice A n cap) (some (.int .i64 (s : Int))) none none).run Tryz.prog w = .ok (.slice (cutA A cap s) (n - s) (cap - s)) w := by
  rw [run_slice_l (P := Tryz.prog) (w := w) 23 A n cap (by kernel_rfl) .i64 s (by omega) (by omega), size_u8]
  simp [sliced, cutA]
/-- 'b[s:t]' of bytes. -/
theorem run_fromTo {w : World} (A : Option Addr) (n cap s t : Nat) (h : s ≤ t) (ht : t ≤ cap) : (Instr.slice 23 (.slice A n cap) (some (.int .i64 (s : Int))) (some (.int .i64 (t : Int))) none).run Tryz.prog w = .ok (.slice (cutA A cap s) (t - s) (cap - s)) w := by
  rw [run_slice_lh (P := Tryz.prog) (w := w) 23 A n cap (by kernel_rfl) .i64 .i64 s t (by omega) (by omega) (by omega), size_u8]
  simp [sliced, cutA]
/-- s + t, of two strings whose lengths' sum is an int. -/
theorem run_cat {w : World} (a b : List UInt8) (h : a.length + b.length ≤ 9223372036854775807) : (binOp .add 9 (.string ⟨a.toArray⟩) (.string ⟨b.toArray⟩)).run Tryz.prog w = .ok (.string ⟨(a ++ b).toArray⟩) w := by
  simp only [binOp]
  rw [run_string_add_sum w _ _ (by simp [ByteArray.size]; omega), ByteArray.mk_append_mk]
end Go.Proofs.YtbllodeanfdebaaGreatDoor
