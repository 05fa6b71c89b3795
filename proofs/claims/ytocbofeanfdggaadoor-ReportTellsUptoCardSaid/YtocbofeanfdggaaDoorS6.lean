/- Texts of ours, joined: EvR. -/
import Derived.Test.YtocbofeanfdggaaDoorRows
import Derived.WalkKit
import Derived.ProofKit
import Derived.OpenShut
import Derived.ShutString
import Derived.ChangeOld
import Derived.Below
import Derived.BigQuiet
import Derived.Deep.QuietTactic
import Derived.Lib.Hide
import Derived.Deep.RegionHeld3
import Derived.Lib.SlBytesConst
import Derived.Laws.CopyOwn
import Derived.Laws.CopyRow
import Derived.Lib.Bytes
import Derived.Deep.LoopGhost
import Derived.Deep.DeepFit
import Derived.Deep.DeepMust
import Derived.WalkSpells
import Derived.WalkLawsBesides
import Derived.Deep.Slices
import Derived.Deep.Fields
import Derived.Lib.SmallJoins
import Derived.ChangeArms
import Derived.DataReads
import Derived.Test.YtocbofeanfdggaaDoorS1
import Derived.Test.YtocbofeanfdggaaDoorS3
import Derived.Test.YtocbofeanfdggaaDoorS5
import Derived.Test.YtocbofeanfdggaaDoorS4
/- Events read; their bulk. -/
namespace Go.Proofs.YtocbofeanfdggaaDoor
open Go.ChangeShapes Go.WideShapes Go.ChangeAt Go.RowKit
set_option linter.unusedVariables false
/-- An event where it lies, its row of attributes with it. -/
structure EvV where
  e : EvT
  A : Option Addr
  n : Nat
  c : Nat
def EvV.cells (v : EvV) : List Value := [.int .i64 v.e.kind, .string ⟨v.e.sp.toArray⟩, .string ⟨v.e.lo.toArray⟩, .slice v.A v.n v.c, .string ⟨v.e.tx.toArray⟩]
/-- A row of events that can be read. -/
structure ERd (w : World) (B : Nat) (A : Option Addr) (n cap : Nat) (vs : List EvV) : Prop where
  row : RRd EvV.cells 5 w B A n cap vs
  ats : ∀ v ∈ vs, RRd cA 3 w B v.A v.n v.c v.e.ats
theorem ERd.keep {w w' : World} {B n cap : Nat} {A : Option Addr} {vs : List EvV} (h : ERd w B A n cap vs) (hk : ∀ p : Addr, p.block < B → w'.cell? p = w.cell? p) : ERd w' B A n cap vs := ⟨h.row.keep hk, fun v hv => (h.ats v hv).keep hk⟩
theorem ERd.more {w : World} {B B' n cap : Nat} {A : Option Addr} {vs : List EvV} (h : ERd w B A n cap vs) (hB : B ≤ B') : ERd w B' A n cap vs := ⟨h.row.more hB, fun v hv => (h.ats v hv).more hB⟩
theorem ERd.below {w w' : World} {B n cap : Nat} {A : Option Addr} {vs : List EvV} (h : ERd w B A n cap vs) (hb : Below B w w') : ERd w' B A n cap vs := h.keep fun p hp => hb.cell hp
theorem ERd.up {w w' : World} {n cap : Nat} {A : Option Addr} {vs : List EvV} (h : ERd w w.heap.size A n cap vs) (hb : Below w.heap.size w w') : ERd w' w'.heap.size A n cap vs := (h.below hb).more hb.size
/-- No part of an event is longer than so. -/
structure EvLe (b : Nat) (v : EvV) : Prop where
  sp : v.e.sp.length ≤ b
  lo : v.e.lo.length ≤ b
  tx : v.e.tx.length ≤ b
  n : v.n ≤ b
  ats : ∀ a ∈ v.e.ats, a.1.length ≤ b ∧ a.2.1.length ≤ b ∧ a.2.2.length ≤ b
theorem EvLe.mono {b b' : Nat} {v : EvV} (h : EvLe b v) (hb : b ≤ b') : EvLe b' v :=
  ⟨Nat.le_trans h.sp hb, Nat.le_trans h.lo hb, Nat.le_trans h.tx hb, Nat.le_trans h.n hb, fun a ha => ⟨Nat.le_trans (h.ats a ha).1 hb, Nat.le_trans (h.ats a ha).2.1 hb, Nat.le_trans (h.ats a ha).2.2 hb⟩⟩
theorem bulk_part {H : Type} {d : DataW H} {l : List (DataW H)} (h : d ∈ l) : Rows.uptoBulk d ≤ Rows.uptoBulkAll l := by
  induction l with
  | nil => cases h
  | cons x r ih =>
    simp only [Rows.uptoBulkAll]
    cases List.mem_cons.1 h with
    | inl e => subst e; omega
    | inr e => have := ih e; omega
theorem bulk_pos {H : Type} (d : DataW H) : 1 ≤ Rows.uptoBulk d := by
  cases d with
  | lit l => cases l <;> simp [Rows.uptoBulk]
  | _ => simp [Rows.uptoBulk]
theorem bulk_len {H : Type} (l : List (DataW H)) : l.length ≤ Rows.uptoBulkAll l := by
  induction l with
  | nil => simp [Rows.uptoBulkAll]
  | cons x r ih => have := bulk_pos x; simp only [Rows.uptoBulkAll, List.length_cons]; omega
theorem cellsStr : Tryd.prog.cellsOf 9 = 1 := by kernel_rfl
theorem cellsNm : Tryd.prog.cellsOf 37 = 2 := by kernel_rfl
theorem cellsAt : Tryd.prog.cellsOf 51 = 3 := by kernel_rfl
theorem cellsEv : Tryd.prog.cellsOf 40 = 5 := by kernel_rfl
theorem cellsInt : Tryd.prog.cellsOf 3 = 1 := by kernel_rfl
theorem cellsAts : Tryd.prog.cellsOf 38 = 1 := by kernel_rfl
section
variable {H : Type} {enc : TypeId × Value → H} {W : World} {sp : Nat → Bool} {held : Bool}
theorem str_open {n : Nat} {cs : List Value} {x : DataW H × List MemPlace} (h : DataW.trod enc Tryd.prog W 0 sp held n 9 cs = some x) : ∃ s : List UInt8, cs = [.string ⟨s.toArray⟩] ∧ s.length ≤ Rows.uptoBulk x.1 := by
  obtain ⟨s0, e0, e1, z0⟩ := DataW.trod_string Tryd.underlying9 h
  refine ⟨s0.data.toList, by rw [e0], ?_⟩
  rw [e1]
  simp [Rows.uptoBulk]
set_option maxRecDepth 100000 in
set_option maxHeartbeats 4000000 in
theorem nm_open {n : Nat} {cs : List Value} {x : DataW H × List MemPlace} (h : DataW.trod enc Tryd.prog W 0 sp held n 37 cs = some x) : ∃ s l : List UInt8, cs = [.string ⟨s.toArray⟩, .string ⟨l.toArray⟩] ∧ s.length ≤ Rows.uptoBulk x.1 ∧ l.length ≤ Rows.uptoBulk x.1 := by
  obtain ⟨xs, k, _, hx, hl, hlen, hF⟩ := DataW.trod_struct Tryd.underlying37 h
  rw [cellsNm] at hl
  match xs, hlen, cs, hl with
  | [y0, y1], _, [c0, c1], _ =>
    have g0 := hF 0 _ rfl
    have g1 := hF 1 _ rfl
    simp [cellsStr] at g0 g1
    obtain ⟨s, e0, b0⟩ := str_open g0
    obtain ⟨l, e1, b1⟩ := str_open g1
    simp at e0 e1
    subst e0 e1
    refine ⟨s, l, rfl, ?_, ?_⟩
    · rw [hx]; simp [Rows.uptoBulk, Rows.uptoBulkAll]; omega
    · rw [hx]; simp [Rows.uptoBulk, Rows.uptoBulkAll]; omega
set_option maxRecDepth 100000 in
set_option maxHeartbeats 4000000 in
theorem at_open {n : Nat} {cs : List Value} {x : DataW H × List MemPlace} (h : DataW.trod enc Tryd.prog W 0 sp held n 51 cs = some x) : ∃ a : List UInt8 × List UInt8 × List UInt8, cs = cA a ∧ a.1.length ≤ Rows.uptoBulk x.1 ∧ a.2.1.length ≤ Rows.uptoBulk x.1 ∧ a.2.2.length ≤ Rows.uptoBulk x.1 := by
  obtain ⟨xs, k, _, hx, hl, hlen, hF⟩ := DataW.trod_struct Tryd.underlying51 h
  rw [cellsAt] at hl
  match xs, hlen, cs, hl with
  | [y0, y1], _, [c0, c1, c2], _ =>
    have g0 := hF 0 _ rfl
    have g1 := hF 1 _ rfl
    simp [cellsStr, cellsNm] at g0 g1
    obtain ⟨s, l, e0, b0, b1⟩ := nm_open g0
    obtain ⟨v, e1, b2⟩ := str_open g1
    simp at e0 e1
    obtain ⟨rfl, rfl⟩ := e0
    subst e1
    refine ⟨(s, l, v), rfl, ?_, ?_, ?_⟩ <;> rw [hx] <;> simp [Rows.uptoBulk, Rows.uptoBulkAll] <;> omega
open Go.Deep in
/-- A row read: what holds of each element (whatever is shown of one element's reading), the bulk. -/
theorem row_open {t e : TypeId} {k : Nat} {α : Type} {c : α → List Value} (Good : α → Nat → Prop) (hG : ∀ a b b', Good a b → b ≤ b' → Good a b') (ht : Tryd.prog.underlying t = some (.slice e)) (ce : Tryd.prog.cellsOf e = k) (hk0 : 0 < k) (hk : ∀ a, (c a).length = k)
    (ho : ∀ {n : Nat} {cs : List Value} {x : DataW H × List MemPlace}, DataW.trod enc Tryd.prog W 0 (fun _ => true) held n e cs = some x → ∃ a, cs = c a ∧ Good a (Rows.uptoBulk x.1))
    {n : Nat} {v : Value} {x : DataW H × List MemPlace} (h : DataW.trod enc Tryd.prog W 0 (fun _ => true) held n t [v] = some x) :
    ∃ A len cap xs, v = .slice A len cap ∧ RRd c k W W.heap.size A len cap xs ∧ len ≤ Rows.uptoBulk x.1 ∧ ∀ a ∈ xs, Good a (Rows.uptoBulk x.1) := by
  rcases open_slice ht h with ⟨hc, _⟩ | ⟨a, len, cap, m, k', D, Pl, hc, _, hl, hm, hmm, hx, hi⟩
  · simp at hc
    subst hc
    exact ⟨none, 0, 0, [], rfl, RRd.nilR c k W _, Nat.zero_le _, fun a ha => by cases ha⟩
  · simp at hc
    subst hc
    have hmc : m = cap := by simpa using hmm
    subst hmc
    have hbl : ∀ i, i < m → Rows.uptoBulk (D i) ≤ Rows.uptoBulk x.1 := fun i hil => by
      rw [hx]
      simp only [Rows.uptoBulk]
      by_cases hlt : i < len
      · have := bulk_part (d := D i) (l := (List.range len).map D) (List.mem_map.2 ⟨i, List.mem_range.2 hlt, rfl⟩)
        omega
      · have := bulk_part (d := D i) (l := (List.range (m - len)).map fun j => D (len + j)) (List.mem_map.2 ⟨i - len, List.mem_range.2 (by omega), by rw [show len + (i - len) = i by omega]⟩)
        omega
    have key : ∀ i, i < m → ∃ z : α, (∀ (j : Nat) u, (c z)[j]? = some u → W.cell? (a.add (i * k + j)) = some u) ∧ Good z (Rows.uptoBulk x.1) := by
      intro i hil
      obtain ⟨cs', h1, h2⟩ := hi i hil
      rw [ce] at h1
      obtain ⟨_, hlen, hcell⟩ := World.cells?_some h1
      obtain ⟨z, e0, b0⟩ := ho h2
      refine ⟨z, fun j u hu => ?_, hG _ _ _ b0 (hbl i hil)⟩
      have hj : j < k := by rw [← hk z]; exact (List.getElem?_eq_some_iff.1 hu).1
      have := hcell j hj
      rw [e0, hu, add_add] at this
      exact this
    rcases Nat.eq_zero_or_pos m with h00 | h00
    · subst h00
      obtain rfl : len = 0 := by omega
      exact ⟨some a, 0, 0, [], rfl, ⟨rfl, Nat.le_refl _, Nat.zero_le _, fun _ => rfl, fun h => absurd h (by omega)⟩, Nat.zero_le _, fun a ha => by cases ha⟩
    · obtain ⟨z0, _⟩ := key 0 h00
      have : Inhabited α := ⟨z0⟩
      obtain ⟨f, hf⟩ := choose_lt key
      refine ⟨some a, len, m, (List.range len).map f, rfl, ⟨by simp, hl, hm, (fun e => by cases e), fun h0 => ?_⟩, ?_, ?_⟩
      · obtain ⟨b, o, s⟩ := a
        have hz0 : ∃ u, (c (f 0))[0]? = some u := ⟨_, List.getElem?_eq_getElem (by rw [hk]; exact hk0)⟩
        obtain ⟨u0, hu0⟩ := hz0
        have h1 := (hf 0 h00).1 0 _ hu0
        have hs : s = none := by simpa [Addr.add] using World.cell?_spot h1
        subst hs
        refine ⟨b, o, rfl, by simpa [Addr.add] using World.block_lt_of_cell? W _ h1, fun i p hp j u hu => ?_⟩
        rw [List.getElem?_map] at hp
        have hil : i < len := by
          rcases Nat.lt_or_ge i len with h' | h'
          · exact h'
          · rw [List.getElem?_eq_none (by simp; omega)] at hp; cases hp
        rw [List.getElem?_range hil] at hp
        simp at hp
        subst hp
        have h2 := (hf i (by omega)).1 j u hu
        rwa [addr_add] at h2
      · rw [hx]
        simp only [Rows.uptoBulk]
        have := bulk_len ((List.range len).map D)
        simp at this
        omega
      · intro p hp
        obtain ⟨i, hi', rfl⟩ := List.mem_map.1 hp
        exact (hf i (by have := List.mem_range.1 hi'; omega)).2
theorem ats_open {n : Nat} {v : Value} {x : DataW H × List MemPlace} (h : DataW.trod enc Tryd.prog W 0 (fun _ => true) held n 38 [v] = some x) : ∃ A len cap ats, v = .slice A len cap ∧ RRd cA 3 W W.heap.size A len cap ats ∧ len ≤ Rows.uptoBulk x.1 ∧
    ∀ a ∈ ats, a.1.length ≤ Rows.uptoBulk x.1 ∧ a.2.1.length ≤ Rows.uptoBulk x.1 ∧ a.2.2.length ≤ Rows.uptoBulk x.1 :=
  row_open (c := cA) (k := 3) (fun (a : List UInt8 × List UInt8 × List UInt8) (b : Nat) => a.1.length ≤ b ∧ a.2.1.length ≤ b ∧ a.2.2.length ≤ b) (fun a b b' h hb => ⟨Nat.le_trans h.1 hb, Nat.le_trans h.2.1 hb, Nat.le_trans h.2.2 hb⟩) Tryd.underlying38 cellsAt (by decide) (fun _ => rfl) (fun h => at_open h) h
set_option maxRecDepth 100000 in
set_option maxHeartbeats 4000000 in
/-- An event read. -/
theorem ev_open {n : Nat} {cs : List Value} {x : DataW H × List MemPlace} (h : DataW.trod enc Tryd.prog W 0 (fun _ => true) held n 40 cs = some x) :
    ∃ v : EvV, cs = v.cells ∧ RRd cA 3 W W.heap.size v.A v.n v.c v.e.ats ∧ EvLe (Rows.uptoBulk x.1) v := by
  obtain ⟨xs, k, _, hx, hl, hlen, hF⟩ := DataW.trod_struct Tryd.underlying40 h
  rw [cellsEv] at hl
  match xs, hlen, cs, hl with
  | [y0, y1, y2, y3], _, [c0, c1, c2, c3, c4], _ =>
    have g0 := hF 0 _ rfl
    have g1 := hF 1 _ rfl
    have g2 := hF 2 _ rfl
    have g3 := hF 3 _ rfl
    simp [cellsStr, cellsNm, cellsInt, cellsAts] at g0 g1 g2 g3
    obtain ⟨z, e0, _⟩ := DataW.trod_int Tryd.underlying3 g0
    obtain ⟨s, l, e1, b0, b1⟩ := nm_open g1
    obtain ⟨A, len, cap, ats, e2, hr, b2, b3⟩ := ats_open g2
    obtain ⟨t, e3, b4⟩ := str_open g3
    simp at e0 e1 e3
    obtain ⟨rfl, rfl⟩ := e1
    subst e0 e2 e3
    have hb : Rows.uptoBulk y1.1 + Rows.uptoBulk y2.1 + Rows.uptoBulk y3.1 ≤ Rows.uptoBulk x.1 := by rw [hx]; simp [Rows.uptoBulk, Rows.uptoBulkAll]; omega
    exact ⟨⟨⟨z, s, l, ats, t⟩, A, len, cap⟩, rfl, hr, ⟨by simp only; omega, by simp only; omega, by simp only; omega, by simp only; omega, fun a ha => by
      have := b3 a ha
      omega⟩⟩
/-- A row of events read. -/
theorem evs_open {n : Nat} {v : Value} {x : DataW H × List MemPlace} (h : DataW.trod enc Tryd.prog W 0 (fun _ => true) held n 22 [v] = some x) : ∃ A len cap vs, v = .slice A len cap ∧ ERd W W.heap.size A len cap vs ∧ len ≤ Rows.uptoBulk x.1 ∧ ∀ v ∈ vs, EvLe (Rows.uptoBulk x.1) v := by
  obtain ⟨A, len, cap, vs, e, hr, hl, hv⟩ := row_open (c := EvV.cells) (k := 5) (fun v b => RRd cA 3 W W.heap.size v.A v.n v.c v.e.ats ∧ EvLe b v) (fun a b b' h hb => ⟨h.1, h.2.mono hb⟩) Tryd.underlying22 cellsEv (by decide) (fun _ => rfl) (fun h => by
    obtain ⟨v, h1, h2, h3⟩ := ev_open h
    exact ⟨v, h1, h2, h3⟩) h
  exact ⟨A, len, cap, vs, e, ⟨hr, fun v hv' => (hv v hv').1⟩, hl, fun v hv' => (hv v hv').2⟩
end
end Go.Proofs.YtocbofeanfdggaaDoor
