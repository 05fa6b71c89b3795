/- Texts of ours, joined: EvR, CkE. -/
import Derived.Test.YtocbofeanfdggaaDoorRows
import Derived.WalkKit
import Derived.ProofKit
import Derived.OpenShut
import Derived.ShutString
import Derived.ChangeOld
import Derived.Below
import Derived.BigQuiet
import Derived.Deep.QuietTactic
import Derived.Lib.Hide
import Derived.Deep.RegionHeld3
import Derived.Lib.SlBytesConst
import Derived.Laws.CopyOwn
import Derived.Laws.CopyRow
import Derived.Lib.Bytes
import Derived.Deep.LoopGhost
import Derived.Deep.DeepFit
import Derived.Deep.DeepMust
import Derived.WalkSpells
import Derived.WalkLawsBesides
import Derived.Deep.Slices
import Derived.Deep.Fields
import Derived.Lib.SmallJoins
import Derived.ChangeArms
import Derived.DataReads
import Derived.Test.YtocbofeanfdggaaDoorQ1
import Derived.Test.YtocbofeanfdggaaDoorQ2
import Derived.Test.YtocbofeanfdggaaDoorQ3
import Derived.Test.YtocbofeanfdggaaDoorQ4
import Derived.Test.YtocbofeanfdggaaDoorQ5
import Derived.Test.YtocbofeanfdggaaDoorQ6
import Derived.Test.YtocbofeanfdggaaDoorQ11
import Derived.Test.YtocbofeanfdggaaDoorQ12
import Derived.Test.YtocbofeanfdggaaDoorQ13
import Derived.Test.YtocbofeanfdggaaDoorQ14
import Derived.Test.YtocbofeanfdggaaDoorQ23
import Derived.Test.YtocbofeanfdggaaDoorQ17
import Derived.Maps.OwnOps
import Derived.Maps.OwnSet
import Derived.Maps.Views
import Derived.Laws.EntriesVeiled
import Derived.Laws.Rows
import Derived.Maps.AppendAt
import Derived.Deep.AppendLies
import Derived.DeepKeys4
import Derived.MapViews
import Derived.Maps.Keyed
import Derived.WideKeyEntry
/- Events read; their bulk. -/
namespace Go.Proofs.YtocbofeanfdggaaDoor
open Go.ChangeShapes Go.WideShapes Go.ChangeAt Go.RowKit
set_option linter.unusedVariables false
/-- An event where it lies, its row of attributes with it. -/
structure EvV where
  e : EvT
  A : Option Addr
  n : Nat
  c : Nat
def EvV.cells (v : EvV) : List Value := [.int .i64 v.e.kind, .string ⟨v.e.sp.toArray⟩, .string ⟨v.e.lo.toArray⟩, .slice v.A v.n v.c, .string ⟨v.e.tx.toArray⟩]
/-- A row of events that can be read. -/
structure ERd (w : World) (B : Nat) (A : Option Addr) (n cap : Nat) (vs : List EvV) : Prop where
  row : RRd EvV.cells 5 w B A n cap vs
  ats : ∀ v ∈ vs, RRd cA 3 w B v.A v.n v.c v.e.ats
theorem ERd.keep {w w' : World} {B n cap : Nat} {A : Option Addr} {vs : List EvV} (h : ERd w B A n cap vs) (hk : ∀ p : Addr, p.block < B → w'.cell? p = w.cell? p) : ERd w' B A n cap vs := ⟨h.row.keep hk, fun v hv => (h.ats v hv).keep hk⟩
theorem ERd.more {w : World} {B B' n cap : Nat} {A : Option Addr} {vs : List EvV} (h : ERd w B A n cap vs) (hB : B ≤ B') : ERd w B' A n cap vs := ⟨h.row.more hB, fun v hv => (h.ats v hv).more hB⟩
theorem ERd.below {w w' : World} {B n cap : Nat} {A : Option Addr} {vs : List EvV} (h : ERd w B A n cap vs) (hb : Below B w w') : ERd w' B A n cap vs := h.keep fun p hp => hb.cell hp
theorem ERd.up {w w' : World} {n cap : Nat} {A : Option Addr} {vs : List EvV} (h : ERd w w.heap.size A n cap vs) (hb : Below w.heap.size w w') : ERd w' w'.heap.size A n cap vs := (h.below hb).more hb.size
/-- No part of an event is longer than so. -/
structure EvLe (b : Nat) (v : EvV) : Prop where
  sp : v.e.sp.length ≤ b
  lo : v.e.lo.length ≤ b
  tx : v.e.tx.length ≤ b
  n : v.n ≤ b
  ats : ∀ a ∈ v.e.ats, a.1.length ≤ b ∧ a.2.1.length ≤ b ∧ a.2.2.length ≤ b
theorem EvLe.mono {b b' : Nat} {v : EvV} (h : EvLe b v) (hb : b ≤ b') : EvLe b' v :=
  ⟨Nat.le_trans h.sp hb, Nat.le_trans h.lo hb, Nat.le_trans h.tx hb, Nat.le_trans h.n hb, fun a ha => ⟨Nat.le_trans (h.ats a ha).1 hb, Nat.le_trans (h.ats a ha).2.1 hb, Nat.le_trans (h.ats a ha).2.2 hb⟩⟩
theorem bulk_part {H : Type} {d : DataW H} {l : List (DataW H)} (h : d ∈ l) : Rows.uptoBulk d ≤ Rows.uptoBulkAll l := by
  induction l with
  | nil => cases h
  | cons x r ih =>
    simp only [Rows.uptoBulkAll]
    cases List.mem_cons.1 h with
    | inl e => subst e; omega
    | inr e => have := ih e; omega
theorem bulk_pos {H : Type} (d : DataW H) : 1 ≤ Rows.uptoBulk d := by
  cases d with
  | lit l => cases l <;> simp [Rows.uptoBulk]
  | _ => simp [Rows.uptoBulk]
theorem bulk_len {H : Type} (l : List (DataW H)) : l.length ≤ Rows.uptoBulkAll l := by
  induction l with
  | nil => simp [Rows.uptoBulkAll]
  | cons x r ih => have := bulk_pos x; simp only [Rows.uptoBulkAll, List.length_cons]; omega
theorem cellsStr : Tryd.prog.cellsOf 9 = 1 := by kernel_rfl
theorem cellsNm : Tryd.prog.cellsOf 37 = 2 := by kernel_rfl
theorem cellsAt : Tryd.prog.cellsOf 51 = 3 := by kernel_rfl
theorem cellsEv : Tryd.prog.cellsOf 40 = 5 := by kernel_rfl
theorem cellsInt : Tryd.prog.cellsOf 3 = 1 := by kernel_rfl
theorem cellsAts : Tryd.prog.cellsOf 38 = 1 := by kernel_rfl
section
variable {H : Type} {enc : TypeId × Value → H} {W : World} {sp : Nat → Bool} {held : Bool}
theorem str_open {n : Nat} {cs : List Value} {x : DataW H × List MemPlace} (h : DataW.trod enc Tryd.prog W 0 sp held n 9 cs = some x) : ∃ s : List UInt8, cs = [.string ⟨s.toArray⟩] ∧ s.length ≤ Rows.uptoBulk x.1 := by
  obtain ⟨s0, e0, e1, z0⟩ := DataW.trod_string Tryd.underlying9 h
  refine ⟨s0.data.toList, by rw [e0], ?_⟩
  rw [e1]
  simp [Rows.uptoBulk]
set_option maxRecDepth 100000 in
set_option maxHeartbeats 4000000 in
theorem nm_open {n : Nat} {cs : List Value} {x : DataW H × List MemPlace} (h : DataW.trod enc Tryd.prog W 0 sp held n 37 cs = some x) : ∃ s l : List UInt8, cs = [.string ⟨s.toArray⟩, .string ⟨l.toArray⟩] ∧ s.length ≤ Rows.uptoBulk x.1 ∧ l.length ≤ Rows.uptoBulk x.1 := by
  obtain ⟨xs, k, _, hx, hl, hlen, hF⟩ := DataW.trod_struct Tryd.underlying37 h
  rw [cellsNm] at hl
  match xs, hlen, cs, hl with
  | [y0, y1], _, [c0, c1], _ =>
    have g0 := hF 0 _ rfl
    have g1 := hF 1 _ rfl
    simp [cellsStr] at g0 g1
    obtain ⟨s, e0, b0⟩ := str_open g0
    obtain ⟨l, e1, b1⟩ := str_open g1
    simp at e0 e1
    subst e0 e1
    refine ⟨s, l, rfl, ?_, ?_⟩
    · rw [hx]; simp [Rows.uptoBulk, Rows.uptoBulkAll]; omega
    · rw [hx]; simp [Rows.uptoBulk, Rows.uptoBulkAll]; omega
set_option maxRecDepth 100000 in
set_option maxHeartbeats 4000000 in
theorem at_open {n : Nat} {cs : List Value} {x : DataW H × List MemPlace} (h : DataW.trod enc Tryd.prog W 0 sp held n 51 cs = some x) : ∃ a : List UInt8 × List UInt8 × List UInt8, cs = cA a ∧ a.1.length ≤ Rows.uptoBulk x.1 ∧ a.2.1.length ≤ Rows.uptoBulk x.1 ∧ a.2.2.length ≤ Rows.uptoBulk x.1 := by
  obtain ⟨xs, k, _, hx, hl, hlen, hF⟩ := DataW.trod_struct Tryd.underlying51 h
  rw [cellsAt] at hl
  match xs, hlen, cs, hl with
  | [y0, y1], _, [c0, c1, c2], _ =>
    have g0 := hF 0 _ rfl
    have g1 := hF 1 _ rfl
    simp [cellsStr, cellsNm] at g0 g1
    obtain ⟨s, l, e0, b0, b1⟩ := nm_open g0
    obtain ⟨v, e1, b2⟩ := str_open g1
    simp at e0 e1
    obtain ⟨rfl, rfl⟩ := e0
    subst e1
    refine ⟨(s, l, v), rfl, ?_, ?_, ?_⟩ <;> rw [hx] <;> simp [Rows.uptoBulk, Rows.uptoBulkAll] <;> omega
open Go.Deep in
/-- A row read: what holds of each element (whatever is shown of one element's reading), the bulk. -/
theorem row_open {t e : TypeId} {k : Nat} {α : Type} {c : α → List Value} (Good : α → Nat → Prop) (hG : ∀ a b b', Good a b → b ≤ b' → Good a b') (ht : Tryd.prog.underlying t = some (.slice e)) (ce : Tryd.prog.cellsOf e = k) (hk0 : 0 < k) (hk : ∀ a, (c a).length = k)
    (ho : ∀ {n : Nat} {cs : List Value} {x : DataW H × List MemPlace}, DataW.trod enc Tryd.prog W 0 (fun _ => true) held n e cs = some x → ∃ a, cs = c a ∧ Good a (Rows.uptoBulk x.1))
    {n : Nat} {v : Value} {x : DataW H × List MemPlace} (h : DataW.trod enc Tryd.prog W 0 (fun _ => true) held n t [v] = some x) :
    ∃ A len cap xs, v = .slice A len cap ∧ RRd c k W W.heap.size A len cap xs ∧ len ≤ Rows.uptoBulk x.1 ∧ ∀ a ∈ xs, Good a (Rows.uptoBulk x.1) := by
  rcases open_slice ht h with ⟨hc, _⟩ | ⟨a, len, cap, m, k', D, Pl, hc, _, hl, hm, hmm, hx, hi⟩
  · simp at hc
    subst hc
    exact ⟨none, 0, 0, [], rfl, RRd.nilR c k W _, Nat.zero_le _, fun a ha => by cases ha⟩
  · simp at hc
    subst hc
    have hmc : m = cap := by simpa using hmm
    subst hmc
    have hbl : ∀ i, i < m → Rows.uptoBulk (D i) ≤ Rows.uptoBulk x.1 := fun i hil => by
      rw [hx]
      simp only [Rows.uptoBulk]
      by_cases hlt : i < len
      · have := bulk_part (d := D i) (l := (List.range len).map D) (List.mem_map.2 ⟨i, List.mem_range.2 hlt, rfl⟩)
        omega
      · have := bulk_part (d := D i) (l := (List.range (m - len)).map fun j => D (len + j)) (List.mem_map.2 ⟨i - len, List.mem_range.2 (by omega), by rw [show len + (i - len) = i by omega]⟩)
        omega
    have key : ∀ i, i < m → ∃ z : α, (∀ (j : Nat) u, (c z)[j]? = some u → W.cell? (a.add (i * k + j)) = some u) ∧ Good z (Rows.uptoBulk x.1) := by
      intro i hil
      obtain ⟨cs', h1, h2⟩ := hi i hil
      rw [ce] at h1
      obtain ⟨_, hlen, hcell⟩ := World.cells?_some h1
      obtain ⟨z, e0, b0⟩ := ho h2
      refine ⟨z, fun j u hu => ?_, hG _ _ _ b0 (hbl i hil)⟩
      have hj : j < k := by rw [← hk z]; exact (List.getElem?_eq_some_iff.1 hu).1
      have := hcell j hj
      rw [e0, hu, add_add] at this
      exact this
    rcases Nat.eq_zero_or_pos m with h00 | h00
    · subst h00
      obtain rfl : len = 0 := by omega
      exact ⟨some a, 0, 0, [], rfl, ⟨rfl, Nat.le_refl _, Nat.zero_le _, fun _ => rfl, fun h => absurd h (by omega)⟩, Nat.zero_le _, fun a ha => by cases ha⟩
    · obtain ⟨z0, _⟩ := key 0 h00
      have : Inhabited α := ⟨z0⟩
      obtain ⟨f, hf⟩ := choose_lt key
      refine ⟨some a, len, m, (List.range len).map f, rfl, ⟨by simp, hl, hm, (fun e => by cases e), fun h0 => ?_⟩, ?_, ?_⟩
      · obtain ⟨b, o, s⟩ := a
        have hz0 : ∃ u, (c (f 0))[0]? = some u := ⟨_, List.getElem?_eq_getElem (by rw [hk]; exact hk0)⟩
        obtain ⟨u0, hu0⟩ := hz0
        have h1 := (hf 0 h00).1 0 _ hu0
        have hs : s = none := by simpa [Addr.add] using World.cell?_spot h1
        subst hs
        refine ⟨b, o, rfl, by simpa [Addr.add] using World.block_lt_of_cell? W _ h1, fun i p hp j u hu => ?_⟩
        rw [List.getElem?_map] at hp
        have hil : i < len := by
          rcases Nat.lt_or_ge i len with h' | h'
          · exact h'
          · rw [List.getElem?_eq_none (by simp; omega)] at hp; cases hp
        rw [List.getElem?_range hil] at hp
        simp at hp
        subst hp
        have h2 := (hf i (by omega)).1 j u hu
        rwa [addr_add] at h2
      · rw [hx]
        simp only [Rows.uptoBulk]
        have := bulk_len ((List.range len).map D)
        simp at this
        omega
      · intro p hp
        obtain ⟨i, hi', rfl⟩ := List.mem_map.1 hp
        exact (hf i (by have := List.mem_range.1 hi'; omega)).2
theorem ats_open {n : Nat} {v : Value} {x : DataW H × List MemPlace} (h : DataW.trod enc Tryd.prog W 0 (fun _ => true) held n 38 [v] = some x) : ∃ A len cap ats, v = .slice A len cap ∧ RRd cA 3 W W.heap.size A len cap ats ∧ len ≤ Rows.uptoBulk x.1 ∧
    ∀ a ∈ ats, a.1.length ≤ Rows.uptoBulk x.1 ∧ a.2.1.length ≤ Rows.uptoBulk x.1 ∧ a.2.2.length ≤ Rows.uptoBulk x.1 :=
  row_open (c := cA) (k := 3) (fun (a : List UInt8 × List UInt8 × List UInt8) (b : Nat) => a.1.length ≤ b ∧ a.2.1.length ≤ b ∧ a.2.2.length ≤ b) (fun a b b' h hb => ⟨Nat.le_trans h.1 hb, Nat.le_trans h.2.1 hb, Nat.le_trans h.2.2 hb⟩) Tryd.underlying38 cellsAt (by decide) (fun _ => rfl) (fun h => at_open h) h
set_option maxRecDepth 100000 in
set_option maxHeartbeats 4000000 in
/-- An event read. -/
theorem ev_open {n : Nat} {cs : List Value} {x : DataW H × List MemPlace} (h : DataW.trod enc Tryd.prog W 0 (fun _ => true) held n 40 cs = some x) :
    ∃ v : EvV, cs = v.cells ∧ RRd cA 3 W W.heap.size v.A v.n v.c v.e.ats ∧ EvLe (Rows.uptoBulk x.1) v := by
  obtain ⟨xs, k, _, hx, hl, hlen, hF⟩ := DataW.trod_struct Tryd.underlying40 h
  rw [cellsEv] at hl
  match xs, hlen, cs, hl with
  | [y0, y1, y2, y3], _, [c0, c1, c2, c3, c4], _ =>
    have g0 := hF 0 _ rfl
    have g1 := hF 1 _ rfl
    have g2 := hF 2 _ rfl
    have g3 := hF 3 _ rfl
    simp [cellsStr, cellsNm, cellsInt, cellsAts] at g0 g1 g2 g3
    obtain ⟨z, e0, _⟩ := DataW.trod_int Tryd.underlying3 g0
    obtain ⟨s, l, e1, b0, b1⟩ := nm_open g1
    obtain ⟨A, len, cap, ats, e2, hr, b2, b3⟩ := ats_open g2
    obtain ⟨t, e3, b4⟩ := str_open g3
    simp at e0 e1 e3
    obtain ⟨rfl, rfl⟩ := e1
    subst e0 e2 e3
    have hb : Rows.uptoBulk y1.1 + Rows.uptoBulk y2.1 + Rows.uptoBulk y3.1 ≤ Rows.uptoBulk x.1 := by rw [hx]; simp [Rows.uptoBulk, Rows.uptoBulkAll]; omega
    exact ⟨⟨⟨z, s, l, ats, t⟩, A, len, cap⟩, rfl, hr, ⟨by simp only; omega, by simp only; omega, by simp only; omega, by simp only; omega, fun a ha => by
      have := b3 a ha
      omega⟩⟩
/-- A row of events read. -/
theorem evs_open {n : Nat} {v : Value} {x : DataW H × List MemPlace} (h : DataW.trod enc Tryd.prog W 0 (fun _ => true) held n 22 [v] = some x) : ∃ A len cap vs, v = .slice A len cap ∧ ERd W W.heap.size A len cap vs ∧ len ≤ Rows.uptoBulk x.1 ∧ ∀ v ∈ vs, EvLe (Rows.uptoBulk x.1) v := by
  obtain ⟨A, len, cap, vs, e, hr, hl, hv⟩ := row_open (c := EvV.cells) (k := 5) (fun v b => RRd cA 3 W W.heap.size v.A v.n v.c v.e.ats ∧ EvLe b v) (fun a b b' h hb => ⟨h.1, h.2.mono hb⟩) Tryd.underlying22 cellsEv (by decide) (fun _ => rfl) (fun h => by
    obtain ⟨v, h1, h2, h3⟩ := ev_open h
    exact ⟨v, h1, h2, h3⟩) h
  exact ⟨A, len, cap, vs, e, ⟨hr, fun v hv' => (hv v hv').1⟩, hl, fun v hv' => (hv v hv').2⟩
end
end Go.Proofs.YtocbofeanfdggaaDoor
/- An entry of a map of the call's own, laid and stored. -/
namespace Go.Proofs.YtocbofeanfdggaaDoor
open Go.ChangeShapes Go.WideShapes Go.ChangeAt Go.RowKit
set_option linter.unusedVariables false
section
open Go.MapKept Go.ChangeMaps Go.WideElems
variable {H : Type} {P : Program} {w : World} {t k e : TypeId} {b n : Nat} {D : DataW H}
/-- 'm[k]++' on a map of integers that the call made: what the entry's laying and its store give, at whatever world that holds the block. -/
theorem entry_own (KL : WideMaps.KeyLaw P k) (ht : P.underlying t = some (.map k e)) (he : P.underlying e = some (.int .i64)) (hz : ∀ u : World, (zeroValue e).run P u = .ok (.int .i64 0) u) (hn : n < maxLen)
    (hown : w.ownsMap P k (Go.plainElem P e) b n D) {key : Value} {kl : Lit} (hkey : keyOf P k key = some kl) :
    ∃ (c : Int) (st : Nat) (es1 : Array MapEntry) (clock1 : Nat), D.atKey kl (.lit (.int .i64 0)) = .lit (.int .i64 c) ∧
      (∀ W : World, W.heap[b]? = w.heap[b]? → (Instr.lookup t (.map (some b)) key false).run P W = .ok (.int .i64 c) W) ∧
      (∀ W : World, W.heap[b]? = w.heap[b]? → (Instr.mapEntry t (.map (some b)) key).run P W = .ok (.tuple #[.int .i64 c, .int .i64 (st : Int)]) (setBlock W b (.map es1 clock1))) ∧
      (∀ W : World, W.heap[b]? = some (.map es1 clock1) → (Instr.lookup t (.map (some b)) key false).run P W = .ok (.int .i64 c) W) ∧
      ∀ (val : Value) (d : DataW H) (ps : List MemPlace), Go.plainElem P e val = some (d, ps) → ∃ (es2 : Array MapEntry) (clock2 : Nat),
        (∀ W : World, W.heap[b]? = some (.map es1 clock1) → (Instr.entryStore t (.map (some b)) (.int .i64 (st : Int)) val).run P W = .ok () (setBlock W b (.map es2 clock2))) ∧
        ∀ W : World, W.heap[b]? = some (.map es2 clock2) → W.ownsMap P k (Go.plainElem P e) b (n + 1) (D.put kl d) := by
  have K := Go.Maps.Keyed.of_law KL
  have hlook : ∀ (W : World) (n' : Nat) (D' : DataW H), W.ownsMap P k (Go.plainElem P e) b n' D' → ∃ c, (Instr.lookup t (.map (some b)) key false).run P W = .ok (.int .i64 c) W ∧ D'.atKey kl (.lit (.int .i64 0)) = .lit (.int .i64 c) ∧ (Lit.int .i64 c).wf = true := fun W n' D' h => h.lookup_int K ht he (hz W) hkey
  obtain ⟨c, hrun, hat, hwf⟩ := hlook w n D hown
  have hown0 := hown
  obtain ⟨es, clock, hb, F, hs, hD⟩ := hown
  have hat0 : ∀ W : World, W.heap[b]? = w.heap[b]? → (Instr.lookup t (.map (some b)) key false).run P W = .ok (.int .i64 c) W := fun W hW => by
    obtain ⟨c', h1, h2, _⟩ := hlook W n D ⟨es, clock, hW.trans hb, F, hs, hD⟩
    rw [hat] at h2
    cases h2
    exact h1
  have hfin : ∀ (val : Value) (d : DataW H) (ps : List MemPlace), Go.plainElem P e val = some (d, ps) → ∃ (es2 : Array MapEntry) (clock2 : Nat), (Instr.mapUpdate t (.map (some b)) key val).run P w = .ok () (setBlock w b (.map es2 clock2)) ∧
      ∀ W : World, W.heap[b]? = some (.map es2 clock2) → W.ownsMap P k (Go.plainElem P e) b (n + 1) (D.put kl d) := fun val d ps hv => by
    obtain ⟨es', clock', hr, F', hput, _⟩ := Go.Maps.fit_store (R' := Go.plainElem P e) K ht hb F (Nat.lt_of_le_of_lt hs hn) (fun _ _ _ _ hz => hz) hkey hv
    refine ⟨es', clock', hr, fun W hW => ⟨es', clock', hW, F', ?_, ?_⟩⟩
    · obtain ⟨w', hr2, ⟨es'', clock'', hb'', _, hs'', _⟩, _⟩ := hown0.update K ht hn hkey hv
      rw [hr] at hr2
      cases hr2
      rw [heap_setBlock_same hb] at hb''
      cases hb''
      exact hs''
    · rw [hD, DataW.put_eq, hput]
  have hset : ∀ (x y : Obj), setBlock w b x = setBlock w b y → x = y := fun x y h => by
    have h1 := heap_setBlock_same hb x
    rw [h, heap_setBlock_same hb y] at h1
    exact (Option.some.inj h1).symm
  have hs1 := F.stamped.1
  have hs2 := F.stamped.2.1
  rcases KL.find w hkey es.toList F.keys with ⟨h1, h2⟩ | ⟨j, e0, h1, h2, h3⟩
  · have hf1 : ∀ W : World, (Instr.findKey k key es.toList).run P W = .ok none W := fun W => by
      rcases KL.find W hkey es.toList F.keys with ⟨g1, _⟩ | ⟨j, e0, _, g2, g3⟩
      · exact g1
      · exact absurd g3 (h2 _ (List.mem_of_getElem? g2))
    have hc0 : c = 0 := by
      have : (Instr.lookup t (.map (some b)) key false).run P w = .ok (.int .i64 0) w := by simp [Instr.lookup, run_underlying ht, MapKept.run_getObj_map hb, K.check w _ hkey, h1, hz, Result.andThen]
      rw [this] at hrun
      cases hrun
      rfl
    subst hc0
    have hw0 : Go.plainElem (H := H) P e (.int .i64 0) = some (.lit (.int .i64 0), []) := Go.plainElem_int he (by decide)
    have hu : ∀ val, (Instr.mapUpdate t (.map (some b)) key val).run P w = .ok () (setBlock w b (.map (es.push ⟨key, val, clock⟩) (clock + 1))) := fun val => by
      simp [Instr.mapUpdate, run_underlying ht, MapKept.run_getObj_map hb, K.check w false hkey, h1, MapKept.run_setObj_map _ hb, Result.andThen, setBlock]
    refine ⟨0, clock, es.push ⟨key, .int .i64 0, clock⟩, clock + 1, hat, hat0, fun W hW => ?_, fun W hW => ?_, fun val d ps hv => ?_⟩
    · have hbW := hW.trans hb
      simp [Instr.mapEntry, run_underlying ht, MapKept.run_getObj_map hbW, K.check W false hkey, hf1, hz, MapKept.run_setObj_map _ hbW, Result.andThen, setBlock, goInt]
    · obtain ⟨es2, clock2, g1, g2⟩ := hfin _ _ _ hw0
      rw [hu] at g1
      injection g1 with _ g1
      have g3 := hset _ _ g1
      cases g3
      obtain ⟨c', k1, k2, _⟩ := hlook W _ _ (g2 W hW)
      rw [Go.Maps.atKey_put_same ⟨_, hD⟩ (K.key hkey)] at k2
      cases k2
      exact k1
    · obtain ⟨es2, clock2, g1, g2⟩ := hfin _ _ _ hv
      rw [hu] at g1
      injection g1 with _ g1
      have g3 := hset _ _ g1
      cases g3
      refine ⟨_, _, fun W hW => ?_, g2⟩
      have hidx : (es.push ⟨key, .int .i64 0, clock⟩).findIdx? (fun e => ((e.born : Nat) : Int) == ((clock : Nat) : Int)) = some es.size := by
        rw [findIdx_arr]
        have := findIdx_born (l := (es.push ⟨key, .int .i64 0, clock⟩).toList) (j := es.size) (e0 := ⟨key, .int .i64 0, clock⟩) (by
          simp only [Array.toList_push, List.map_append, List.map_cons, List.map_nil]
          refine List.nodup_append.2 ⟨hs2, by simp, fun a ha c hc e1 => ?_⟩
          simp only [List.mem_singleton] at hc
          obtain ⟨x, hx, rfl⟩ := List.mem_map.1 ha
          have := hs1 x hx
          omega) (by simp)
        exact this
      have hmod : (es.push ⟨key, .int .i64 0, clock⟩).modify es.size (fun e => { e with val := val }) = es.push ⟨key, val, clock⟩ := by
        apply Array.ext'
        rw [Array.toList_modify, Array.toList_push, Array.toList_push, ← Array.length_toList, modify_last]
      simp [Instr.entryStore, MapKept.run_getObj_map hW, asInt, asIntOf, hidx, hmod, MapKept.run_setObj_map _ hW, Result.andThen, setBlock]
  · have hf1 : ∀ W : World, (Instr.findKey k key es.toList).run P W = .ok (some (j, e0.val)) W := fun W => by
      rcases KL.find W hkey es.toList F.keys with ⟨_, g1⟩ | ⟨j', e0', g1, g2, g3⟩
      · exact absurd h3 (g1 _ (List.mem_of_getElem? h2))
      · have hlt : j < (es.toList.map (·.key)).length := by rw [List.length_map]; exact (List.getElem?_eq_some_iff.1 h2).1
        have hj : j = j' := (List.getElem?_inj hlt F.stamped.2.2).1 (by rw [List.getElem?_map, List.getElem?_map, h2, g2]; simp [h3, g3])
        subst hj
        rw [h2] at g2
        cases g2
        exact g1
    have hj : es[j]? = some e0 := by simpa using h2
    have hsame : es.modify j (fun e => { e with key := key }) = es := by
      apply Array.ext'
      rw [Array.toList_modify, modify_eq_set _ _ _ _ h2]
      have : ({ e0 with key := key } : MapEntry) = e0 := by rw [← h3]
      rw [this]
      exact set_self _ _ _ h2
    have hv0 : e0.val = .int .i64 c := by
      have : (Instr.lookup t (.map (some b)) key false).run P w = .ok e0.val w := by simp [Instr.lookup, run_underlying ht, MapKept.run_getObj_map hb, K.check w _ hkey, h1, Result.andThen]
      rw [this] at hrun
      injection hrun
    refine ⟨c, e0.born, es, clock, hat, hat0, fun W hW => ?_, fun W hW => hat0 W (hW.trans hb.symm), fun val d ps hv => ?_⟩
    · have hbW := hW.trans hb
      rw [← hv0]
      simp [Instr.mapEntry, run_underlying ht, MapKept.run_getObj_map hbW, K.check W false hkey, hf1, hj, h3, KL.stays W hkey, hsame, MapKept.run_setObj_map _ hbW, Result.andThen, setBlock, goInt]
    · obtain ⟨es2, clock2, g1, g2⟩ := hfin _ _ _ hv
      have hu : (Instr.mapUpdate t (.map (some b)) key val).run P w = .ok () (setBlock w b (.map (es.modify j (fun e' => { e' with key := key, val := val })) clock)) := by
        simp [Instr.mapUpdate, run_underlying ht, MapKept.run_getObj_map hb, K.check w false hkey, h1, hj, h3, KL.stays w hkey, MapKept.run_setObj_map _ hb, Result.andThen, setBlock]
      rw [hu] at g1
      injection g1 with _ g1
      have g3 := hset _ _ g1
      cases g3
      refine ⟨_, _, fun W hW => ?_, g2⟩
      have hidx : es.findIdx? (fun e => ((e.born : Nat) : Int) == ((e0.born : Nat) : Int)) = some j := by
        rw [findIdx_arr]
        exact findIdx_born hs2 h2
      have hmod : es.modify j (fun e => { e with val := val }) = es.modify j (fun e' => { e' with key := key, val := val }) := by
        apply Array.ext'
        rw [Array.toList_modify, Array.toList_modify, modify_eq_set _ _ _ _ h2, modify_eq_set _ _ _ _ h2, ← h3]
      simp [Instr.entryStore, MapKept.run_getObj_map hW, asInt, asIntOf, hidx, hmod, MapKept.run_setObj_map _ hW, Result.andThen, setBlock]
end
end Go.Proofs.YtocbofeanfdggaaDoor
