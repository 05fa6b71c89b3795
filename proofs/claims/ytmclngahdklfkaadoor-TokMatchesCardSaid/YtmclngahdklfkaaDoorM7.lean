/- Texts of ours, joined: TokR, Agg7, TkO, XrA, TagS, DcB, IxB, IxB2, IxB3, IxB4, Tok1, Tok3a, Tok4, Tok4b, Tok4c, Tok4d, Tok5. -/
import Derived.Test.YtmclngahdklfkaaDoorRows
import Derived.WalkKit
import Derived.ProofKit
import Derived.OpenShut
import Derived.ShutString
import Derived.ChangeOld
import Derived.Below
import Derived.BigQuiet
import Derived.Deep.QuietTactic
import Derived.Lib.Hide
import Derived.Deep.RegionHeld3
import Derived.Lib.SlBytesConst
import Derived.Laws.CopyOwn
import Derived.Laws.CopyRow
import Derived.Lib.Bytes
import Derived.Deep.LoopGhost
import Derived.Deep.DeepFit
import Derived.Deep.DeepMust
import Derived.WalkSpells
import Derived.WalkLawsBesides
import Derived.Maps.OwnOps
import Derived.Maps.OwnSet
import Derived.Maps.Views
import Derived.Laws.EntriesVeiled
import Derived.Laws.Rows
import Derived.Maps.AppendAt
import Derived.Test.YtmclngahdklfkaaDoorM1
import Derived.Test.YtmclngahdklfkaaDoorM3
import Derived.Test.YtmclngahdklfkaaDoorM2
import Derived.Test.YtmclngahdklfkaaDoorM4
import Derived.Test.YtmclngahdklfkaaDoorM5
import Derived.Test.YtmclngahdklfkaaDoorM6
import Derived.Lib.SmallJoins
import Derived.Deep.DeepHandedRow
import Derived.Deep.SlicePairs
import Derived.Deep.Slices
import Derived.Deep.AppendLies
import Derived.Deep.RegionLaw
import Derived.Deep.RegionWith
import Derived.ChangeArms
import Derived.Laws.RangeString
import Derived.Laws.Runes
import Derived.LoopN
import Derived.Laws.RangeAny
import Derived.Lib.IndexAny
import Derived.Shelf.Unicode.DecodeSlow
import Derived.Lib.AsciiSet
import Derived.Deep.WholeRow
import Derived.Laws.ResultCell
import Derived.Lib.IndexBytes
import Derived.Lib.Bytealg
import Derived.Lib.IndexEntry
import Derived.Laws.Externs
/- Rows of tokens where they lie. -/
namespace Go.Proofs.YtmclngahdklfkaaDoor
open Go.ChangeShapes Go.WideShapes Go.ChangeAt Go.RowKit
set_option linter.unusedVariables false
/-- A token where it lies, its row of attributes with it. -/
structure TokV where
  t : TokL
  A : Option Addr
  n : Nat
  c : Nat
def TokV.cells (v : TokV) : List Value := [.int .i64 v.t.kind, .int .i64 v.t.fro, .int .i64 v.t.to_, .string ⟨v.t.name.toArray⟩, .string ⟨v.t.text.toArray⟩, .slice v.A v.n v.c, .int .i64 v.t.r]
def cellsK (vs : List TokV) : List Value := vs.flatMap TokV.cells
theorem cellsK_length (vs : List TokV) : (cellsK vs).length = vs.length * 7 := by
  induction vs with
  | nil => rfl
  | cons v vs ih =>
    have : cellsK (v :: vs) = v.cells ++ cellsK vs := rfl
    rw [this, List.length_append, ih]
    simp [TokV.cells]
    omega
theorem cellsK_snoc (vs : List TokV) (v : TokV) : cellsK (vs ++ [v]) = cellsK vs ++ v.cells := by simp [cellsK]
theorem cellsK_get : ∀ (vs : List TokV) (i : Nat) (v : TokV), vs[i]? = some v → ∀ (j : Nat) u, v.cells[j]? = some u → (cellsK vs)[i * 7 + j]? = some u
  | [], i, v, h, j, u, hu => by simp at h
  | x :: vs, 0, v, h, j, u, hu => by
    simp at h
    subst h
    have e : cellsK (x :: vs) = x.cells ++ cellsK vs := rfl
    have hj : j < x.cells.length := (List.getElem?_eq_some_iff.1 hu).1
    rw [e, Nat.zero_mul, Nat.zero_add, List.getElem?_append_left hj]
    exact hu
  | x :: vs, i + 1, v, h, j, u, hu => by
    have e : cellsK (x :: vs) = x.cells ++ cellsK vs := rfl
    have hx : x.cells.length = 7 := rfl
    rw [e, List.getElem?_append_right (by rw [hx]; omega), hx, show (i + 1) * 7 + j - 7 = i * 7 + j by omega]
    exact cellsK_get vs i v (by simpa using h) j u hu
/-- A row of tokens that can be read. -/
structure TRd (w : World) (B : Nat) (A : Option Addr) (n cap : Nat) (vs : List TokV) : Prop where
  len : vs.length = n
  le : n ≤ cap
  fit : cap ≤ maxLen
  nil : A = none → cap = 0
  at_ : 0 < cap → ∃ b o, A = some ⟨b, o, none⟩ ∧ b < B ∧ ∀ i v, vs[i]? = some v → ∀ (j : Nat) u, v.cells[j]? = some u → w.cell? ⟨b, o + (i * 7 + j), none⟩ = some u
  prs : ∀ v ∈ vs, PRd w B v.A v.n v.c v.t.pairs
theorem TRd.keep {w w' : World} {B n cap : Nat} {A : Option Addr} {vs : List TokV} (h : TRd w B A n cap vs) (hk : ∀ p : Addr, p.block < B → w'.cell? p = w.cell? p) : TRd w' B A n cap vs :=
  ⟨h.len, h.le, h.fit, h.nil, fun h0 => by
    obtain ⟨b, o, e, hb, hc⟩ := h.at_ h0
    exact ⟨b, o, e, hb, fun i v hv j u hu => (hk ⟨b, _, none⟩ hb).trans (hc i v hv j u hu)⟩, fun v hv => (h.prs v hv).keep hk⟩
theorem TRd.more {w : World} {B B' n cap : Nat} {A : Option Addr} {vs : List TokV} (h : TRd w B A n cap vs) (hB : B ≤ B') : TRd w B' A n cap vs :=
  ⟨h.len, h.le, h.fit, h.nil, fun h0 => by
    obtain ⟨b, o, e, hb, hc⟩ := h.at_ h0
    exact ⟨b, o, e, by omega, hc⟩, fun v hv => (h.prs v hv).more hB⟩
theorem TRd.below {w w' : World} {B n cap : Nat} {A : Option Addr} {vs : List TokV} (h : TRd w B A n cap vs) (hb : Below B w w') : TRd w' B A n cap vs := h.keep fun p hp => hb.cell hp
theorem TRd.up {w w' : World} {n cap : Nat} {A : Option Addr} {vs : List TokV} (h : TRd w w.heap.size A n cap vs) (hb : Below w.heap.size w w') : TRd w' w'.heap.size A n cap vs := (h.below hb).more hb.size
theorem TRd.drewN {w : World} {B n cap k : Nat} {A : Option Addr} {vs : List TokV} (h : TRd w B A n cap vs) : TRd (w.drewN k) B A n cap vs := h.keep (w' := w.drewN k) fun _ _ => rfl
theorem TRd.nilR (w : World) (B : Nat) : TRd w B none 0 0 [] := ⟨rfl, Nat.le_refl _, Nat.zero_le _, fun _ => rfl, fun h => absurd h (by omega), fun v hv => by cases hv⟩
theorem TRd.ofOwn {w : World} {base : Nat} {e : TypeId} {v : Value} {n : Nat} {vs : List TokV} (h : w.ownsRow base e 7 v n (cellsK vs)) (hp : ∀ v ∈ vs, PRd w w.heap.size v.A v.n v.c v.t.pairs) : ∃ A c, v = .slice A n c ∧ TRd w w.heap.size A n c vs := by
  obtain ⟨hl, h2 | ⟨g, cap, cur, hv, hg, hh, hn, hc, hs, ht⟩⟩ := h
  · obtain ⟨hv, hn⟩ := h2
    subst hn
    rw [cellsK_length] at hl
    have : vs = [] := List.length_eq_zero_iff.1 (by omega)
    subst this
    exact ⟨none, 0, hv, TRd.nilR w _⟩
  · rw [cellsK_length] at hl
    refine ⟨_, cap, hv, by omega, hn, hc, (fun e => by cases e), fun _ => ⟨g, 0, rfl, lt_of hh, fun i p hp j u hu => ?_⟩, hp⟩
    have hi : i < vs.length := (List.getElem?_eq_some_iff.1 hp).1
    have hj : j < 7 := (List.getElem?_eq_some_iff.1 hu).1
    have hcp := cellsK_get vs i p hp j u hu
    rw [← ht, List.getElem?_take_of_lt (by omega)] at hcp
    rw [cell_of _ hh, Nat.zero_add]
    simpa using hcp
/-- The token at a place of a row: its seven cells, its attributes. -/
theorem TRd.cell {w : World} {B n cap : Nat} {A : Option Addr} {vs : List TokV} {i : Nat} (h : TRd w B A n cap vs) (hi : i < n) :
    ∃ b o v, A = some ⟨b, o, none⟩ ∧ b < B ∧ vs[i]? = some v ∧ (∀ (j : Nat) u, v.cells[j]? = some u → w.cell? ⟨b, o + (i * 7 + j), none⟩ = some u) ∧ PRd w B v.A v.n v.c v.t.pairs := by
  obtain ⟨b, o, e, hb, hc⟩ := h.at_ (by have := h.le; omega)
  have hl : i < vs.length := by rw [h.len]; exact hi
  have hp := List.getElem?_eq_getElem hl
  exact ⟨b, o, vs[i], e, hb, hp, hc i _ hp, h.prs _ (List.mem_of_getElem? hp)⟩
theorem cell_newN (w : World) (us : List Value) (T : TypeId) : ∀ (j : Nat) (v : Value), us[j]? = some v → (w.alloc (.cells us.toArray T)).cell? ((⟨w.heap.size, 0, none⟩ : Addr).add j) = some v := by
  intro j v hv
  rw [addr_add, cell_of _ (hp_new _ _)]
  simpa using hv
/-- 'out = append(out, u)' onto a row of the call's own, the element's cells lying in a block just made. -/
theorem wpList_appK {P : Program} {ops : Array Oper} {rest : List Oper} {o : Oper} {a : Act} {Q : Exit → Act → World → Prop} {w : World} (hgd : o.guard = none) (s x : Operand) (t e : TypeId)
    (ho : o.op = .call { callee := .builtin .append, args := #[s, x], argTypes := #[t, t] }) (z : Value) (k bytes : Nat) (ht : P.underlying t = some (.slice e))
    (hi : ∃ i, P.info? e = some i ∧ i.zero = some z ∧ i.size = k ∧ i.bytes = bytes) (hzs : z.cells.size = k) (hk : 0 < k)
    (base : Nat) (v : Value) (n : Nat) (xs : List Value) (hs : a.eval s = v) (hown : w.ownsRow base e k v n xs) (us : List Value) (us' : Array Value) (hus : us' = us.toArray) (hx : a.eval x = .slice (some ⟨w.heap.size, 0, none⟩) 1 1)
    (hl : us.length = k) (h1 : ∀ u ∈ us, u.oneCell' = true) (hn : n ≤ 1000000000) (hby : bytes ≤ 1000) (hbase : base ≤ w.heap.size)
    (h : ∀ v' w', w'.ownsRow base e k v' (n + 1) (xs ++ us) → (w.alloc (.cells us' e)).grownBy w' v.ownBlock → (v'.ownBlock = v.ownBlock ∨ v'.ownBlock = some (w.heap.size + 1)) → wpList P ops Q rest (a.put o.dst v') w') : wpList P ops Q (o :: rest) a (w.alloc (.cells us' e)) := by
  subst hus
  obtain ⟨i, hi, hz, hsz, hbt⟩ := hi
  refine wpList_append_own_at _ hgd s x t ho base e i z k bytes ht hi hz hsz hbt hzs hk v n xs hs (hown.alloc _) ⟨w.heap.size, 0, none⟩ 1 1 us hx (by omega) (cell_newN w us e) h1 (by unfold maxLen; omega) ?_ (by simp; omega) fun v' w' hown' hgrow _ hat => h v' w' hown' hgrow (by rw [World.size_alloc] at hat; exact hat)
  have : (n + 1) * bytes ≤ 1000000001 * 1000 := Nat.mul_le_mul (by omega) hby
  omega
/-- While a row of tokens grows: below w all as it was; the row's own block from base on; the tokens' attributes elsewhere. -/
structure GrowT (T : TypeId) (w wr : World) (base : Nat) (v : Value) (vs : List TokV) : Prop where
  below : Below w.heap.size w wr
  base0 : w.heap.size ≤ base
  base1 : base ≤ wr.heap.size
  own : wr.ownsRow base T 7 v vs.length (cellsK vs)
  prs : ∀ x ∈ vs, PRd wr wr.heap.size x.A x.n x.c x.t.pairs
  off : ∀ x ∈ vs, 0 < x.c → ∀ b i, x.A = some ⟨b, i, none⟩ → some b ≠ v.ownBlock
theorem GrowT.start (T : TypeId) (w : World) : GrowT T w w w.heap.size (.slice none 0 0) [] :=
  ⟨Below.refl _ _, Nat.le_refl _, Nat.le_refl _, ⟨rfl, .inl ⟨rfl, rfl⟩⟩, fun x hx => (by cases hx), fun x hx => (by cases hx)⟩
theorem ownBlock_lt {w : World} {base : Nat} {e : TypeId} {c n : Nat} {v : Value} {xs : List Value} (h : w.ownsRow base e c v n xs) {b : Nat} (hb : v.ownBlock = some b) : b < w.heap.size ∧ base ≤ b := by
  obtain ⟨hl, ⟨hv, _⟩ | ⟨g, cap, cur, hv, hg, hh, r⟩⟩ := h
  · rw [hv] at hb; simp [Value.ownBlock] at hb
  · rw [hv] at hb; simp [Value.ownBlock] at hb; subst hb; exact ⟨lt_of hh, hg⟩
theorem GrowT.kept {T : TypeId} {w wr w' : World} {base : Nat} {v : Value} {vs : List TokV} (h : GrowT T w wr base v vs) (hb : Below wr.heap.size wr w') : GrowT T w w' base v vs :=
  ⟨h.below.trans (hb.mono h.below.size), h.base0, by have := h.base1; have := hb.size; omega, ownsRow_keep h.own fun g _ hg => hb.block g hg, fun x hx => ((h.prs x hx).below hb).more hb.size, h.off⟩
theorem PRd.moveC {w w' : World} {B B' n cap : Nat} {A : Option Addr} {ps : List PairL} (h : PRd w B A n cap ps) (hB : B ≤ B') (hk : 0 < cap → ∀ b i, A = some ⟨b, i, none⟩ → b < B → w'.heap[b]? = w.heap[b]?) : PRd w' B' A n cap ps := by
  by_cases h0 : 0 < cap
  · exact h.move hB (hk h0)
  · exact ⟨h.len, h.le, h.fit, h.nil, fun h1 => absurd h1 h0⟩
/-- One token more: its attributes lie in no block of the row's. -/
theorem GrowT.appended {T : TypeId} {w wr w' : World} {base : Nat} {v v' : Value} {vs : List TokV} {x : TokV} {us : Array Value} (h : GrowT T w wr base v vs) (hx : PRd wr wr.heap.size x.A x.n x.c x.t.pairs) (hoff : 0 < x.c → ∀ b i, x.A = some ⟨b, i, none⟩ → some b ≠ v.ownBlock)
    (hown : w'.ownsRow base T 7 v' (vs.length + 1) (cellsK vs ++ x.cells)) (hg : (wr.alloc (.cells us T)).grownBy w' v.ownBlock) (hat : v'.ownBlock = v.ownBlock ∨ v'.ownBlock = some (wr.heap.size + 1)) : GrowT T w w' base v' (vs ++ [x]) := by
  have hsz := hg.size
  rw [World.size_alloc] at hsz
  have hbl : ∀ b, b < wr.heap.size → some b ≠ v.ownBlock → w'.heap[b]? = wr.heap[b]? := fun b hb hne => by
    rw [hg.block b (by rw [World.size_alloc]; omega) hne, Below.heap_alloc _ _ _ hb]
  have hpr : ∀ y : TokV, PRd wr wr.heap.size y.A y.n y.c y.t.pairs → (0 < y.c → ∀ b i, y.A = some ⟨b, i, none⟩ → some b ≠ v.ownBlock) → PRd w' w'.heap.size y.A y.n y.c y.t.pairs := fun y hy ho =>
    hy.moveC (by omega) fun h0 b i hA hb => hbl b hb (ho h0 b i hA)
  have hof : ∀ y : TokV, PRd wr wr.heap.size y.A y.n y.c y.t.pairs → (0 < y.c → ∀ b i, y.A = some ⟨b, i, none⟩ → some b ≠ v.ownBlock) → 0 < y.c → ∀ b i, y.A = some ⟨b, i, none⟩ → some b ≠ v'.ownBlock := fun y hy ho h0 b i hA => by
    rcases hat with e | e
    · rw [e]; exact ho h0 b i hA
    · rw [e]
      intro hh
      obtain ⟨b2, o, e2, hb2, _⟩ := hy.at_ h0
      rw [hA] at e2
      cases e2
      cases hh
      omega
  refine ⟨(h.below.alloc h.below.size (.cells us T)).grown hg (by rw [World.size_alloc]; have := h.below.size; omega) fun k hk => ?_, h.base0, by have := h.base1; omega, by rw [List.length_append, cellsK_snoc]; exact hown, ?_, ?_⟩
  · exact Nat.le_trans h.base0 (ownBlock_lt h.own hk).2
  · intro y hy
    rcases List.mem_append.1 hy with hy | hy
    · exact hpr y (h.prs y hy) (h.off y hy)
    · rw [List.mem_singleton] at hy; subst hy; exact hpr y hx hoff
  · intro y hy
    rcases List.mem_append.1 hy with hy | hy
    · exact hof y (h.prs y hy) (h.off y hy)
    · rw [List.mem_singleton] at hy; subst hy; exact hof y hx hoff
end Go.Proofs.YtmclngahdklfkaaDoor
/- A struct, a row of structs, of seven one-cell fields, opened. -/
namespace Go.Proofs.YtmclngahdklfkaaDoor
open Go.ChangeShapes Go.WideShapes Go.ChangeAt Go.RowKit
set_option linter.unusedVariables false
open Go.Joins Go.Deep Go.WideElems Go.Maps in
/-- A row of structs of seven one-cell fields, opened at every place. -/
theorem slice7_open {H : Type} {enc : TypeId × Value → H} {P : Program} {w : World} {base : Nat} {spare : Nat → Bool} {held : Bool} {t e : TypeId} {f0 f1 f2 f3 f4 f5 f6 : Field} {fuel : Nat} {cs : List Value} {x : DataW H × List MemPlace} (ht : P.underlying t = some (.slice e)) (he : P.underlying e = some (.struct #[f0, f1, f2, f3, f4, f5, f6])) (hone : oneCellFields P #[f0, f1, f2, f3, f4, f5, f6] = true) (ce : P.cellsOf e = 7)
    (h : DataW.trod enc P w base spare held fuel t cs = some x) :
    cs = [.slice none 0 0] ∨ ∃ (a : Addr) (len cap m n : Nat), cs = [.slice (some a) len cap] ∧ len ≤ cap ∧ cap ≤ maxLen ∧ m = (if spare a.block then cap else len) ∧
      ∀ i, i < m → ∃ (v0 v1 v2 v3 v4 v5 v6 : Value) (y0 y1 y2 y3 y4 y5 y6 : DataW H × List MemPlace), w.cell? (a.add (i * 7 + 0)) = some v0 ∧ w.cell? (a.add (i * 7 + 1)) = some v1 ∧ w.cell? (a.add (i * 7 + 2)) = some v2 ∧ w.cell? (a.add (i * 7 + 3)) = some v3 ∧ w.cell? (a.add (i * 7 + 4)) = some v4 ∧ w.cell? (a.add (i * 7 + 5)) = some v5 ∧ w.cell? (a.add (i * 7 + 6)) = some v6 ∧ DataW.trod enc P w base spare held n f0.type [v0] = some y0 ∧ DataW.trod enc P w base spare held n f1.type [v1] = some y1 ∧ DataW.trod enc P w base spare held n f2.type [v2] = some y2 ∧ DataW.trod enc P w base spare held n f3.type [v3] = some y3 ∧ DataW.trod enc P w base spare held n f4.type [v4] = some y4 ∧ DataW.trod enc P w base spare held n f5.type [v5] = some y5 ∧ DataW.trod enc P w base spare held n f6.type [v6] = some y6 := by
  rcases open_slice ht h with ⟨hc, _⟩ | ⟨a, len, cap, m, n, D, Pl, hc, hb, hl, hm, hmm, _, hx⟩
  · exact .inl hc
  right
  refine ⟨a, len, cap, m, n - 1, hc, hl, hm, hmm, fun i hi => ?_⟩
  obtain ⟨cs', h1, h2⟩ := hx i hi
  rw [ce] at h1
  obtain ⟨_, hlen, hcell⟩ := World.cells?_some h1
  obtain ⟨xs, k, hk, _, _, hxl, hf⟩ := DataW.trod_struct he h2
  have hk' : k = n - 1 := by omega
  subst hk'
  match xs, hxl, cs', hlen with
  | [y0, y1, y2, y3, y4, y5, y6], _, [v0, v1, v2, v3, v4, v5, v6], _ =>
    obtain ⟨o0, k0⟩ := hone_of hone 0 f0 rfl
    have g0 := hf 0 f0 rfl
    have e0 := hcell 0 (by omega)
    rw [add_add] at e0
    obtain ⟨o1, k1⟩ := hone_of hone 1 f1 rfl
    have g1 := hf 1 f1 rfl
    have e1 := hcell 1 (by omega)
    rw [add_add] at e1
    obtain ⟨o2, k2⟩ := hone_of hone 2 f2 rfl
    have g2 := hf 2 f2 rfl
    have e2 := hcell 2 (by omega)
    rw [add_add] at e2
    obtain ⟨o3, k3⟩ := hone_of hone 3 f3 rfl
    have g3 := hf 3 f3 rfl
    have e3 := hcell 3 (by omega)
    rw [add_add] at e3
    obtain ⟨o4, k4⟩ := hone_of hone 4 f4 rfl
    have g4 := hf 4 f4 rfl
    have e4 := hcell 4 (by omega)
    rw [add_add] at e4
    obtain ⟨o5, k5⟩ := hone_of hone 5 f5 rfl
    have g5 := hf 5 f5 rfl
    have e5 := hcell 5 (by omega)
    rw [add_add] at e5
    obtain ⟨o6, k6⟩ := hone_of hone 6 f6 rfl
    have g6 := hf 6 f6 rfl
    have e6 := hcell 6 (by omega)
    rw [add_add] at e6
    exact ⟨v0, v1, v2, v3, v4, v5, v6, y0, y1, y2, y3, y4, y5, y6, by simpa using e0, by simpa using e1, by simpa using e2, by simpa using e3, by simpa using e4, by simpa using e5, by simpa using e6, by simpa [o0, k0] using g0, by simpa [o1, k1] using g1, by simpa [o2, k2] using g2, by simpa [o3, k3] using g3, by simpa [o4, k4] using g4, by simpa [o5, k5] using g5, by simpa [o6, k6] using g6⟩
end Go.Proofs.YtmclngahdklfkaaDoor
/- A row of tokens as a parameter. -/
namespace Go.Proofs.YtmclngahdklfkaaDoor
open Go.ChangeShapes Go.WideShapes Go.ChangeAt Go.RowKit
set_option linter.unusedVariables false
open Go.Deep in
/-- A reading of a row of tokens is a row that can be read. -/
theorem trd_of_trod {H : Type} {enc : TypeId × Value → H} {W : World} {n : Nat} {v : Value} {x : DataW H × List MemPlace} (h : DataW.trod enc Tryd.prog W 0 (fun _ => true) true n 22 [v] = some x) :
    ∃ A len cap vs, v = .slice A len cap ∧ TRd W W.heap.size A len cap vs := by
  rcases slice7_open Tryd.underlying22 Tryd.underlying29 (by kernel_rfl) (by kernel_rfl) h with hc | ⟨a, len, cap, m, k, hc, hl, hm, hmm, hi⟩
  · simp at hc
    subst hc
    exact ⟨none, 0, 0, [], rfl, TRd.nilR W _⟩
  · simp at hc
    subst hc
    have hmc : m = cap := by simpa using hmm
    subst hmc
    have key : ∀ i, i < m → ∃ v : TokV, (∀ (j : Nat) u, v.cells[j]? = some u → W.cell? (a.add (i * 7 + j)) = some u) ∧ PRd W W.heap.size v.A v.n v.c v.t.pairs := by
      intro i hi'
      obtain ⟨v0, v1, v2, v3, v4, v5, v6, y0, y1, y2, y3, y4, y5, y6, c0, c1, c2, c3, c4, c5, c6, t0, t1, t2, t3, t4, t5, t6⟩ := hi i hi'
      obtain ⟨z0, e0, _⟩ := DataW.trod_int Tryd.underlying3 t0
      obtain ⟨z1, e1, _⟩ := DataW.trod_int Tryd.underlying3 t1
      obtain ⟨z2, e2, _⟩ := DataW.trod_int Tryd.underlying3 t2
      obtain ⟨z3, e3, _⟩ := DataW.trod_string Tryd.underlying9 t3
      obtain ⟨z4, e4, _⟩ := DataW.trod_string Tryd.underlying9 t4
      obtain ⟨PA, pn, pc, ps, e5, hp, _⟩ := prd_of_trod t5
      obtain ⟨z6, e6, _⟩ := DataW.trod_int Tryd.underlying3 t6
      simp at e0 e1 e2 e3 e4 e6
      subst e0 e1 e2 e3 e4 e5 e6
      refine ⟨⟨⟨z0, z1, z2, z3.data.toList, z4.data.toList, ps, z6⟩, PA, pn, pc⟩, fun j u hu => ?_, hp⟩
      match j with
      | 0 => cases hu; exact c0
      | 1 => cases hu; exact c1
      | 2 => cases hu; exact c2
      | 3 => cases hu; exact c3
      | 4 => cases hu; exact c4
      | 5 => cases hu; exact c5
      | 6 => cases hu; exact c6
      | j + 7 => simp [TokV.cells] at hu
    have : Inhabited TokV := ⟨⟨⟨0, 0, 0, [], [], [], 0⟩, none, 0, 0⟩⟩
    obtain ⟨f, hf⟩ := choose_lt key
    refine ⟨some a, len, m, (List.range len).map f, rfl, by simp, hl, hm, (fun e => by cases e), fun h0 => ?_, ?_⟩
    · obtain ⟨b, o, s⟩ := a
      have h1 := (hf 0 h0).1 0 _ rfl
      have hs : s = none := by simpa [Addr.add] using World.cell?_spot h1
      subst hs
      refine ⟨b, o, rfl, by simpa [Addr.add] using World.block_lt_of_cell? W _ h1, fun i p hp j u hu => ?_⟩
      rw [List.getElem?_map] at hp
      have hil : i < len := by
        rcases Nat.lt_or_ge i len with h' | h'
        · exact h'
        · rw [List.getElem?_eq_none (by simp; omega)] at hp; cases hp
      rw [List.getElem?_range hil] at hp
      simp at hp
      subst hp
      have h2 := (hf i (by omega)).1 j u hu
      rwa [addr_add] at h2
    · intro p hp
      obtain ⟨i, hi', rfl⟩ := List.mem_map.1 hp
      exact (hf i (by have := List.mem_range.1 hi'; omega)).2
end Go.Proofs.YtmclngahdklfkaaDoor
/- strings.IndexRune of two ASCII bytes at a wide rune. -/
namespace Go.Proofs.YtmclngahdklfkaaDoor
open Go.ChangeShapes Go.WideShapes Go.ChangeAt Go.RowKit
set_option linter.unusedVariables false
theorem enc_cases (r : Int) (h : 128 ≤ r) : (∃ a b : UInt8, Utf8.encode r = ⟨#[a, b]⟩ ∧ 128 ≤ b.toNat) ∨ (∃ a b c : UInt8, Utf8.encode r = ⟨#[a, b, c]⟩) ∨ ∃ a b c d : UInt8, Utf8.encode r = ⟨#[a, b, c, d]⟩ := by
  unfold Utf8.encode
  have hc : 128 ≤ (if Utf8.valid r = true then r.toNat else Utf8.runeError) := by
    split
    · omega
    · decide
  simp only
  generalize (if Utf8.valid r = true then r.toNat else Utf8.runeError) = c at *
  rw [if_neg (by omega)]
  split
  · refine Or.inl ⟨_, _, rfl, ?_⟩
    simp
    omega
  · split
    · exact Or.inr (Or.inl ⟨_, _, _, rfl⟩)
    · exact Or.inr (Or.inr ⟨_, _, _, _, rfl⟩)
end Go.Proofs.YtmclngahdklfkaaDoor
/- What strings.IndexAny answers of two signs; no condition. -/
namespace Go.Proofs.YtmclngahdklfkaaDoor
open Go.ChangeShapes Go.WideShapes Go.ChangeAt Go.RowKit
set_option linter.unusedVariables false
theorem get_plus (s : ByteArray) (p : Nat) (h : p < s.size) : s.get! p = s[p]'h := by
  simp [ByteArray.get!, getElem!_pos, h]
  rfl
/-- The bytes that a character takes which begins with a byte from 128 up are all so. -/
theorem decode_span (s : ByteArray) (pos : Nat) (h : pos < s.size) (ha : 128 ≤ (s[pos]'h).toNat) :
    pos + (Utf8.decode s pos).2 ≤ s.size ∧ ∀ j, pos ≤ j → j < pos + (Utf8.decode s pos).2 → ∃ hj : j < s.size, 128 ≤ (s[j]'hj).toNat := by
  have h0 : (s.get! (pos + 0)).toNat = (s[pos]'h).toNat := by rw [Nat.add_zero, get_plus s pos h]
  have hc : ∀ k, (pos + k < s.size && (s.get! (pos + k)).toNat / 64 == 2) = true → ∃ hj : pos + k < s.size, 128 ≤ (s[pos + k]'hj).toNat := by
    intro k hk
    simp only [Bool.and_eq_true, decide_eq_true_eq, beq_iff_eq] at hk
    refine ⟨hk.1, ?_⟩
    have := hk.2
    rw [get_plus s _ hk.1] at this
    omega
  have one : pos + 1 ≤ s.size ∧ ∀ j, pos ≤ j → j < pos + 1 → ∃ hj : j < s.size, 128 ≤ (s[j]'hj).toNat := by
    refine ⟨h, fun j h1 h2 => ?_⟩
    obtain rfl : j = pos := by omega
    exact ⟨h, ha⟩
  unfold Utf8.decode
  simp only
  rw [if_neg (by rw [h0]; omega)]
  split
  · rename_i h1
    rw [Bool.and_eq_true] at h1
    obtain ⟨a1, b1⟩ := hc 1 h1.2
    split
    · refine ⟨by simp only; omega, fun j h2 h3 => ?_⟩
      simp only at h3
      rcases (by omega : j = pos ∨ j = pos + 1) with rfl | rfl
      · exact ⟨h, ha⟩
      · exact ⟨a1, b1⟩
    · exact one
  · split
    · rename_i h1
      simp only [Bool.and_eq_true] at h1
      obtain ⟨a1, b1⟩ := hc 1 (by simpa using h1.1.2)
      obtain ⟨a2, b2⟩ := hc 2 (by simpa using h1.2)
      split
      · refine ⟨by simp only; omega, fun j h2 h3 => ?_⟩
        simp only at h3
        rcases (by omega : j = pos ∨ j = pos + 1 ∨ j = pos + 2) with rfl | rfl | rfl
        · exact ⟨h, ha⟩
        · exact ⟨a1, b1⟩
        · exact ⟨a2, b2⟩
      · exact one
    · split
      · rename_i h1
        simp only [Bool.and_eq_true] at h1
        obtain ⟨a1, b1⟩ := hc 1 (by simpa using h1.1.1.2)
        obtain ⟨a2, b2⟩ := hc 2 (by simpa using h1.1.2)
        obtain ⟨a3, b3⟩ := hc 3 (by simpa using h1.2)
        split
        · refine ⟨by simp only; omega, fun j h2 h3 => ?_⟩
          simp only at h3
          rcases (by omega : j = pos ∨ j = pos + 1 ∨ j = pos + 2 ∨ j = pos + 3) with rfl | rfl | rfl | rfl
          · exact ⟨h, ha⟩
          · exact ⟨a1, b1⟩
          · exact ⟨a2, b2⟩
          · exact ⟨a3, b3⟩
        · exact one
      · exact one
/-- A string's iterator in block b, at whatever world. -/
def itW (W : World) (b : Nat) (s : ByteArray) (p : Nat) : World := { W with heap := W.heap.setIfInBounds b (.stringIter s p) }
theorem itW_at {W : World} {b p q : Nat} {s : ByteArray} (h : W.heap[b]? = some (.stringIter s q)) : (itW W b s p).heap[b]? = some (.stringIter s p) := by
  have hb : b < W.heap.size := (Array.getElem?_eq_some_iff.1 h).1
  simp [itW, hb]
theorem itW_below {W : World} {b p : Nat} {s : ByteArray} : Below b W (itW W b s p) := ⟨rfl, rfl, rfl, by simp [itW], fun k hk => by simp [itW, show ¬ b = k by omega]⟩
theorem run_next_at (W : World) (b : Nat) (s : ByteArray) (pos : Nat) (ty : TypeId) (hb : W.heap[b]? = some (.stringIter s pos)) (h : pos < s.size) :
    (Instr.next (.pointer (some ⟨b, 0, none⟩)) true ty).run Tryd.prog W = .ok (.tuple #[.bool true, .int .i64 pos, .int .i32 (Utf8.decode s pos).1]) (itW W b s (pos + (Utf8.decode s pos).2)) := by
  simp only [Instr.next, getObj, setObj, Sem.run_bind, Sem.run, hb, Result.andThen, h, if_true]
  simp [goInt, itW]
theorem run_next_end_at (W : World) (b : Nat) (s : ByteArray) (pos : Nat) (ty : TypeId) (hb : W.heap[b]? = some (.stringIter s pos)) (h : ¬ pos < s.size) :
    (Instr.next (.pointer (some ⟨b, 0, none⟩)) true ty).run Tryd.prog W = .ok (.tuple #[.bool false]) W := by
  simp [Instr.next, getObj, Sem.run, hb, h]
end Go.Proofs.YtmclngahdklfkaaDoor
/- unicode/utf8.decodeRuneSlow of bytes that begin a character of more than one byte, or none. -/
namespace Go.Proofs.YtmclngahdklfkaaDoor
open Go.ChangeShapes Go.WideShapes Go.ChangeAt Go.RowKit
set_option linter.unusedVariables false
theorem getB {l : List UInt8} {k : Nat} {c : UInt8} (h : l[k]? = some c) : (⟨l.toArray⟩ : ByteArray).get! k = c := by
  have hk := (List.getElem?_eq_some_iff.1 h).1
  have hs : (⟨l.toArray⟩ : ByteArray).size = l.length := by simp [ByteArray.size]
  rw [get_plus _ _ (by rw [hs]; exact hk)]
  have : (⟨l.toArray⟩ : ByteArray)[k]'(by rw [hs]; exact hk) = l[k] := rfl
  rw [this]
  rw [List.getElem?_eq_getElem hk] at h
  exact Option.some.inj h
/-- The bytes of a character of more than one byte. -/
def decU (l : List UInt8) : Nat × Nat := Utf8.decode ⟨l.toArray⟩ 0
set_option maxRecDepth 100000 in
set_option maxHeartbeats 8000000 in
theorem decSlow_c (b o n cap : Nat) (l : List UInt8) (w : World) (h : Byt w w.heap.size (some ⟨b, o, none⟩) n cap l) (hn : 0 < n) (hm : n ≤ 1000000) (hT : Lib.Utf8Tabs 7 8 w) (c0 : UInt8) (hc : l[0]? = some c0) (h128 : 128 ≤ c0.toNat) :
    Calls Tryd.prog 76 #[.slice (some ⟨b, o, none⟩) n cap] w fun e w' => e = .returned (.tuple #[.int .i32 (decU l).1, .int .i64 (decU l).2]) ∧ Below w.heap.size w w' := by
  have hln := h.length
  have hs : (⟨l.toArray⟩ : ByteArray).size = l.length := by simp [ByteArray.size]
  obtain ⟨x0, hx0⟩ : ∃ x0, (⟨l.toArray⟩ : ByteArray).get! 0 = x0 := ⟨_, rfl⟩
  obtain ⟨x1, hx1⟩ : ∃ x1, (⟨l.toArray⟩ : ByteArray).get! 1 = x1 := ⟨_, rfl⟩
  obtain ⟨x2, hx2⟩ : ∃ x2, (⟨l.toArray⟩ : ByteArray).get! 2 = x2 := ⟨_, rfl⟩
  obtain ⟨x3, hx3⟩ : ∃ x3, (⟨l.toArray⟩ : ByteArray).get! 3 = x3 := ⟨_, rfl⟩
  obtain rfl : x0 = c0 := hx0.symm.trans (getB hc)
  have l0 := x0.toNat_lt; have l1 := x1.toNat_lt; have l2 := x2.toNat_lt; have l3 := x3.toNat_lt
  have hbB : b < w.heap.size := by
    obtain ⟨b', o', c', e, hb, _⟩ := h.cell hn
    cases e
    exact hb
  have hcell : ∀ k, k < n → w.cell? ⟨b, o + k, none⟩ = some (.int .u8 ((⟨l.toArray⟩ : ByteArray).get! k).toNat) := fun k hk => by
    obtain ⟨b', o', c', e, hb, h1, h2⟩ := h.cell hk
    cases e
    rw [getB h1]
    exact h2
  have hdec : decU l = Lib.decodeN n x0.toNat x1.toNat x2.toNat x3.toNat := by
    unfold decU
    rw [Lib.decode_at, Nat.sub_zero, Nat.zero_add, Nat.zero_add, Nat.zero_add, hx0, hx1, hx2, hx3, hs, hln]
  rw [hdec]
  have hc0 := hT.1 x0.toNat (by omega)
  have hf0 := hcell 0 hn
  rw [hx0, Nat.add_zero] at hf0
  have hres : Lib.firstT x0.toNat < 240 → Lib.decodeN n x0.toNat x1.toNat x2.toNat x3.toNat = Lib.slowN n x0.toNat x1.toNat x2.toNat x3.toNat (Lib.firstT x0.toNat % 8) (Lib.accLo (Lib.firstT x0.toNat / 16)) (Lib.accHi (Lib.firstT x0.toNat / 16)) :=
    fun h => (Lib.slow_eq _ _ _ _ _ (by omega) (by omega) (by omega) (by omega) h).symm
  have hn0 : ¬ ((n : Int) < 1) := by omega
  have hn00 : (0 : Int) < (n : Int) := by omega
  have hf1 : 1 < n → w.cell? ⟨b, o + 1, none⟩ = some (.int .u8 x1.toNat) := fun h1 => by rw [hcell 1 h1, hx1]
  have hf2 : 2 < n → w.cell? ⟨b, o + 2, none⟩ = some (.int .u8 x2.toNat) := fun h1 => by rw [hcell 2 h1, hx2]
  have hf3 : 3 < n → w.cell? ⟨b, o + 3, none⟩ = some (.int .u8 x3.toNat) := fun h1 => by rw [hcell 3 h1, hx3]
  clear hcell hdec hx0 hx1 hx2 hx3 hc h hs hln
  rcases Lib.firstT_cases x0.toNat with hX | hX | hX | hX | hX | hX | hX | hX | hX
  · exfalso
    unfold Lib.firstT at hX
    rw [if_neg (by omega)] at hX
    repeat' split at hX
    all_goals omega
  · rw [Lib.bad_eq _ _ _ _ _ (by omega) hX]
    rw [hX] at hc0
    clear hres hT hX hf1 hf2 hf3
    go_enter Tryd.func76, Tryd.ntmps76
    go_wp2
    rw [Utf8W.mask241, Utf8W.drop_byte ⟨x0.toNat, l0⟩]
    go_ret2
    exact ⟨rfl, Below.refl _ _⟩
  all_goals replace hres := hres (by omega)
  · rw [hX] at hc0 hres
    have ha0 := (hT.2 0 (by omega)).1
    have ha1 := (hT.2 0 (by omega)).2
    simp only [Lib.accLo, Lib.accHi, Nat.reduceMul, Nat.reduceAdd, Nat.reduceEqDiff, if_true, if_false, Nat.reduceMod, Nat.reduceDiv] at ha0 ha1 hres
    rw [hres]
    clear hres hT hX
    by_cases hn : n < 2
    · have hnz : (n : Int) < 2 := by omega
      clear hf1 hf2 hf3
      go_enter Tryd.func76, Tryd.ntmps76
      go_wp2
      all_goals (go_ret2; refine ⟨?_, (Below.refl _ _).alloc (Nat.le_refl _) _⟩; utf8_leaf)
    · have hnz : ¬ ((n : Int) < 2) := by omega
      have hz1 : (1 : Int) < (n : Int) := by omega
      replace hf1 := hf1 (by omega)
      clear hf2 hf3
      go_enter Tryd.func76, Tryd.ntmps76
      go_wp2
      all_goals (go_ret2; refine ⟨?_, (Below.refl _ _).alloc (Nat.le_refl _) _⟩; utf8_leaf)
  · rw [hX] at hc0 hres
    have ha0 := (hT.2 1 (by omega)).1
    have ha1 := (hT.2 1 (by omega)).2
    simp only [Lib.accLo, Lib.accHi, Nat.reduceMul, Nat.reduceAdd, Nat.reduceEqDiff, if_true, if_false, Nat.reduceMod, Nat.reduceDiv] at ha0 ha1 hres
    rw [hres]
    clear hres hT hX
    by_cases hn : n < 3
    · have hnz : (n : Int) < 3 := by omega
      clear hf1 hf2 hf3
      go_enter Tryd.func76, Tryd.ntmps76
      go_wp2
      all_goals (go_ret2; refine ⟨?_, (Below.refl _ _).alloc (Nat.le_refl _) _⟩; utf8_leaf)
    · have hnz : ¬ ((n : Int) < 3) := by omega
      have hz1 : (1 : Int) < (n : Int) := by omega
      replace hf1 := hf1 (by omega)
      have hz2 : (2 : Int) < (n : Int) := by omega
      replace hf2 := hf2 (by omega)
      clear hf3
      go_enter Tryd.func76, Tryd.ntmps76
      go_wp2
      all_goals (go_ret2; refine ⟨?_, (Below.refl _ _).alloc (Nat.le_refl _) _⟩; utf8_leaf)
  · rw [hX] at hc0 hres
    have ha0 := (hT.2 0 (by omega)).1
    have ha1 := (hT.2 0 (by omega)).2
    simp only [Lib.accLo, Lib.accHi, Nat.reduceMul, Nat.reduceAdd, Nat.reduceEqDiff, if_true, if_false, Nat.reduceMod, Nat.reduceDiv] at ha0 ha1 hres
    rw [hres]
    clear hres hT hX
    by_cases hn : n < 3
    · have hnz : (n : Int) < 3 := by omega
      clear hf1 hf2 hf3
      go_enter Tryd.func76, Tryd.ntmps76
      go_wp2
      all_goals (go_ret2; refine ⟨?_, (Below.refl _ _).alloc (Nat.le_refl _) _⟩; utf8_leaf)
    · have hnz : ¬ ((n : Int) < 3) := by omega
      have hz1 : (1 : Int) < (n : Int) := by omega
      replace hf1 := hf1 (by omega)
      have hz2 : (2 : Int) < (n : Int) := by omega
      replace hf2 := hf2 (by omega)
      clear hf3
      go_enter Tryd.func76, Tryd.ntmps76
      go_wp2
      all_goals (go_ret2; refine ⟨?_, (Below.refl _ _).alloc (Nat.le_refl _) _⟩; utf8_leaf)
  · rw [hX] at hc0 hres
    have ha0 := (hT.2 2 (by omega)).1
    have ha1 := (hT.2 2 (by omega)).2
    simp only [Lib.accLo, Lib.accHi, Nat.reduceMul, Nat.reduceAdd, Nat.reduceEqDiff, if_true, if_false, Nat.reduceMod, Nat.reduceDiv] at ha0 ha1 hres
    rw [hres]
    clear hres hT hX
    by_cases hn : n < 3
    · have hnz : (n : Int) < 3 := by omega
      clear hf1 hf2 hf3
      go_enter Tryd.func76, Tryd.ntmps76
      go_wp2
      all_goals (go_ret2; refine ⟨?_, (Below.refl _ _).alloc (Nat.le_refl _) _⟩; utf8_leaf)
    · have hnz : ¬ ((n : Int) < 3) := by omega
      have hz1 : (1 : Int) < (n : Int) := by omega
      replace hf1 := hf1 (by omega)
      have hz2 : (2 : Int) < (n : Int) := by omega
      replace hf2 := hf2 (by omega)
      clear hf3
      go_enter Tryd.func76, Tryd.ntmps76
      go_wp2
      all_goals (go_ret2; refine ⟨?_, (Below.refl _ _).alloc (Nat.le_refl _) _⟩; utf8_leaf)
  · rw [hX] at hc0 hres
    have ha0 := (hT.2 3 (by omega)).1
    have ha1 := (hT.2 3 (by omega)).2
    simp only [Lib.accLo, Lib.accHi, Nat.reduceMul, Nat.reduceAdd, Nat.reduceEqDiff, if_true, if_false, Nat.reduceMod, Nat.reduceDiv] at ha0 ha1 hres
    rw [hres]
    clear hres hT hX
    by_cases hn : n < 4
    · have hnz : (n : Int) < 4 := by omega
      clear hf1 hf2 hf3
      go_enter Tryd.func76, Tryd.ntmps76
      go_wp2
      all_goals (go_ret2; refine ⟨?_, (Below.refl _ _).alloc (Nat.le_refl _) _⟩; utf8_leaf)
    · have hnz : ¬ ((n : Int) < 4) := by omega
      have hz1 : (1 : Int) < (n : Int) := by omega
      replace hf1 := hf1 (by omega)
      have hz2 : (2 : Int) < (n : Int) := by omega
      replace hf2 := hf2 (by omega)
      have hz3 : (3 : Int) < (n : Int) := by omega
      replace hf3 := hf3 (by omega)
      go_enter Tryd.func76, Tryd.ntmps76
      go_wp2
      all_goals (go_ret2; refine ⟨?_, (Below.refl _ _).alloc (Nat.le_refl _) _⟩; utf8_leaf)
  · rw [hX] at hc0 hres
    have ha0 := (hT.2 0 (by omega)).1
    have ha1 := (hT.2 0 (by omega)).2
    simp only [Lib.accLo, Lib.accHi, Nat.reduceMul, Nat.reduceAdd, Nat.reduceEqDiff, if_true, if_false, Nat.reduceMod, Nat.reduceDiv] at ha0 ha1 hres
    rw [hres]
    clear hres hT hX
    by_cases hn : n < 4
    · have hnz : (n : Int) < 4 := by omega
      clear hf1 hf2 hf3
      go_enter Tryd.func76, Tryd.ntmps76
      go_wp2
      all_goals (go_ret2; refine ⟨?_, (Below.refl _ _).alloc (Nat.le_refl _) _⟩; utf8_leaf)
    · have hnz : ¬ ((n : Int) < 4) := by omega
      have hz1 : (1 : Int) < (n : Int) := by omega
      replace hf1 := hf1 (by omega)
      have hz2 : (2 : Int) < (n : Int) := by omega
      replace hf2 := hf2 (by omega)
      have hz3 : (3 : Int) < (n : Int) := by omega
      replace hf3 := hf3 (by omega)
      go_enter Tryd.func76, Tryd.ntmps76
      go_wp2
      all_goals (go_ret2; refine ⟨?_, (Below.refl _ _).alloc (Nat.le_refl _) _⟩; utf8_leaf)
  · rw [hX] at hc0 hres
    have ha0 := (hT.2 4 (by omega)).1
    have ha1 := (hT.2 4 (by omega)).2
    simp only [Lib.accLo, Lib.accHi, Nat.reduceMul, Nat.reduceAdd, Nat.reduceEqDiff, if_true, if_false, Nat.reduceMod, Nat.reduceDiv] at ha0 ha1 hres
    rw [hres]
    clear hres hT hX
    by_cases hn : n < 4
    · have hnz : (n : Int) < 4 := by omega
      clear hf1 hf2 hf3
      go_enter Tryd.func76, Tryd.ntmps76
      go_wp2
      all_goals (go_ret2; refine ⟨?_, (Below.refl _ _).alloc (Nat.le_refl _) _⟩; utf8_leaf)
    · have hnz : ¬ ((n : Int) < 4) := by omega
      have hz1 : (1 : Int) < (n : Int) := by omega
      replace hf1 := hf1 (by omega)
      have hz2 : (2 : Int) < (n : Int) := by omega
      replace hf2 := hf2 (by omega)
      have hz3 : (3 : Int) < (n : Int) := by omega
      replace hf3 := hf3 (by omega)
      go_enter Tryd.func76, Tryd.ntmps76
      go_wp2
      all_goals (go_ret2; refine ⟨?_, (Below.refl _ _).alloc (Nat.le_refl _) _⟩; utf8_leaf)
end Go.Proofs.YtmclngahdklfkaaDoor
/- bytes.IndexAny of '<' and '&': the set. -/
namespace Go.Proofs.YtmclngahdklfkaaDoor
open Go.ChangeShapes Go.WideShapes Go.ChangeAt Go.RowKit
set_option linter.unusedVariables false
/-- '<' and '&'. -/
def amL : List UInt8 := [60, 38]
theorem am_no (b : UInt8) (h : 128 ≤ b.toNat) : amL.contains b = false := by
  have h1 : b ≠ 60 := fun e => by subst e; simp at h
  have h2 : b ≠ 38 := fun e => by subst e; simp at h
  simp [amL, h1, h2]
theorem noAny_am {s : List UInt8} {i m : Nat} (h : Lib.NoAny s amL i) (hm : ∀ j b, i ≤ j → j < m → s[j]? = some b → 128 ≤ b.toNat) : Lib.NoAny s amL m := fun j b hj hb => by
  by_cases e : j < i
  · exact h j b e hb
  · exact am_no b (hm j b (by omega) hj hb)
theorem inTx_am (c : UInt8) : inTx c = !amL.contains c := by
  unfold inTx
  simp only [amL, List.contains_cons, List.contains_nil, Bool.or_false]
  by_cases h1 : c = 60 <;> by_cases h2 : c = 38 <;> simp [h1, h2]
theorem ix_txt : ∀ l : List UInt8, Lib.indexAny l amL = if (txt l).length < l.length then ((txt l).length : Int) else -1
  | [] => by simp [Lib.indexAny, txt]
  | c :: t => by
    unfold Lib.indexAny
    cases h : amL.contains c with
    | true =>
      rw [if_pos rfl, txt_stop (by rw [inTx_am, h]; rfl)]
      simp
    | false =>
      rw [if_neg (by simp), txt_cons (by rw [inTx_am, h]; rfl), ix_txt t]
      have hle := txt_le t
      simp only [List.length_cons]
      by_cases h1 : (txt t).length < t.length
      · have h2 : (txt t).length + 1 < t.length + 1 := by omega
        rw [if_pos h1, if_pos h2]
        split
        · rename_i h3
          have := eq_of_beq h3
          omega
        · omega
      · have h2 : ¬ (txt t).length + 1 < t.length + 1 := by omega
        rw [if_neg h1, if_neg h2]
        rfl
set_option maxRecDepth 100000 in
set_option maxHeartbeats 1000000 in
theorem useSet_c (n : Int) (w : World) : Calls Tryd.prog 55 #[.int .i64 n] w fun e w' => e = .returned (.bool (decide (8 < n))) ∧ w' = w := by
  go_enter Tryd.func55, Tryd.ntmps55
  go_wp2
  go_ret
  exact ⟨rfl, rfl⟩
theorem results_cell2 {P : Program} {fn : Func} {p u : Tmp} {ty : TypeId} (h : fn.results = #[.cell p ty, .tmp u]) (tmps : Array Value) (w : World) (g : Nat) (t : TypeId) (cs : Array Value) (fr : Nat × Nat) (d : TypeDesc)
    (hp : tmps.getD p undef = .pointer (some ⟨g, 0, none⟩)) (hg : w.heap[g]? = some (.cells cs t fr))
    (hu : P.underlying ty = some d) (hd : (match d with | .struct _ | .array _ _ => true | _ => false) = true) (hi : (P.info? ty).map (·.size) = some cs.size) :
    (results fn tmps).run P w = .ok (.tuple #[.agg cs, tmps.getD u undef]) w := by
  have hp' : tmps[p]?.getD undef = .pointer (some ⟨g, 0, none⟩) := by simpa using hp
  simp [results, h, hp', asAddr, run_loadVar_row w g t ty cs fr d hg hu hd hi]
theorem set_info : (Tryd.prog.info? 84).map (fun i => (i.zero, i.size)) = some (some (.agg (Array.replicate 256 (.bool false))), 256) := by kernel_rfl
set_option maxRecDepth 100000 in
set_option maxHeartbeats 8000000 in
theorem amSet_c (w : World) : Calls Tryd.prog 56 #[.string ⟨#[60, 38]⟩] w fun e w' => e = .returned (.tuple #[.agg (Lib.setCells amL), .bool true]) ∧ w' = w.alloc (.cells (Lib.setCells amL) 84) := by
  have hv := (zero_of_info (P := Tryd.prog) set_info).1
  have hi := (zero_of_info (P := Tryd.prog) set_info).2
  have hu := Tryd.underlying84
  have g0 : (⟨#[60, 38]⟩ : ByteArray)[0].toNat = 60 := rfl
  have g1 : (⟨#[60, 38]⟩ : ByteArray)[1].toNat = 38 := rfl
  go_enter Tryd.func56, Tryd.ntmps56
  go_wp2
  rw [← Lib.setCells_nil]
  go_loopg [4] 2 (fun g s4 wx => ∃ i : Nat, i + g = 2 ∧ s4 = .int .i64 i ∧ wx = w.alloc (.cells (Lib.setCells (amL.take i)) 84))
  case atStart => exact ⟨0, by omega, rfl, rfl⟩
  case round =>
    obtain ⟨i, hig, rfl, rfl⟩ := hrel
    cases gk with
    | zero =>
      obtain rfl : i = 2 := by omega
      rw [show amL.take 2 = amL from rfl]
      have hld := run_loadVar_new (P := Tryd.prog) w 84 (Lib.setCells amL) 256 _ hu (by rw [Lib.setCells_size]; exact hi)
      have hsz := Lib.setCells_size amL
      have hlc := run_loadCellsFrom_new (P := Tryd.prog) w 84 (Lib.setCells amL) 256 hsz
      have hsc := run_storeCells_new (P := Tryd.prog) w 84 (Lib.setCells amL) (Lib.setCells amL) (by rw [hsz]; exact hi) rfl (Lib.setCells_one _)
      have hW := hp_new w (.cells (Lib.setCells amL) 84)
      obtain ⟨S, hS⟩ : ∃ S, Lib.setCells amL = S := ⟨_, rfl⟩
      rw [hS] at hld hlc hsc hsz hW ⊢
      have HS := Lib.hid hS
      clear hS
      go_wp2_with (first | (refine wpList_load_row rfl _ _ rfl w.heap.size rfl _ _ _ _ hW hu rfl (by rw [hi, hsz]) ?_) | (refine wpList_store_row rfl _ _ _ rfl w.heap.size S rfl rfl _ _ hW hsz.symm rfl (by rw [hi, hsz]) ?_))
      (try simp only [Exit.inBlock, Exit.then])
      exact bodyPost_ret (results_cell2 rfl _ _ w.heap.size _ _ _ _ rfl hW hu rfl (by rw [hi, hsz])) rfl ⟨by rw [HS.out]; rfl, by rw [HS.out]⟩
    | succ g =>
      have hi2 : i = 0 ∨ i = 1 := by omega
      rcases hi2 with rfl | rfl
      · have hcell := Lib.setCells_at [] 60
        go_wp2
        go_roundg g
        case measure => omega
        case rel => exact ⟨1, by omega, rfl, by rw [show amL.take 1 = [] ++ [60] from rfl, Lib.setCells_snoc]; rfl⟩
      · have hcell := Lib.setCells_at [60] 38
        go_wp2
        go_roundg g
        case measure => omega
        case rel => exact ⟨2, by omega, rfl, by rw [show amL.take 2 = [60] ++ [38] from rfl, Lib.setCells_snoc]; rfl⟩
set_option maxRecDepth 100000 in
set_option maxHeartbeats 1000000 in
theorem setHas_c (b : Nat) (x : UInt8) (v : Bool) (w : World) (hc : w.cell? ⟨b, x.toNat, none⟩ = some (.bool v)) :
    Calls Tryd.prog 57 #[.pointer (some ⟨b, 0, none⟩), .int .u8 x.toNat] w fun e w' => e = .returned (.bool v) ∧ w' = w := by
  have hx256 : (x.toNat : Int) < 256 := by have := UInt8.toNat_lt x; omega
  go_enter Tryd.func57, Tryd.ntmps57
  go_wp2
  go_ret
  exact ⟨rfl, rfl⟩
end Go.Proofs.YtmclngahdklfkaaDoor
/- bytes.IndexAny of '<' and '&': its parts. -/
namespace Go.Proofs.YtmclngahdklfkaaDoor
open Go.ChangeShapes Go.WideShapes Go.ChangeAt Go.RowKit
set_option linter.unusedVariables false
theorem decN_cases (n b0 b1 b2 b3 : Nat) (h0 : 128 ≤ b0) (hb : b0 < 256) : (Lib.decodeN n b0 b1 b2 b3 = (65533, 1)) ∨
    ((Lib.decodeN n b0 b1 b2 b3).2 = 2 ∧ 128 ≤ (Lib.decodeN n b0 b1 b2 b3).1 ∧ (Lib.decodeN n b0 b1 b2 b3).1 < 2048) ∨
    ((Lib.decodeN n b0 b1 b2 b3).2 = 3 ∧ 2048 ≤ (Lib.decodeN n b0 b1 b2 b3).1 ∧ (Lib.decodeN n b0 b1 b2 b3).1 < 65536 ∧ ((Lib.decodeN n b0 b1 b2 b3).1 < 55296 ∨ 57344 ≤ (Lib.decodeN n b0 b1 b2 b3).1)) ∨
    ((Lib.decodeN n b0 b1 b2 b3).2 = 4 ∧ 65536 ≤ (Lib.decodeN n b0 b1 b2 b3).1 ∧ (Lib.decodeN n b0 b1 b2 b3).1 ≤ 1114111) := by
  unfold Lib.decodeN
  rw [if_neg (by omega)]
  repeat' split
  all_goals first | exact .inl rfl | exact .inr (.inl ⟨rfl, by show 128 ≤ _; omega, by show _ < 2048; omega⟩) | exact .inr (.inr (.inl ⟨rfl, by show 2048 ≤ _; omega, by show _ < 65536; omega, by show _ < 55296 ∨ 57344 ≤ _; omega⟩)) | exact .inr (.inr (.inr ⟨rfl, by show 65536 ≤ _; omega, by show _ ≤ 1114111; omega⟩))
theorem enc2 (r : Nat) (h0 : 128 ≤ r) (h1 : r < 2048) : ∃ a b : UInt8, Utf8.encode (r : Int) = ⟨#[a, b]⟩ ∧ 128 ≤ b.toNat := by
  rcases enc_cases (r : Int) (by omega) with h | ⟨a, b, c, h⟩ | ⟨a, b, c, d, h⟩
  · exact h
  all_goals
    exfalso
    unfold Utf8.encode at h
    have hv : Utf8.valid (r : Int) = true := by unfold Utf8.valid; simp; omega
    simp only [hv, if_true, Int.toNat_natCast] at h
    rw [if_neg (by omega), if_pos (by omega)] at h
    have := congrArg ByteArray.size h
    simp [ByteArray.size] at this
theorem enc3 (r : Nat) (h0 : 2048 ≤ r) (h1 : r < 65536) (h2 : r < 55296 ∨ 57344 ≤ r) : ∃ a b c : UInt8, Utf8.encode (r : Int) = ⟨#[a, b, c]⟩ := by
  unfold Utf8.encode
  have hv : Utf8.valid (r : Int) = true := by unfold Utf8.valid; simp; omega
  simp only [hv, if_true, Int.toNat_natCast]
  rw [if_neg (by omega), if_neg (by omega), if_pos (by omega)]
  exact ⟨_, _, _, rfl⟩
theorem enc4 (r : Nat) (h0 : 65536 ≤ r) (h1 : r ≤ 1114111) : ∃ a b c d : UInt8, Utf8.encode (r : Int) = ⟨#[a, b, c, d]⟩ := by
  unfold Utf8.encode
  have hv : Utf8.valid (r : Int) = true := by unfold Utf8.valid; simp; omega
  simp only [hv, if_true, Int.toNat_natCast]
  rw [if_neg (by omega), if_neg (by omega), if_neg (by omega)]
  exact ⟨_, _, _, _, rfl⟩
theorem decU_cases (l : List UInt8) (c : UInt8) (hc : l[0]? = some c) (h : 128 ≤ c.toNat) : decU l = (65533, 1) ∨ ((decU l).2 = 2 ∧ 128 ≤ (decU l).1 ∧ (decU l).1 < 2048) ∨ ((decU l).2 = 3 ∧ 2048 ≤ (decU l).1 ∧ (decU l).1 < 65536 ∧ ((decU l).1 < 55296 ∨ 57344 ≤ (decU l).1)) ∨ ((decU l).2 = 4 ∧ 65536 ≤ (decU l).1 ∧ (decU l).1 ≤ 1114111) := by
  unfold decU
  rw [Lib.decode_at]
  have : (⟨l.toArray⟩ : ByteArray).get! 0 = c := getB hc
  rw [this]
  exact decN_cases _ _ _ _ _ h c.toNat_lt
theorem decU_span (l : List UInt8) (c : UInt8) (hc : l[0]? = some c) (h : 128 ≤ c.toNat) : 1 ≤ (decU l).2 ∧ (decU l).2 ≤ l.length ∧ ∀ j b, j < (decU l).2 → l[j]? = some b → 128 ≤ b.toNat := by
  have hk := (List.getElem?_eq_some_iff.1 hc).1
  have hs : (⟨l.toArray⟩ : ByteArray).size = l.length := by simp [ByteArray.size]
  have h0 : 128 ≤ ((⟨l.toArray⟩ : ByteArray)[0]'(by rw [hs]; exact hk)).toNat := by
    have e : (⟨l.toArray⟩ : ByteArray)[0]'(by rw [hs]; exact hk) = l[0] := rfl
    rw [List.getElem?_eq_getElem hk] at hc
    cases hc
    rw [e]
    exact h
  have h1 := decode_span ⟨l.toArray⟩ 0 (by rw [hs]; exact hk) h0
  have h2 := decode_high ⟨l.toArray⟩ 0 (by rw [hs]; exact hk) h0
  refine ⟨h2.2, by have := h1.1; rw [hs, Nat.zero_add] at this; exact this, fun j b hj hb => ?_⟩
  obtain ⟨hj', hh⟩ := h1.2 j (Nat.zero_le _) (by rw [Nat.zero_add]; exact hj)
  have e : (⟨l.toArray⟩ : ByteArray)[j]'hj' = l[j]'(by rw [← hs]; exact hj') := rfl
  rw [e] at hh
  rw [List.getElem?_eq_getElem (by rw [← hs]; exact hj')] at hb
  cases hb
  exact hh
set_option maxRecDepth 100000 in
set_option maxHeartbeats 4000000 in
theorem decRune_c (b o n cap : Nat) (l : List UInt8) (w : World) (h : Byt w w.heap.size (some ⟨b, o, none⟩) n cap l) (hn : 0 < n) (hm : n ≤ 1000000) (hT : Lib.Utf8Tabs 7 8 w) (c0 : UInt8) (hc : l[0]? = some c0) (h128 : 128 ≤ c0.toNat) :
    Calls Tryd.prog 58 #[.slice (some ⟨b, o, none⟩) n cap] w fun e w' => e = .returned (.tuple #[.int .i32 (decU l).1, .int .i64 (decU l).2]) ∧ Below w.heap.size w w' := by
  have C := Lib.hid (decSlow_c b o n cap l w h hn hm hT c0 hc h128)
  have hcell : w.cell? ⟨b, o, none⟩ = some (.int .u8 c0.toNat) := by
    obtain ⟨b', o', c', e, hb, h1, h2⟩ := h.cell hn
    cases e
    rw [hc] at h1
    cases h1
    exact h2
  have hn0 : (0 : Int) < (n : Int) := by omega
  have hc0 : ¬ (c0.toNat : Int) < 128 := by omega
  generalize decU l = dc at *
  clear h hT hc
  go_enter Tryd.func58, Tryd.ntmps58
  go_wp2_with fail
  go_loopg [8] 1 (fun g i wr => i = .int .i64 0 ∧ wr = w)
  case atStart => exact ⟨rfl, rfl⟩
  case round =>
    obtain ⟨rfl, rfl⟩ := hrel
    go_wp2_with fail
    refine C.out.mono ?_
    rintro e w1 ⟨rfl, hb⟩
    have B := Lib.hid hb
    clear hb
    go_wp2
    go_ret2
    exact ⟨rfl, B.out⟩
theorem ix_long (s sub : List UInt8) (h : s.length < sub.length) : Lib.index s sub = -1 := by
  rcases Lib.index_spec s sub with ⟨h1, _⟩ | ⟨i, h1, hi, ho, _⟩
  · exact h1
  · exfalso
    unfold Lib.occAt at ho
    have := (List.isPrefixOf_iff_prefix.1 ho).length_le
    rw [List.length_drop] at this
    omega
theorem run_ixByte (c : UInt8) (W : World) : (callFunc 53 #[.string ⟨#[60, 38]⟩, .int .u8 (c.toNat : Int)]).run Tryd.prog W = .ok (.value (.int .i64 (Lib.indexByte amL c))) W := by
  rw [run_callFunc_extern Tryd.func53 (by kernel_rfl) (by kernel_rfl) (by kernel_rfl) (e := Extern.BytealgIndexByte.indexByte) (by kernel_rfl), Lib.run_indexByteString]
  simp only [Result.andThen]
  have : ((c.toNat : Int)).toNat.toUInt8 = c := by simp
  rw [this]
  rfl
theorem run_ixStr (z : ByteArray) (m : Int) (W : World) (hM : W.cell? ⟨0, 0, none⟩ = some (.int .i64 m)) (h3 : 3 ≤ z.size) (hm : (z.size : Int) ≤ m) :
    (callFunc 59 #[.string ⟨#[60, 38]⟩, .string z]).run Tryd.prog W = .ok (.value (.int .i64 (-1))) W := by
  rw [run_callFunc_extern Tryd.func59 (by kernel_rfl) (by kernel_rfl) (by kernel_rfl) (e := Extern.BytealgIndex.index) (by kernel_rfl), Lib.run_indexString ⟨#[60, 38]⟩ z W 0 m (by kernel_rfl) hM (by omega) hm (by decide)]
  simp only [Result.andThen]
  rw [ix_long _ _ (by rw [Lib.size_eq] at h3; show 2 < _; omega)]
end Go.Proofs.YtmclngahdklfkaaDoor
/- bytes.IndexAny of '<' and '&'. -/
namespace Go.Proofs.YtmclngahdklfkaaDoor
open Go.ChangeShapes Go.WideShapes Go.ChangeAt Go.RowKit
set_option linter.unusedVariables false
set_option maxRecDepth 100000 in
set_option maxHeartbeats 8000000 in
theorem ixAm_long (A : Option Addr) (n cap : Nat) (l : List UInt8) (w : World) (h : Byt w w.heap.size A n cap l) (hm : n ≤ 1000000) (h8 : 8 < n) :
    Calls Tryd.prog 36 #[.slice A n cap, .string ⟨#[60, 38]⟩] w fun e w' => e = .returned (.int .i64 (Lib.indexAny l amL)) ∧ Below w.heap.size w w' := by
  have hln := h.length
  have hi := (zero_of_info (P := Tryd.prog) set_info).2
  have h8z : decide ((8 : Int) < (n : Int)) = true := decide_eq_true (by omega)
  have n1 : ((n : Int) == 1) = false := by simp; omega
  have CU := Lib.hid fun W => useSet_c (n : Int) W
  have CM := Lib.hid (amSet_c w)
  obtain ⟨S, hS⟩ : ∃ S, Lib.setCells amL = S := ⟨_, rfl⟩
  have hsz := Lib.setCells_size amL
  have h1 := Lib.setCells_one amL
  have hat := fun x : UInt8 => Lib.setCells_at amL x
  rw [hS] at CM hsz hat h1
  have hsc := run_storeCells_new (P := Tryd.prog) (w.alloc (.cells S 84)) 84 Tryd.zeroCells84 S (by rw [hsz]; exact hi) (by rw [hsz]; rfl) h1
  rw [World.size_alloc] at hsc
  have HB := Lib.hid h
  have hW2 := hp_new (w.alloc (.cells S 84)) (.cells S 84)
  rw [World.size_alloc] at hW2
  have hB2 : Below w.heap.size w ((w.alloc (.cells S 84)).alloc (.cells S 84)) := ((Below.refl w.heap.size w).alloc (Nat.le_refl _) (.cells S 84)).alloc (by simp) (.cells S 84)
  have H2 := Lib.hid (And.intro hW2 hB2)
  have HA := Lib.hid hat
  have HLn := Lib.hid hln
  clear h hi hat hS hW2 hB2 hln h1
  go_enter Tryd.func36, Tryd.ntmps36
  go_wp2_with fail
  refine (CU.out _).mono ?_
  rintro e w1 ⟨rfl, hw⟩
  rw [hw, h8z]
  clear hw w1
  go_wp2_with fail
  refine CM.out.mono ?_
  rintro e w1 ⟨rfl, hw⟩
  subst hw
  go_wp2_with fail
  clear hsc hsz
  have hsz2 : w.heap.size + 2 = w.heap.size + 1 + 1 := rfl
  generalize (w.alloc (.cells S 84)).alloc (.cells S 84) = w2 at *
  have CH : Hid (∀ x : UInt8, Calls Tryd.prog 57 #[.pointer (some ⟨w.heap.size + 1, 0, none⟩), .int .u8 x.toNat] w2 fun e w' => e = .returned (.bool (amL.contains x)) ∧ w' = w2) := Lib.hid fun x => setHas_c (w.heap.size + 1) x _ w2 (by rw [cell_of _ H2.out.1]; exact HA.out x)
  go_loopg [62] n (fun g i wr => ∃ t : Nat, i = .int .i64 (t : Int) ∧ t ≤ n ∧ Hid (g + t = n) ∧ wr = w2 ∧ Hid (Lib.NoAny l amL t))
  case atStart => exact ⟨0, rfl, Nat.zero_le _, Lib.hid (by omega), rfl, Lib.hid (Lib.NoAny.zero _ _)⟩
  case round =>
    obtain ⟨t, rfl, ht, hg, rfl, HN⟩ := hrel
    by_cases htn : t < n
    · have hti : (t : Int) < (n : Int) := by omega
      obtain ⟨b, o, c, rfl, hbB, hc, hcell⟩ := (HB.out.below H2.out.2).cell htn
      have HC := Lib.hid hc
      have CH1 := Lib.hid (CH.out c)
      clear hc
      cases hq : amL.contains c with
      | true =>
        have HI := Lib.hid (Lib.indexAny_hit HN.out HC.out hq)
        rw [hq] at CH1
        go_wp2_with fail
        refine CH1.out.mono ?_
        rintro e w3 ⟨rfl, rfl⟩
        go_wp2
        go_ret
        rw [HI.out]
        exact ⟨rfl, H2.out.2⟩
      | false =>
        have HN2 := Lib.hid (HN.out.succ HC.out hq)
        rw [hq] at CH1
        go_wp2_with fail
        refine CH1.out.mono ?_
        rintro e w3 ⟨rfl, rfl⟩
        go_wp2
        go_roundg (n - (t + 1))
        case measure => have := hg.out; omega
        case rel => exact ⟨t + 1, by go_num, by omega, Lib.hid (by omega), rfl, HN2⟩
    · have hti : ¬ (t : Int) < (n : Int) := by omega
      have HI : Hid (Lib.indexAny l amL = -1) := Lib.hid (Lib.indexAny_none (by have := HN.out; rwa [show t = l.length by rw [HLn.out]; omega] at this))
      go_wp2
      go_ret
      rw [HI.out]
      exact ⟨rfl, H2.out.2⟩
end Go.Proofs.YtmclngahdklfkaaDoor
/- bytes.IndexAny at short rows. -/
namespace Go.Proofs.YtmclngahdklfkaaDoor
open Go.ChangeShapes Go.WideShapes Go.ChangeAt Go.RowKit
set_option linter.unusedVariables false
theorem utf8_below {a b B : Nat} {w w' : World} (h : Lib.Utf8Tabs a b w) (hb : Below B w w') (ha : a < B) (hb' : b < B) : Lib.Utf8Tabs a b w' :=
  ⟨fun c hc => (hb.cell (p := ⟨a, c, none⟩) ha).trans (h.1 c hc), fun i hi => ⟨(hb.cell (p := ⟨b, _, none⟩) hb').trans (h.2 i hi).1, (hb.cell (p := ⟨b, _, none⟩) hb').trans (h.2 i hi).2⟩⟩
theorem utf8_lt {a b : Nat} {w : World} (h : Lib.Utf8Tabs a b w) : a < w.heap.size ∧ b < w.heap.size :=
  ⟨World.block_lt_of_cell? w _ (h.1 0 (by decide)), World.block_lt_of_cell? w _ (h.2 0 (by decide)).1⟩
theorem ixb_ge {c : UInt8} (h : amL.contains c = true) : (0 : Int) ≤ Lib.indexByte amL c := by
  have := Lib.contains_iff_indexByte amL c
  rw [h] at this
  exact of_decide_eq_true this.symm
theorem ixb_lt {c : UInt8} (h : amL.contains c = false) : ¬ (0 : Int) ≤ Lib.indexByte amL c := by
  have := Lib.contains_iff_indexByte amL c
  rw [h] at this
  exact of_decide_eq_false this.symm
set_option maxRecDepth 100000 in
set_option maxHeartbeats 8000000 in
theorem ixAm_one (A : Option Addr) (cap : Nat) (l : List UInt8) (w : World) (h : Byt w w.heap.size A 1 cap l) :
    Calls Tryd.prog 36 #[.slice A 1 cap, .string ⟨#[60, 38]⟩] w fun e w' => e = .returned (.int .i64 (Lib.indexAny l amL)) ∧ Below w.heap.size w w' := by
  have hln := h.length
  obtain ⟨b, o, c, rfl, hbB, hc, hcell⟩ := h.cell (i := 0) (by decide)
  obtain rfl : l = [c] := by
    match l, hln with
    | [x], _ => simp at hc; subst hc; rfl
  rw [Nat.add_zero] at hcell
  have hix := fun W => run_ixByte c W
  have c0 : (0 : Int) ≤ (c.toNat : Int) := by omega
  have c9 : (c.toNat : Int) ≤ 255 := by have := c.toNat_lt; omega
  clear h hln hc
  by_cases h128 : c.toNat < 128
  · have hci : ¬ (128 : Int) ≤ (c.toNat : Int) := by omega
    have hix1 : Lib.indexAny [c] amL = if amL.contains c = true then 0 else -1 := by
      unfold Lib.indexAny
      split
      · rfl
      · rfl
    rw [hix1]
    clear hix1
    cases hq : amL.contains c with
    | true =>
      have hg := ixb_ge hq
      generalize Lib.indexByte amL c = X at *
      go_enter Tryd.func36, Tryd.ntmps36
      go_wp2
      go_ret
      exact ⟨rfl, Below.refl _ _⟩
    | false =>
      have hg := ixb_lt hq
      generalize Lib.indexByte amL c = X at *
      go_enter Tryd.func36, Tryd.ntmps36
      go_wp2
      go_ret
      exact ⟨rfl, Below.refl _ _⟩
  · have hci : (128 : Int) ≤ (c.toNat : Int) := by omega
    have hix1 : Lib.indexAny [c] amL = -1 := by
      unfold Lib.indexAny
      rw [am_no c (by omega)]
      rfl
    rw [hix1]
    clear hix1 hix
    go_enter Tryd.func36, Tryd.ntmps36
    go_wp2_with fail
    go_loopg [5] 2 (fun g _ wx => ∃ i : Nat, i + g = 2 ∧ wx = w.iter ⟨#[60, 38]⟩ i)
    case atStart => exact ⟨0, by omega, rfl⟩
    case round =>
      obtain ⟨i, hig, rfl⟩ := hrel
      cases gk with
      | zero =>
        obtain rfl : i = 2 := by omega
        have hnx := fun ty => run_next_end (P := Tryd.prog) w ⟨#[60, 38]⟩ 2 ty (by decide)
        go_wp2
        go_ret
        exact ⟨rfl, (Below.refl _ _).alloc (Nat.le_refl _) _⟩
      | succ g =>
        have hi : i = 0 ∨ i = 1 := by omega
        rcases hi with rfl | rfl
        · have hnx := fun ty => run_next_ascii (P := Tryd.prog) w ⟨#[60, 38]⟩ 0 ty (by decide) (by decide)
          rw [show ((⟨#[60, 38]⟩ : ByteArray)[0]'(by decide)).toNat = 60 by rfl] at hnx
          go_wp2
          go_roundg g
          case measure => omega
          case rel => exact ⟨1, by omega, rfl⟩
        · have hnx := fun ty => run_next_ascii (P := Tryd.prog) w ⟨#[60, 38]⟩ 1 ty (by decide) (by decide)
          rw [show ((⟨#[60, 38]⟩ : ByteArray)[1]'(by decide)).toNat = 38 by rfl] at hnx
          go_wp2
          go_roundg g
          case measure => omega
          case rel => exact ⟨2, by omega, rfl⟩
theorem dec60 : Utf8.decode ⟨#[60, 38]⟩ 0 = (60, 1) := by kernel_rfl
theorem dec38 : Utf8.decode ⟨#[60, 38]⟩ 1 = (38, 1) := by kernel_rfl
set_option maxRecDepth 100000 in
set_option maxHeartbeats 8000000 in
theorem ixAm_short (A : Option Addr) (n cap : Nat) (l : List UInt8) (w : World) (h : Byt w w.heap.size A n cap l) (hT : Lib.Utf8Tabs 7 8 w) (hM : MaxL w) (hm : n ≤ 8) (hn1 : n ≠ 1) :
    Calls Tryd.prog 36 #[.slice A n cap, .string ⟨#[60, 38]⟩] w fun e w' => e = .returned (.int .i64 (Lib.indexAny l amL)) ∧ Below w.heap.size w w' := by
  have hln := h.length
  have h8z : decide ((8 : Int) < (n : Int)) = false := decide_eq_false (by omega)
  have n1 : ((n : Int) == 1) = false := by simp; omega
  have CU := Lib.hid fun W => useSet_c (n : Int) W
  have CD : Hid (∀ t, t < n → ∀ W, Below w.heap.size w W → ∀ c, l[t]? = some c → 128 ≤ c.toNat → Calls Tryd.prog 58 #[.slice (cutA A cap t) (n - t) (cap - t)] W fun e w' => e = .returned (.tuple #[.int .i32 (decU (l.drop t)).1, .int .i64 (decU (l.drop t)).2]) ∧ Below W.heap.size W w') := Lib.hid fun t ht W hb c hc h128 => by
    have hB := ((h.below hb).more hb.size).drop (k := t) (by omega)
    have h0 : (l.drop t)[0]? = some c := by rw [List.getElem?_drop]; exact hc
    obtain ⟨b, o, _, e, _⟩ := hB.cell (i := 0) (by omega)
    rw [e] at hB ⊢
    exact decRune_c b o _ _ _ W hB (by omega) (by omega) (utf8_below hT hb (utf8_lt hT).1 (utf8_lt hT).2) c h0 h128
  have HM : Hid (∀ W, Below w.heap.size w W → MaxL W) := Lib.hid fun W hb => hM.below hb hM.lt
  have HB := Lib.hid h
  have HLn := Lib.hid hln
  have hrf := fun (W : World) t (ht : t ≤ n) => run_from (w := W) A n cap t ht
  have HRF := Lib.hid hrf
  clear h hT hM hln hrf
  go_enter Tryd.func36, Tryd.ntmps36
  go_wp2_with fail
  refine (CU.out _).mono ?_
  rintro e w1 ⟨rfl, hw⟩
  rw [hw, h8z]
  clear hw w1 h8z
  go_wp2_with fail
  go_loopg [12] n (fun g i wr => ∃ t : Nat, i = .int .i64 (t : Int) ∧ t ≤ n ∧ Hid (g = n - t) ∧ Hid (Below w.heap.size w wr) ∧ Hid (Lib.NoAny l amL t))
  case atStart => exact ⟨0, rfl, Nat.zero_le _, Lib.hid rfl, Lib.hid (Below.refl _ _), Lib.hid (Lib.NoAny.zero _ _)⟩
  case round =>
    obtain ⟨t, rfl, ht, hg, HN0, HN⟩ := hrel
    by_cases htn : t < n
    · have hti : (t : Int) < (n : Int) := by omega
      have htb : (t : Int) ≤ 8 := by omega
      have ht0 : (0 : Int) ≤ (t : Int) := by omega
      obtain ⟨b, o, c, e, hbB, hc, hcell⟩ := (HB.out.below HN0.out).cell htn
      have HC := Lib.hid hc
      have c0 : (0 : Int) ≤ (c.toNat : Int) := by omega
      have c9 : (c.toNat : Int) ≤ 255 := by have := c.toNat_lt; omega
      by_cases h128 : c.toNat < 128
      · have hci : (c.toNat : Int) < 128 := by omega
        have hix := fun W => run_ixByte c W
        clear hc
        subst e
        cases hq : amL.contains c with
        | true =>
          have HI := Lib.hid (Lib.indexAny_hit HN.out HC.out hq)
          have hg := ixb_ge hq
          generalize Lib.indexByte amL c = X at *
          go_wp2
          go_ret
          rw [HI.out]
          exact ⟨rfl, HN0.out⟩
        | false =>
          have HN2 := Lib.hid (HN.out.succ HC.out hq)
          have hgl := ixb_lt hq
          generalize Lib.indexByte amL c = X at *
          go_wp2
          go_roundg (n - (t + 1))
          case measure => have := hg.out; omega
          case rel => exact ⟨t + 1, by go_num, by omega, Lib.hid rfl, HN0, HN2⟩
      · have hci : ¬ (c.toNat : Int) < 128 := by omega
        have CD1 := Lib.hid (CD.out t htn _ HN0.out c hc (by omega))
        have hsp := decU_span (l.drop t) c (by rw [List.getElem?_drop]; exact hc) (by omega)
        have hcs := decU_cases (l.drop t) c (by rw [List.getElem?_drop]; exact hc) (by omega)
        rw [List.length_drop, HLn.out] at hsp
        have hrf := HRF.out wr t (by omega)
        generalize hdc : decU (l.drop t) = dc at *
        obtain ⟨r, m⟩ := dc
        simp only at hsp hcs CD1
        have HN2 : Hid (Lib.NoAny l amL (t + m)) := Lib.hid (noAny_am HN.out fun j x h1 h2 h3 => hsp.2.2 (j - t) x (by omega) (by rw [List.getElem?_drop, show t + (j - t) = j by omega]; exact h3))
        have hm0 : (1 : Int) ≤ (m : Int) := by omega
        have hm9 : (m : Int) ≤ 8 := by omega
        have hr0 : (128 : Int) ≤ (r : Int) := by
          rcases hcs with h | h | h | h
          · cases h; decide
          all_goals omega
        have hr9 : (r : Int) ≤ 1114111 := by
          rcases hcs with h | h | h | h
          · cases h; decide
          all_goals omega
        have htm : t + m ≤ n := by omega
        clear hc hsp hdc h128
        subst e
        have B := Lib.hid HN0.out.size
        have r60 : ((r : Int) == 60) = false := by simp; omega
        have r38 : ((r : Int) == 38) = false := by simp; omega
        by_cases hE : r = 65533
        · have hEi : ((r : Int) == 65533) = true := by simp; omega
          clear hcs hE
          go_wp2_with fail
          refine CD1.out.mono ?_
          rintro e w2 ⟨rfl, hb2⟩
          have B2 := Lib.hid (HN0.out.trans (hb2.mono HN0.out.size))
          clear hb2
          go_wp2_with fail
          go_loopg [15] 2 (fun g _ wx => ∃ i : Nat, i + g = 2 ∧ wx.heap[w2.heap.size]? = some (.stringIter ⟨#[60, 38]⟩ i) ∧ Hid (Below w.heap.size w wx))
          case atStart => exact ⟨0, by omega, hp_new _ _, Lib.hid (B2.out.alloc B2.out.size _)⟩
          case round =>
            obtain ⟨i, hig, hit, HX⟩ := hrel
            cases gk with
            | zero =>
              obtain rfl : i = 2 := by omega
              have hnx := fun ty => run_next_end_at wr w2.heap.size ⟨#[60, 38]⟩ 2 ty hit (by decide)
              go_wp2
              go_roundg (n - (t + m))
              case measure => have := hg.out; omega
              case rel => exact ⟨t + m, by go_num, htm, Lib.hid rfl, HX, HN2⟩
            | succ g =>
              have hi : i = 0 ∨ i = 1 := by omega
              rcases hi with rfl | rfl
              · have hnx := fun ty => run_next_at wr w2.heap.size ⟨#[60, 38]⟩ 0 ty hit (by decide)
                rw [dec60] at hnx
                simp only at hnx
                have hat := itW_at (p := 0 + 1) hit
                have HX1 := Lib.hid (HX.out.trans ((itW_below (W := wr) (b := w2.heap.size) (p := 0 + 1) (s := ⟨#[60, 38]⟩)).mono B2.out.size))
                clear hit
                generalize itW wr w2.heap.size ⟨#[60, 38]⟩ (0 + 1) = wi at *
                go_wp2
                go_roundg g
                case measure => omega
                case rel => exact ⟨1, by omega, hat, HX1⟩
              · have hnx := fun ty => run_next_at wr w2.heap.size ⟨#[60, 38]⟩ 1 ty hit (by decide)
                rw [dec38] at hnx
                simp only at hnx
                have hat := itW_at (p := 1 + 1) hit
                have HX1 := Lib.hid (HX.out.trans ((itW_below (W := wr) (b := w2.heap.size) (p := 1 + 1) (s := ⟨#[60, 38]⟩)).mono B2.out.size))
                clear hit
                generalize itW wr w2.heap.size ⟨#[60, 38]⟩ (1 + 1) = wi at *
                go_wp2
                go_roundg g
                case measure => omega
                case rel => exact ⟨2, by omega, hat, HX1⟩
        · have hEi : ((r : Int) == 65533) = false := by simp; omega
          have kv := fun W => run_convert_int_string (P := Tryd.prog) W 21 9 .i32 (r : Int) (by kernel_rfl) (by kernel_rfl)
          have hcs2 : (m = 2 ∧ 128 ≤ r ∧ r < 2048) ∨ (m = 3 ∧ 2048 ≤ r ∧ r < 65536 ∧ (r < 55296 ∨ 57344 ≤ r)) ∨ (m = 4 ∧ 65536 ≤ r ∧ r ≤ 1114111) := by
            rcases hcs with h | h | h | h
            · exact absurd (congrArg Prod.fst h) hE
            · exact .inl h
            · exact .inr (.inl h)
            · exact .inr (.inr h)
          clear hcs hE
          rcases hcs2 with ⟨rfl, h1, h2⟩ | hcs3
          · obtain ⟨x, y, he, hy⟩ := enc2 r h1 h2
            rw [he] at kv
            have h38 : ((38 : UInt8) == y) = false := by
              have hy38 : (38 : UInt8) ≠ y := fun e => by subst e; simp at hy
              simp [hy38]
            clear h1 h2 he hy
            go_wp2_with fail
            refine CD1.out.mono ?_
            rintro e w2 ⟨rfl, hb2⟩
            have B2 := Lib.hid (HN0.out.trans (hb2.mono HN0.out.size))
            clear hb2
            go_wp2
            go_roundg (n - (t + 2))
            case measure => have := hg.out; omega
            case rel => exact ⟨t + 2, by go_num, htm, Lib.hid rfl, B2, HN2⟩
          · have hz : ∃ z : ByteArray, Utf8.encode (r : Int) = z ∧ z.size = m := by
              rcases hcs3 with ⟨rfl, h1, h2, h3⟩ | ⟨rfl, h1, h2⟩
              · obtain ⟨a1, a2, a3, he⟩ := enc3 r h1 h2 h3
                exact ⟨_, he, rfl⟩
              · obtain ⟨a1, a2, a3, a4, he⟩ := enc4 r h1 h2
                exact ⟨_, he, rfl⟩
            obtain ⟨z, he, hzm⟩ := hz
            have hm3 : 3 ≤ m := by rcases hcs3 with h | h <;> omega
            rw [he] at kv
            have m2 : ((2 : Int) == (m : Int)) = false := by simp; omega
            clear hcs3 he
            go_wp2_with fail
            refine CD1.out.mono ?_
            rintro e w2 ⟨rfl, hb2⟩
            have B2 := Lib.hid (HN0.out.trans (hb2.mono HN0.out.size))
            clear hb2
            obtain ⟨mx, hmx⟩ := HM.out w2 B2.out
            by_cases hmm : (m : Int) ≤ mx
            · have hxs := run_ixStr z mx w2 hmx (by omega) (by omega)
              go_wp2
              go_roundg (n - (t + m))
              case measure => have := hg.out; omega
              case rel => exact ⟨t + m, by go_num, htm, Lib.hid rfl, B2, HN2⟩
            · clear kv hzm
              go_wp2_with fail
              go_loopg [15] 2 (fun g _ wx => ∃ i : Nat, i + g = 2 ∧ wx.heap[w2.heap.size]? = some (.stringIter ⟨#[60, 38]⟩ i) ∧ Hid (Below w.heap.size w wx))
              case atStart => exact ⟨0, by omega, hp_new _ _, Lib.hid (B2.out.alloc B2.out.size _)⟩
              case round =>
                obtain ⟨i, hig, hit, HX⟩ := hrel
                cases gk with
                | zero =>
                  obtain rfl : i = 2 := by omega
                  have hnx := fun ty => run_next_end_at wr w2.heap.size ⟨#[60, 38]⟩ 2 ty hit (by decide)
                  go_wp2
                  go_roundg (n - (t + m))
                  case measure => have := hg.out; omega
                  case rel => exact ⟨t + m, by go_num, htm, Lib.hid rfl, HX, HN2⟩
                | succ g =>
                  have hi : i = 0 ∨ i = 1 := by omega
                  rcases hi with rfl | rfl
                  · have hnx := fun ty => run_next_at wr w2.heap.size ⟨#[60, 38]⟩ 0 ty hit (by decide)
                    rw [dec60] at hnx
                    simp only at hnx
                    have hat := itW_at (p := 0 + 1) hit
                    have HX1 := Lib.hid (HX.out.trans ((itW_below (W := wr) (b := w2.heap.size) (p := 0 + 1) (s := ⟨#[60, 38]⟩)).mono B2.out.size))
                    clear hit
                    generalize itW wr w2.heap.size ⟨#[60, 38]⟩ (0 + 1) = wi at *
                    go_wp2
                    go_roundg g
                    case measure => omega
                    case rel => exact ⟨1, by omega, hat, HX1⟩
                  · have hnx := fun ty => run_next_at wr w2.heap.size ⟨#[60, 38]⟩ 1 ty hit (by decide)
                    rw [dec38] at hnx
                    simp only at hnx
                    have hat := itW_at (p := 1 + 1) hit
                    have HX1 := Lib.hid (HX.out.trans ((itW_below (W := wr) (b := w2.heap.size) (p := 1 + 1) (s := ⟨#[60, 38]⟩)).mono B2.out.size))
                    clear hit
                    generalize itW wr w2.heap.size ⟨#[60, 38]⟩ (1 + 1) = wi at *
                    go_wp2
                    go_roundg g
                    case measure => omega
                    case rel => exact ⟨2, by omega, hat, HX1⟩
    · have hti : ¬ (t : Int) < (n : Int) := by omega
      have HI : Hid (Lib.indexAny l amL = -1) := Lib.hid (Lib.indexAny_none (by have := HN.out; rwa [show t = l.length by rw [HLn.out]; omega] at this))
      go_wp2
      go_ret
      rw [HI.out]
      exact ⟨rfl, HN0.out⟩
/-- bytes.IndexAny of '<' and '&'. -/
theorem indexAm_c (A : Option Addr) (n cap : Nat) (l : List UInt8) (w : World) (h : Byt w w.heap.size A n cap l) (hT : Lib.Utf8Tabs 7 8 w) (hM : MaxL w) (hm : n ≤ 1000000) :
    Calls Tryd.prog 36 #[.slice A n cap, .string ⟨#[60, 38]⟩] w fun e w' => e = .returned (.int .i64 (Lib.indexAny l amL)) ∧ Below w.heap.size w w' := by
  by_cases h1 : n = 1
  · subst h1
    exact ixAm_one A cap l w h
  · by_cases h8 : 8 < n
    · exact ixAm_long A n cap l w h hm h8
    · exact ixAm_short A n cap l w h hT hM (by omega) h1
end Go.Proofs.YtmclngahdklfkaaDoor
/- tok.opened, tok.text, the test of what stands at a place. -/
namespace Go.Proofs.YtmclngahdklfkaaDoor
open Go.ChangeShapes Go.WideShapes Go.ChangeAt Go.RowKit
set_option linter.unusedVariables false
/-- What is asked of the world. -/
structure W11 (w : World) : Prop where
  tabs : Tabs w
  forms : Forms w
  maxl : MaxL w
  fold : FoldT w
  u8 : Lib.Utf8Tabs 7 8 w
theorem W11.below {w w' : World} (h : W11 w) (hb : Below w.heap.size w w') : W11 w' :=
  ⟨h.tabs.below hb (h.tabs.low h.forms), h.forms.below hb h.forms.lt, h.maxl.below hb h.maxl.lt, h.fold.below hb h.fold.lt, utf8_below h.u8 hb (utf8_lt h.u8).1 (utf8_lt h.u8).2⟩
theorem W11.w10 {w : World} (h : W11 w) : W10 w := ⟨h.tabs, h.forms⟩
theorem W11.w8f {w : World} (h : W11 w) : W8F w := ⟨⟨h.tabs.n, h.forms, h.maxl⟩, h.fold⟩
set_option maxRecDepth 100000 in
set_option maxHeartbeats 4000000 in
theorem stands1_c (A : Option Addr) (n cap : Nat) (l : List UInt8) (k bb ab : Nat) (p : List UInt8) (w : World) (h : Byt w w.heap.size A n cap l) (hk : k ≤ n) (hp : p.length ≤ 100) (hzb : w.cell? ⟨bb, 0, none⟩ = some (.slice A n cap)) (hza : w.cell? ⟨ab, 0, none⟩ = some (.int .i64 (k : Int))) :
    Calls Tryd.prog 12 #[.string ⟨p.toArray⟩, .pointer (some ⟨bb, 0, none⟩), .pointer (some ⟨ab, 0, none⟩)] w fun e w' => e = .returned (.bool (p.isPrefixOf (l.drop k))) ∧ Below w.heap.size w w' := by
  have hrf := run_from (w := w) A n cap k hk
  have cv := run_toBytes w p
  have hb1 := Go.Joins.below_bytesWorld w.heap.size w 5 ⟨p.toArray⟩ (Nat.le_refl _)
  have C1 := Lib.hid (hasPrefix_c _ _ _ _ _ _ _ _ _ _ _ ((h.drop hk).below hb1) (byt_new w p (by omega)))
  have HB := Lib.hid hb1
  clear h hb1
  go_enter Tryd.func12, Tryd.ntmps12
  go_wp2_with fail
  refine C1.out.mono ?_
  rintro e wq ⟨rfl, hwq⟩
  subst hwq
  go_wp2
  go_ret
  exact ⟨rfl, HB.out⟩
/-- What a token's reading leaves: it, its row of attributes made anew, the error. -/
def TokPost (o : TokL × Nat) (w : World) (e : Ending) (w' : World) : Prop :=
  ∃ v : TokV, v.t = o.1 ∧ e = .returned (.tuple #[.agg v.cells.toArray, .int .i64 (o.2 : Int)]) ∧ PRd w' w'.heap.size v.A v.n v.c v.t.pairs ∧ Below w.heap.size w w' ∧ ∀ b i, v.A = some ⟨b, i, none⟩ → w.heap.size ≤ b
def openTok (l : List UInt8) (k : Nat) : TokL × Nat := (⟨if (openOut l k).1.empty = true then 8 else 7, 0, ((openOut l k).2.1 : Int), (openOut l k).1.name, [], (openOut l k).1.pairs, 0⟩, (openOut l k).2.2)
set_option maxRecDepth 100000 in
set_option maxHeartbeats 8000000 in
theorem tokOpened_c (A : Option Addr) (n cap : Nat) (l : List UInt8) (k : Nat) (w : World) (h : Byt w w.heap.size A n cap l) (hW : W11 w) (hm : n ≤ 40000) (hk : k ≤ n) :
    Calls Tryd.prog 18 #[.slice A n cap, .int .i64 (k : Int)] w fun e w' => TokPost (openTok l k) w e w' := by
  have hJ := CJ.start 27 w #[.int .i64 0, .int .i64 0, .int .i64 0, .string ⟨#[]⟩, .string ⟨#[]⟩, .slice none 0 0, .int .i64 0]
  have hi : (Tryd.prog.info? 27).map (·.size) = some 7 := by kernel_rfl
  obtain ⟨d, hu⟩ := isStruct_of (P := Tryd.prog) (t := 27) (by kernel_rfl)
  have HU := Lib.hid (And.intro hi hu)
  have C1 := Lib.hid (tagOpenF_in A n cap l k _ ((h.below hJ.1).more hJ.1.size) (hW.below hJ.1).w10 hm hk)
  unfold openTok
  have J0 := Lib.hid hJ
  clear h hW hJ hi hu
  generalize openOut l k = o at *
  obtain ⟨⟨s, ps, em⟩, to, e⟩ := o
  simp only
  cases em
  · simp only [Bool.false_eq_true, if_false]
    go_enter Tryd.func18, Tryd.ntmps18
    go_wp2_with fail
    refine C1.out.mono ?_
    rintro e0 w1 ⟨PA, pn, pc, rfl, hpr, hb, hlo⟩
    have J1 := J0.out.kept hb
    have HP := Lib.hid (And.intro hpr (fun b i h => Nat.lt_of_lt_of_le (lt_of J0.out.2) (hlo b i h)))
    have hq := hp_new w1 (.cells #[.string ⟨s.toArray⟩, .slice PA pn pc, .bool false] 59)
    have ka := (Below.refl _ w1).alloc (Nat.le_refl _) (.cells #[.string ⟨s.toArray⟩, .slice PA pn pc, .bool false] 59)
    have kb := ka.alloc (by simp) (.cells #[.int .i64 7, .int .i64 0, .int .i64 (to : Int), .string ⟨s.toArray⟩, .string ⟨#[]⟩, .slice PA pn pc, .int .i64 0] 27)
    have z2 : ((w1.alloc (.cells #[.string ⟨s.toArray⟩, .slice PA pn pc, .bool false] 59)).alloc (.cells #[.int .i64 7, .int .i64 0, .int .i64 (to : Int), .string ⟨s.toArray⟩, .string ⟨#[]⟩, .slice PA pn pc, .int .i64 0] 27)).cell? ⟨w1.heap.size, 2, none⟩ = some (.bool false) := by
      have : ((w1.alloc (.cells #[.string ⟨s.toArray⟩, .slice PA pn pc, .bool false] 59)).alloc (.cells #[.int .i64 7, .int .i64 0, .int .i64 (to : Int), .string ⟨s.toArray⟩, .string ⟨#[]⟩, .slice PA pn pc, .int .i64 0] 27)).heap[w1.heap.size]? = some (.cells #[.string ⟨s.toArray⟩, .slice PA pn pc, .bool false] 59) := by
        rw [Below.heap_alloc _ _ _ (by simp)]
        exact hq
      exact cell_of 2 this
    have hq4 : ((w1.alloc (.cells #[.string ⟨s.toArray⟩, .slice PA pn pc, .bool false] 59)).alloc (.cells #[.int .i64 7, .int .i64 0, .int .i64 (to : Int), .string ⟨s.toArray⟩, .string ⟨#[]⟩, .slice PA pn pc, .int .i64 0] 27)).heap[w1.heap.size + 1]? = some (.cells #[.int .i64 7, .int .i64 0, .int .i64 (to : Int), .string ⟨s.toArray⟩, .string ⟨#[]⟩, .slice PA pn pc, .int .i64 0] 27) := by
      have := hp_new (w1.alloc (.cells #[.string ⟨s.toArray⟩, .slice PA pn pc, .bool false] 59)) (.cells #[.int .i64 7, .int .i64 0, .int .i64 (to : Int), .string ⟨s.toArray⟩, .string ⟨#[]⟩, .slice PA pn pc, .int .i64 0] 27)
      rwa [World.size_alloc] at this
    have J4 := Lib.hid (J1.kept kb)
    have HQ4 := Lib.hid hq4
    have JF := Lib.hid (J4.out.row #[.int .i64 7, .int .i64 0, .int .i64 (to : Int), .string ⟨s.toArray⟩, .string ⟨#[]⟩, .slice PA pn pc, .int .i64 0])
    clear hpr hb hlo J1 ka kb hq hq4
    go_wp2_with (first | (refine wpList_load_row rfl _ _ rfl (w1.heap.size + 1) rfl _ _ _ _ HQ4.out HU.out.2 rfl HU.out.1 ?_) | (refine wpList_store_row rfl _ _ _ rfl w.heap.size #[.int .i64 7, .int .i64 0, .int .i64 (to : Int), .string ⟨s.toArray⟩, .string ⟨#[]⟩, .slice PA pn pc, .int .i64 0] rfl rfl _ _ J4.out.2 (by kernel_rfl) rfl (by kernel_rfl) ?_))
    (try simp only [Exit.inBlock, Exit.then])
    refine bodyPost_ret (results_cell2 rfl _ _ w.heap.size _ _ _ _ rfl JF.out.2 HU.out.2 rfl HU.out.1) rfl ⟨⟨⟨7, 0, (to : Int), s, [], ps, 0⟩, PA, pn, pc⟩, rfl, rfl, HP.out.1.move ?_ ?_, JF.out.1, fun b i h => Nat.le_of_lt (HP.out.2 b i h)⟩
    · simp [World.setRow]; omega
    · intro b' i' hA hb'
      have hlt := HP.out.2 b' i' hA
      rw [setRow_at _ _ _ _ (by omega), Below.heap_alloc _ _ _ (by simp; omega), Below.heap_alloc _ _ _ hb']
  · simp only [if_true]
    go_enter Tryd.func18, Tryd.ntmps18
    go_wp2_with fail
    refine C1.out.mono ?_
    rintro e0 w1 ⟨PA, pn, pc, rfl, hpr, hb, hlo⟩
    have J1 := J0.out.kept hb
    have HP := Lib.hid (And.intro hpr (fun b i h => Nat.lt_of_lt_of_le (lt_of J0.out.2) (hlo b i h)))
    have hq := hp_new w1 (.cells #[.string ⟨s.toArray⟩, .slice PA pn pc, .bool true] 59)
    have ka := (Below.refl _ w1).alloc (Nat.le_refl _) (.cells #[.string ⟨s.toArray⟩, .slice PA pn pc, .bool true] 59)
    have kb := ka.alloc (by simp) (.cells #[.int .i64 8, .int .i64 0, .int .i64 (to : Int), .string ⟨s.toArray⟩, .string ⟨#[]⟩, .slice PA pn pc, .int .i64 0] 27)
    have z2 : ((w1.alloc (.cells #[.string ⟨s.toArray⟩, .slice PA pn pc, .bool true] 59)).alloc (.cells #[.int .i64 7, .int .i64 0, .int .i64 (to : Int), .string ⟨s.toArray⟩, .string ⟨#[]⟩, .slice PA pn pc, .int .i64 0] 27)).cell? ⟨w1.heap.size, 2, none⟩ = some (.bool true) := by
      have : ((w1.alloc (.cells #[.string ⟨s.toArray⟩, .slice PA pn pc, .bool true] 59)).alloc (.cells #[.int .i64 7, .int .i64 0, .int .i64 (to : Int), .string ⟨s.toArray⟩, .string ⟨#[]⟩, .slice PA pn pc, .int .i64 0] 27)).heap[w1.heap.size]? = some (.cells #[.string ⟨s.toArray⟩, .slice PA pn pc, .bool true] 59) := by
        rw [Below.heap_alloc _ _ _ (by simp)]
        exact hq
      exact cell_of 2 this
    have hq4 : ((w1.alloc (.cells #[.string ⟨s.toArray⟩, .slice PA pn pc, .bool true] 59)).alloc (.cells #[.int .i64 8, .int .i64 0, .int .i64 (to : Int), .string ⟨s.toArray⟩, .string ⟨#[]⟩, .slice PA pn pc, .int .i64 0] 27)).heap[w1.heap.size + 1]? = some (.cells #[.int .i64 8, .int .i64 0, .int .i64 (to : Int), .string ⟨s.toArray⟩, .string ⟨#[]⟩, .slice PA pn pc, .int .i64 0] 27) := by
      have := hp_new (w1.alloc (.cells #[.string ⟨s.toArray⟩, .slice PA pn pc, .bool true] 59)) (.cells #[.int .i64 8, .int .i64 0, .int .i64 (to : Int), .string ⟨s.toArray⟩, .string ⟨#[]⟩, .slice PA pn pc, .int .i64 0] 27)
      rwa [World.size_alloc] at this
    have J4 := Lib.hid (J1.kept kb)
    have HQ4 := Lib.hid hq4
    have JF := Lib.hid (J4.out.row #[.int .i64 8, .int .i64 0, .int .i64 (to : Int), .string ⟨s.toArray⟩, .string ⟨#[]⟩, .slice PA pn pc, .int .i64 0])
    clear hpr hb hlo J1 ka kb hq hq4
    go_wp2_with (first | (refine wpList_load_row rfl _ _ rfl (w1.heap.size + 1) rfl _ _ _ _ HQ4.out HU.out.2 rfl HU.out.1 ?_) | (refine wpList_store_row rfl _ _ _ rfl w.heap.size #[.int .i64 8, .int .i64 0, .int .i64 (to : Int), .string ⟨s.toArray⟩, .string ⟨#[]⟩, .slice PA pn pc, .int .i64 0] rfl rfl _ _ J4.out.2 (by kernel_rfl) rfl (by kernel_rfl) ?_))
    (try simp only [Exit.inBlock, Exit.then])
    refine bodyPost_ret (results_cell2 rfl _ _ w.heap.size _ _ _ _ rfl JF.out.2 HU.out.2 rfl HU.out.1) rfl ⟨⟨⟨8, 0, (to : Int), s, [], ps, 0⟩, PA, pn, pc⟩, rfl, rfl, HP.out.1.move ?_ ?_, JF.out.1, fun b i h => Nat.le_of_lt (HP.out.2 b i h)⟩
    · simp [World.setRow]; omega
    · intro b' i' hA hb'
      have hlt := HP.out.2 b' i' hA
      rw [setRow_at _ _ _ _ (by omega), Below.heap_alloc _ _ _ (by simp; omega), Below.heap_alloc _ _ _ hb']
set_option maxRecDepth 100000 in
set_option maxHeartbeats 8000000 in
theorem tokText_c (A : Option Addr) (n cap : Nat) (l : List UInt8) (k : Nat) (w : World) (h : Byt w w.heap.size A n cap l) (hW : W11 w) (hm : n ≤ 40000) (hk : k ≤ n) :
    Calls Tryd.prog 21 #[.slice A n cap, .int .i64 (k : Int)] w fun e w' => TokPost (textTok l k) w e w' := by
  have hln := h.length
  have hJ := CJ.start 27 w #[.int .i64 0, .int .i64 0, .int .i64 0, .string ⟨#[]⟩, .string ⟨#[]⟩, .slice none 0 0, .int .i64 0]
  have hi : (Tryd.prog.info? 27).map (·.size) = some 7 := by kernel_rfl
  obtain ⟨d, hu⟩ := isStruct_of (P := Tryd.prog) (t := 27) (by kernel_rfl)
  have HU := Lib.hid (And.intro hi hu)
  have hB := (h.below hJ.1).more hJ.1.size
  have hX := ix_txt (l.drop k)
  have hld : (l.drop k).length = n - k := by rw [List.length_drop, hln]
  have htl := txt_le (l.drop k)
  have hpre : txt (l.drop k) = (l.drop k).take (txt (l.drop k)).length := List.prefix_iff_eq_take.1 (List.takeWhile_prefix _)
  have C1 := Lib.hid (indexAm_c _ _ _ _ _ (hB.drop hk) (hW.below hJ.1).u8 (hW.below hJ.1).maxl (by omega))
  have C2 : Hid (∀ W, Below w.heap.size w W → Calls Tryd.prog 37 #[.string ⟨(txt (l.drop k)).toArray⟩, .string ⟨#[93, 93, 62]⟩] W fun e w' => e = .returned (.bool (Lib.contains (txt (l.drop k)) [93, 93, 62])) ∧ W = w') := Lib.hid fun W hb => contains_c (txt (l.drop k)) [93, 93, 62] W (hW.below hb).maxl (by omega)
  have hst : ∀ W, Below w.heap.size w W → (convert 37 9 (.slice (cutA A cap k) (txt (l.drop k)).length (cap - k))).run Tryd.prog W = .ok (.string ⟨(txt (l.drop k)).toArray⟩) W := fun W hb => by
    have := (((h.below hb).drop hk).take (k := (txt (l.drop k)).length) (by omega)).str
    rwa [← hpre] at this
  have hrf := fun W : World => run_from (w := W) A n cap k hk
  have hcap := h.le
  have hft := fun W : World => run_fromTo (w := W) A n cap k (k + (txt (l.drop k)).length) (by omega) (by omega)
  unfold textTok
  rw [hX] at C1
  have J0 := Lib.hid hJ
  clear h hW hJ hi hu hB hX hpre
  generalize txt (l.drop k) = s at *
  have hk0 : (0 : Int) ≤ (k : Int) := by omega
  have hk1 : (k : Int) ≤ 40000 := by omega
  have hs1 : (s.length : Int) ≤ 40000 := by omega
  rw [show ((k + s.length : Nat) : Int) = (k : Int) + (s.length : Int) by omega, show k + s.length - k = s.length by omega] at hft
  rw [show ((k + s.length : Nat) : Int) = (k : Int) + (s.length : Int) by omega]
  generalize Lib.contains s [93, 93, 62] = ct at *
  rw [hld] at C1
  by_cases hsl : s.length < n - k
  · rw [if_pos hsl] at C1
    have hs0 : ¬ (s.length : Int) < 0 := by omega
    have HST := Lib.hid hst
    cases ct
    · simp only [Bool.false_eq_true, if_false]
      go_enter Tryd.func21, Tryd.ntmps21
      go_wp2_with fail
      refine C1.out.mono ?_
      rintro e0 w1 ⟨rfl, hb⟩
      have J1 := Lib.hid (J0.out.kept hb)
      have hst1 := HST.out w1 J1.out.1
      have JF := Lib.hid (J1.out.row #[.int .i64 1, .int .i64 0, .int .i64 ((k : Int) + (s.length : Int)), .string ⟨#[]⟩, .string ⟨s.toArray⟩, .slice none 0 0, .int .i64 0])
      clear hb
      go_wp2_with fail
      refine (C2.out _ J1.out.1).mono ?_
      rintro e0 wq ⟨rfl, hwq⟩
      subst hwq
      go_wp2_with (refine wpList_store_row rfl _ _ _ rfl w.heap.size #[.int .i64 1, .int .i64 0, .int .i64 ((k : Int) + (s.length : Int)), .string ⟨#[]⟩, .string ⟨s.toArray⟩, .slice none 0 0, .int .i64 0] rfl rfl _ _ J1.out.2 (by kernel_rfl) rfl (by kernel_rfl) ?_)
      (try simp only [Exit.inBlock, Exit.then])
      exact bodyPost_ret (results_cell2 rfl _ _ w.heap.size _ _ _ _ rfl JF.out.2 HU.out.2 rfl HU.out.1) rfl ⟨⟨⟨1, 0, (k : Int) + (s.length : Int), [], s, [], 0⟩, none, 0, 0⟩, rfl, rfl, PRd.nilR _ _, JF.out.1, fun b i h => by cases h⟩
    · simp only [if_true]
      go_enter Tryd.func21, Tryd.ntmps21
      go_wp2_with fail
      refine C1.out.mono ?_
      rintro e0 w1 ⟨rfl, hb⟩
      have J1 := Lib.hid (J0.out.kept hb)
      have hst1 := HST.out w1 J1.out.1
      have JF := Lib.hid (J1.out.row #[.int .i64 0, .int .i64 0, .int .i64 0, .string ⟨#[]⟩, .string ⟨#[]⟩, .slice none 0 0, .int .i64 0])
      clear hb
      go_wp2_with fail
      refine (C2.out _ J1.out.1).mono ?_
      rintro e0 wq ⟨rfl, hwq⟩
      subst hwq
      go_wp2_with (refine wpList_store_row rfl _ _ _ rfl w.heap.size #[.int .i64 0, .int .i64 0, .int .i64 0, .string ⟨#[]⟩, .string ⟨#[]⟩, .slice none 0 0, .int .i64 0] rfl rfl _ _ J1.out.2 (by kernel_rfl) rfl (by kernel_rfl) ?_)
      (try simp only [Exit.inBlock, Exit.then])
      exact bodyPost_ret (results_cell2 rfl _ _ w.heap.size _ _ _ _ rfl JF.out.2 HU.out.2 rfl HU.out.1) rfl ⟨⟨noTok, none, 0, 0⟩, rfl, rfl, PRd.nilR _ _, JF.out.1, fun b i h => by cases h⟩
  · rw [if_neg hsl] at C1
    have hse : s.length = n - k := by omega
    have hnk : (n : Int) - (k : Int) = (s.length : Int) := by omega
    clear hse hsl
    have HST := Lib.hid hst
    cases ct
    · simp only [Bool.false_eq_true, if_false]
      go_enter Tryd.func21, Tryd.ntmps21
      go_wp2_with fail
      refine C1.out.mono ?_
      rintro e0 w1 ⟨rfl, hb⟩
      have J1 := Lib.hid (J0.out.kept hb)
      have hst1 := HST.out w1 J1.out.1
      have JF := Lib.hid (J1.out.row #[.int .i64 1, .int .i64 0, .int .i64 ((k : Int) + (s.length : Int)), .string ⟨#[]⟩, .string ⟨s.toArray⟩, .slice none 0 0, .int .i64 0])
      clear hb
      go_wp2_with fail
      refine (C2.out _ J1.out.1).mono ?_
      rintro e0 wq ⟨rfl, hwq⟩
      subst hwq
      go_wp2_with (refine wpList_store_row rfl _ _ _ rfl w.heap.size #[.int .i64 1, .int .i64 0, .int .i64 ((k : Int) + (s.length : Int)), .string ⟨#[]⟩, .string ⟨s.toArray⟩, .slice none 0 0, .int .i64 0] rfl rfl _ _ J1.out.2 (by kernel_rfl) rfl (by kernel_rfl) ?_)
      (try simp only [Exit.inBlock, Exit.then])
      exact bodyPost_ret (results_cell2 rfl _ _ w.heap.size _ _ _ _ rfl JF.out.2 HU.out.2 rfl HU.out.1) rfl ⟨⟨⟨1, 0, (k : Int) + (s.length : Int), [], s, [], 0⟩, none, 0, 0⟩, rfl, rfl, PRd.nilR _ _, JF.out.1, fun b i h => by cases h⟩
    · simp only [if_true]
      go_enter Tryd.func21, Tryd.ntmps21
      go_wp2_with fail
      refine C1.out.mono ?_
      rintro e0 w1 ⟨rfl, hb⟩
      have J1 := Lib.hid (J0.out.kept hb)
      have hst1 := HST.out w1 J1.out.1
      have JF := Lib.hid (J1.out.row #[.int .i64 0, .int .i64 0, .int .i64 0, .string ⟨#[]⟩, .string ⟨#[]⟩, .slice none 0 0, .int .i64 0])
      clear hb
      go_wp2_with fail
      refine (C2.out _ J1.out.1).mono ?_
      rintro e0 wq ⟨rfl, hwq⟩
      subst hwq
      go_wp2_with (refine wpList_store_row rfl _ _ _ rfl w.heap.size #[.int .i64 0, .int .i64 0, .int .i64 0, .string ⟨#[]⟩, .string ⟨#[]⟩, .slice none 0 0, .int .i64 0] rfl rfl _ _ J1.out.2 (by kernel_rfl) rfl (by kernel_rfl) ?_)
      (try simp only [Exit.inBlock, Exit.then])
      exact bodyPost_ret (results_cell2 rfl _ _ w.heap.size _ _ _ _ rfl JF.out.2 HU.out.2 rfl HU.out.1) rfl ⟨⟨noTok, none, 0, 0⟩, rfl, rfl, PRd.nilR _ _, JF.out.1, fun b i h => by cases h⟩
end Go.Proofs.YtmclngahdklfkaaDoor
/- What a token's reading leaves. -/
namespace Go.Proofs.YtmclngahdklfkaaDoor
open Go.ChangeShapes Go.WideShapes Go.ChangeAt Go.RowKit
set_option linter.unusedVariables false
theorem TokPost.out {o : TokL × Nat} {w w' : World} {e : Ending} (h : TokPost o w e w') : ∃ PA pn pc, e = .returned (.tuple #[.agg #[.int .i64 o.1.kind, .int .i64 o.1.fro, .int .i64 o.1.to_, .string ⟨o.1.name.toArray⟩, .string ⟨o.1.text.toArray⟩, .slice PA pn pc, .int .i64 o.1.r], .int .i64 (o.2 : Int)]) ∧ PRd w' w'.heap.size PA pn pc o.1.pairs ∧ Below w.heap.size w w' ∧ ∀ b i, PA = some ⟨b, i, none⟩ → w.heap.size ≤ b := by
  obtain ⟨v, hv, he, hp, hb, hl⟩ := h
  refine ⟨v.A, v.n, v.c, ?_, by rw [← hv]; exact hp, hb, hl⟩
  rw [he, ← hv]
  rfl
theorem TokPost.of {o : TokL × Nat} {w w' : World} {e : Ending} (PA : Option Addr) (pn pc : Nat) (he : e = .returned (.tuple #[.agg #[.int .i64 o.1.kind, .int .i64 o.1.fro, .int .i64 o.1.to_, .string ⟨o.1.name.toArray⟩, .string ⟨o.1.text.toArray⟩, .slice PA pn pc, .int .i64 o.1.r], .int .i64 (o.2 : Int)])) (hp : PRd w' w'.heap.size PA pn pc o.1.pairs) (hb : Below w.heap.size w w') (hl : ∀ b i, PA = some ⟨b, i, none⟩ → w.heap.size ≤ b) : TokPost o w e w' :=
  ⟨⟨o.1, PA, pn, pc⟩, rfl, he, hp, hb, hl⟩
theorem TokPost.no {x : Nat} {w w' : World} {e : Ending} (he : e = .returned (.tuple #[.agg #[.int .i64 0, .int .i64 0, .int .i64 0, .string ⟨#[]⟩, .string ⟨#[]⟩, .slice none 0 0, .int .i64 0], .int .i64 (x : Int)])) (hb : Below w.heap.size w w') : TokPost (noTok, x) w e w' :=
  TokPost.of none 0 0 he (PRd.nilR _ _) hb (fun b i h => by cases h)
end Go.Proofs.YtmclngahdklfkaaDoor
/- narthexref11.Next, arm by arm. -/
namespace Go.Proofs.YtmclngahdklfkaaDoor
open Go.ChangeShapes Go.WideShapes Go.ChangeAt Go.RowKit
set_option linter.unusedVariables false
/-- While the document's token is read: the result's block, the token's own. -/
structure RN (w W : World) (rs vs : Array Value) : Prop where
  below : Below w.heap.size w W
  size : w.heap.size + 1 < W.heap.size
  res : W.heap[w.heap.size]? = some (.cells rs 29)
  tok : W.heap[w.heap.size + 1]? = some (.cells vs 29)
theorem RN.start (k : Nat) (w : World) : RN w ((w.alloc (.cells #[.int .i64 0, .int .i64 0, .int .i64 0, .string ⟨#[]⟩, .string ⟨#[]⟩, .slice none 0 0, .int .i64 0] 29)).alloc (.cells #[.int .i64 0, .int .i64 (k : Int), .int .i64 0, .string ⟨#[]⟩, .string ⟨#[]⟩, .slice none 0 0, .int .i64 0] 29)) #[.int .i64 0, .int .i64 0, .int .i64 0, .string ⟨#[]⟩, .string ⟨#[]⟩, .slice none 0 0, .int .i64 0] #[.int .i64 0, .int .i64 (k : Int), .int .i64 0, .string ⟨#[]⟩, .string ⟨#[]⟩, .slice none 0 0, .int .i64 0] := by
  have b1 := (Below.refl w.heap.size w).alloc (Nat.le_refl _) (.cells #[.int .i64 0, .int .i64 0, .int .i64 0, .string ⟨#[]⟩, .string ⟨#[]⟩, .slice none 0 0, .int .i64 0] 29)
  refine ⟨b1.alloc (by simp) (.cells #[.int .i64 0, .int .i64 (k : Int), .int .i64 0, .string ⟨#[]⟩, .string ⟨#[]⟩, .slice none 0 0, .int .i64 0] 29), by simp, ?_, ?_⟩
  · rw [Below.heap_alloc _ _ _ (by simp)]; exact hp_new _ _
  · have := hp_new (w.alloc (.cells #[.int .i64 0, .int .i64 0, .int .i64 0, .string ⟨#[]⟩, .string ⟨#[]⟩, .slice none 0 0, .int .i64 0] 29)) (.cells #[.int .i64 0, .int .i64 (k : Int), .int .i64 0, .string ⟨#[]⟩, .string ⟨#[]⟩, .slice none 0 0, .int .i64 0] 29)
    rwa [World.size_alloc] at this
theorem RN.kept {w W W' : World} {rs vs : Array Value} (h : RN w W rs vs) (hb : Below W.heap.size W W') : RN w W' rs vs :=
  ⟨h.below.trans (hb.mono h.below.size), by have := hb.size; have := h.size; omega, by rw [hb.block _ (by have := h.size; omega)]; exact h.res, by rw [hb.block _ h.size]; exact h.tok⟩
theorem RN.set {w W : World} {rs vs : Array Value} (h : RN w W rs vs) (i : Nat) (v : Value) : RN w (W.setCell ⟨w.heap.size + 1, i, none⟩ v) rs (vs.setIfInBounds i v) :=
  ⟨h.below.setCell (p := ⟨w.heap.size + 1, i, none⟩) (Nat.le_succ _) v, by simpa using h.size, by rw [hp_other (by omega)]; exact h.res, hp_set h.tok⟩
theorem RN.row {w W : World} {rs vs : Array Value} (h : RN w W rs vs) (cs : Array Value) : RN w (W.setRow w.heap.size cs) cs vs := by
  refine ⟨⟨h.below.os, h.below.tape, h.below.output, ?_, fun j hj => ?_⟩, ?_, setRow_heap _ _ _ _ _ _ h.res, ?_⟩
  · have := h.below.size; simpa [World.setRow] using this
  · rw [setRow_other _ _ _ _ (by omega)]; exact h.below.block j hj
  · simpa [World.setRow] using h.size
  · rw [setRow_other _ _ _ _ (by omega)]; exact h.tok
theorem RN.drewN {w W : World} {rs vs : Array Value} (h : RN w W rs vs) (q : Nat) : RN w (W.drewN q) rs vs := ⟨below_drewN' h.below, h.size, h.res, h.tok⟩
end Go.Proofs.YtmclngahdklfkaaDoor
/- narthexref11.Next, at an element. -/
namespace Go.Proofs.YtmclngahdklfkaaDoor
open Go.ChangeShapes Go.WideShapes Go.ChangeAt Go.RowKit
set_option linter.unusedVariables false
end Go.Proofs.YtmclngahdklfkaaDoor
/- narthexref11.Next, at a text. -/
namespace Go.Proofs.YtmclngahdklfkaaDoor
open Go.ChangeShapes Go.WideShapes Go.ChangeAt Go.RowKit
set_option linter.unusedVariables false
end Go.Proofs.YtmclngahdklfkaaDoor
/- narthexref11.Next, at any place. -/
namespace Go.Proofs.YtmclngahdklfkaaDoor
open Go.ChangeShapes Go.WideShapes Go.ChangeAt Go.RowKit
set_option linter.unusedVariables false
end Go.Proofs.YtmclngahdklfkaaDoor
/- Tokens turned to the document's; the same ones. -/
namespace Go.Proofs.YtmclngahdklfkaaDoor
open Go.ChangeShapes Go.WideShapes Go.ChangeAt Go.RowKit
set_option linter.unusedVariables false
end Go.Proofs.YtmclngahdklfkaaDoor
