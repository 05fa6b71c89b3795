/- Texts of ours, joined: EscP, Bits, MiscP, Tag0, RowG, RowS, RowC, Run, RunU, RunV. -/
import Derived.Test.YtfemfgkcgboopaaGreatDoorRows
import Derived.WalkKit
import Derived.ProofKit
import Derived.OpenShut
import Derived.ShutString
import Derived.ChangeOld
import Derived.Below
import Derived.BigQuiet
import Derived.Deep.QuietTactic
import Derived.Lib.Hide
import Derived.Deep.RegionHeld3
import Derived.Lib.SlBytesConst
import Derived.Laws.CopyOwn
import Derived.Laws.CopyRow
import Derived.Lib.Bytes
import Derived.Deep.LoopGhost
import Derived.Deep.DeepFit
import Derived.Deep.DeepMust
import Derived.WalkSpells
import Derived.WalkLawsBesides
import Derived.Laws.EntriesVeiled
import Derived.Laws.Rows
import Derived.Test.YtfemfgkcgboopaaGreatDoorQ1
import Derived.Test.YtfemfgkcgboopaaGreatDoorQ2
import Derived.Test.YtfemfgkcgboopaaGreatDoorQ3
import Derived.Test.YtfemfgkcgboopaaGreatDoorQ4
import Derived.Test.YtfemfgkcgboopaaGreatDoorQ9
import Derived.Test.YtfemfgkcgboopaaGreatDoorQ6
import Derived.Test.YtfemfgkcgboopaaGreatDoorQ14
import Derived.Test.YtfemfgkcgboopaaGreatDoorQ15
import Derived.Lib.ConvBytes
import Derived.Test.YtfemfgkcgboopaaGreatDoorQ13
import Derived.Lib.IndexMore
import Derived.Lib.IndexLaws
import Derived.Maps.OwnOps
import Derived.Maps.Views
import Derived.Maps.OwnSet
import Derived.Maps.AppendAt
import Derived.Lib.SmallJoins
import Derived.Deep.AppendLies
import Derived.Deep.RegionLaw
import Derived.Deep.RegionWith
import Derived.DeepKeys4
import Derived.MapViews
import Derived.Maps.Keyed
import Derived.Test.YtfemfgkcgboopaaGreatDoorQ10
import Derived.Test.YtfemfgkcgboopaaGreatDoorQ5
import Derived.Test.YtfemfgkcgboopaaGreatDoorQ7
import Derived.Test.YtfemfgkcgboopaaGreatDoorQ8
import Derived.RangeFuncNested
import Derived.RangeFuncBound
import Derived.RangeFuncCalls
import Derived.RangeFuncLeaves
import Derived.RangeFuncBox
import Derived.Shelf.Abstract
import Derived.Shelf.RegionOpen
import Derived.OwnWalkIn
import Derived.TacticsInMore
import Derived.LoopNIn
import Derived.LoopIn
/- Escaped texts: plain law. -/
namespace Go.Proofs.YtfemfgkcgboopaaGreatDoor
open Go.ChangeShapes Go.WideShapes Go.ChangeAt Go.RowKit
set_option linter.unusedVariables false
theorem esc_drop (l : List UInt8) (k : Nat) (hk : k < l.length) : (esc l).drop (esc (l.take k)).length = escB (l.getD k 0) ++ esc (l.drop (k + 1)) := by
  have e : l = l.take k ++ (l.getD k 0 :: l.drop (k + 1)) := by
    conv => lhs; rw [← List.take_append_drop k l, List.drop_eq_getElem_cons hk]
    simp [hk]
  have e2 : esc l = esc (l.take k) ++ (escB (l.getD k 0) ++ esc (l.drop (k + 1))) := by
    conv => lhs; rw [e]
    simp only [esc, List.flatMap_append, List.flatMap_cons]
  rw [e2, List.drop_left]
theorem getE_of_drop {X Y : List UInt8} {i : Nat} (h : X.drop i = Y) (j : Nat) : X[i + j]? = Y[j]? := by rw [← h, List.getElem?_drop]
theorem drop_of_drop {X Y : List UInt8} {i : Nat} (h : X.drop i = Y) (j : Nat) : X.drop (i + j) = Y.drop j := by rw [← h, List.drop_drop]
theorem len_of_drop {X Y : List UInt8} {i : Nat} (h : X.drop i = Y) (hy : 0 < Y.length) : X.length = i + Y.length := by
  have := congrArg List.length h
  rw [List.length_drop] at this
  omega
/-- What begins with an ASCII byte. -/
theorem dec_asciiE (c : UInt8) (t : List UInt8) (h : c.toNat < 128) : dec (c :: t) = some (c.toNat, 1) := by
  have := dec_1 (c :: t) 0 c rfl h
  simpa using this
/-- A name of ASCII bytes, up to a byte that is none of it. -/
theorem endL_run (g : Int → Bool) (d : UInt8) (hd : d.toNat < 128) (hg : g d.toNat = false) (rest : List UInt8) : ∀ (ns : List UInt8) (k : Nat), ns.length < k → (∀ c ∈ ns, c.toNat < 128 ∧ g c.toNat = true) → endL g g k (ns ++ d :: rest) = ns.length
  | [], k, hk, _ => endL_no g g k (d :: rest) _ _ (dec_asciiE d rest hd) hg
  | c :: t, 0, hk, _ => by simp at hk
  | c :: t, k + 1, hk, h => by
    have hc := h c List.mem_cons_self
    rw [List.cons_append, endL_yes g g k _ _ _ (dec_asciiE c _ hc.1) hc.2, List.drop_one, List.tail_cons, endL_run g d hd hg rest t k (by simpa using hk) fun x hx => h x (List.mem_cons_of_mem _ hx)]
    simp; omega
theorem ref_name (n0 : UInt8) (nt rest X : List UInt8) (i : Nat) (h : X.drop i = 38 :: n0 :: (nt ++ 59 :: rest)) (h0 : n0.toNat < 128 ∧ noColon isStart n0.toNat = true) (ht : ∀ c ∈ nt, c.toNat < 128 ∧ noColon isMore c.toNat = true) (hl : nt.length ≤ 1000) :
    refOut 38 X i = (n0 :: nt, i + nt.length + 3, 0) := by
  have hlen := len_of_drop h (by simp)
  have e0 : X[i]? = some 38 := by have := getE_of_drop h 0; simpa using this
  have ed : X.drop (i + 1) = n0 :: (nt ++ 59 :: rest) := by have := drop_of_drop h 1; simpa using this
  have hend : endL (noColon isStart) (noColon isMore) X.length (X.drop (i + 1)) = nt.length + 1 := by
    obtain ⟨k, hk⟩ : ∃ k, X.length = k + 1 := ⟨X.length - 1, by simp at hlen; omega⟩
    rw [hk, ed, endL_yes _ _ _ _ _ _ (dec_asciiE n0 _ h0.1) h0.2, List.drop_one, List.tail_cons, endL_run (noColon isMore) 59 (by decide) (by decide +kernel) rest nt k (by simp at hlen; omega) ht]
    omega
  have hp : plainOut X (i + 1) = (n0 :: nt, i + 1 + (nt.length + 1), 0) := by
    unfold plainOut
    simp only [hend]
    rw [if_neg (by omega), if_neg (by omega), ed]
    simp
  have e2 : X[i + 1 + (nt.length + 1)]? = some 59 := by
    rw [getE_of_drop ed]
    simp
  unfold refOut
  rw [e0]
  simp only [hp, e2]
  simp
  omega
theorem ref_no (X : List UInt8) (i : Nat) (c : UInt8) (h : X[i]? = some c) (hc : ¬ c = 38) : refOut 38 X i = ([], 0, 7) ∧ charOut X i = (0, 0, 7) := by
  constructor
  · unfold refOut; rw [h]; simp [hc]
  · unfold charOut; rw [h, if_neg (by simp [hc])]
theorem ref_hash (X : List UInt8) (i : Nat) (h0 : X[i]? = some 38) (h1 : X[i + 1]? = some 35) : refOut 38 X i = ([], 0, 7) := by
  have hl : i + 1 < X.length := by
    rcases Nat.lt_or_ge (i + 1) X.length with h | h
    · exact h
    · rw [List.getElem?_eq_none h] at h1; cases h1
  have hd : dec (X.drop (i + 1)) = some (35, 1) := dec_1 X (i + 1) 35 h1 (by decide)
  have hend : endL (noColon isStart) (noColon isMore) X.length (X.drop (i + 1)) = 0 := endL_no _ _ _ _ _ _ hd (by decide +kernel)
  have hp : plainOut X (i + 1) = ([], 0, 7) := by unfold plainOut; simp only [hend]; rfl
  unfold refOut
  rw [h0]
  simp [hp]
theorem char_name (X : List UInt8) (i : Nat) (c : UInt8) (h1 : X[i + 1]? = some c) (hc : ¬ c = 35) : charOut X i = (0, 0, 7) := by
  unfold charOut; rw [if_neg (by rw [h1]; simp [hc])]
theorem digs_run (b : Int) (rest : List UInt8) (d : UInt8) (hd : digit b d.toNat < 0) : ∀ ds : List UInt8, (∀ c ∈ ds, 0 ≤ digit b c.toNat) → digs b (ds ++ d :: rest) = ds
  | [], _ => by
    show digs b (d :: rest) = []
    unfold digs
    rw [if_neg (by omega)]
  | c :: t, h => by
    show digs b (c :: (t ++ d :: rest)) = c :: t
    unfold digs
    rw [if_pos (h c List.mem_cons_self), digs_run b rest d hd t fun x hx => h x (List.mem_cons_of_mem _ hx)]
theorem char_num (ds rest X : List UInt8) (i : Nat) (h : X.drop i = 38 :: 35 :: (ds ++ 59 :: rest)) (h0 : ds ≠ []) (hd : ∀ c ∈ ds, 0 ≤ digit 10 c.toNat) : charOut X i = if isDoc (numU 10 ds) = true then (numU 10 ds, i + ds.length + 3, 0) else (0, 0, 6) := by
  have e0 : X[i]? = some 38 := by have := getE_of_drop h 0; simpa using this
  have e1 : X[i + 1]? = some 35 := by have := getE_of_drop h 1; simpa using this
  have e2 : ¬ X[i + 2]? = some 120 := by
    rw [getE_of_drop h]
    cases ds with
    | nil => exact absurd rfl h0
    | cons c t =>
      intro e
      have e' : c = 120 := by simpa using e
      have := hd c List.mem_cons_self
      rw [e'] at this
      exact absurd this (by decide +kernel)
  have ed : X.drop (i + 2) = ds ++ 59 :: rest := by have := drop_of_drop h 2; simpa using this
  have hds : digs 10 (X.drop (i + 2)) = ds := by rw [ed, digs_run 10 rest 59 (by decide +kernel) ds hd]
  have e3 : X[i + 2 + ds.length]? = some 59 := by rw [getE_of_drop ed]; simp
  have hc := cap_doc 10 2097152 (by omega) (by omega) ds hd
  unfold charOut
  rw [if_pos ⟨e0, e1⟩, if_neg e2]
  unfold charBody
  simp only [hds, e3]
  rw [if_neg (by simp; exact h0), hc.1]
  by_cases hdoc : isDoc (numU 10 ds) = true
  · rw [if_pos hdoc, if_pos hdoc, hc.2 hdoc]
    congr 2
    omega
  · rw [if_neg hdoc, if_neg hdoc]
/-- What is read at the place of an escaped byte. -/
def escAt (X : List UInt8) (i : Nat) (c : UInt8) : Prop :=
  (X[i]? = some 38 ∧ escB c ≠ [c] ∧
    ((∃ ns, refOut 38 X i = (ns, i + (escB c).length, 0) ∧ (knownOf ⟨ns.toArray⟩ : Int) = c.toNat ∧ charOut X i = (0, 0, 7) ∧ X[i + 1]? ≠ some 35) ∨ (refOut 38 X i = ([], 0, 7) ∧ charOut X i = ((c.toNat : Int), i + (escB c).length, 0) ∧ X[i + 1]? = some 35))) ∨
  (X[i]? = some c ∧ c ≠ 38 ∧ c ≠ 60 ∧ c ≠ 34 ∧ c ≠ 13 ∧ c ≠ 10 ∧ c ≠ 9 ∧ c ≠ 62 ∧ escB c = [c] ∧ refOut 38 X i = ([], 0, 7) ∧ charOut X i = (0, 0, 7))
theorem escAt_name (X rest : List UInt8) (i : Nat) (c n0 : UInt8) (nt : List UInt8) (h : X.drop i = escB c ++ rest) (he : escB c = 38 :: n0 :: (nt ++ [59])) (hne : escB c ≠ [c]) (h0 : n0.toNat < 128 ∧ noColon isStart n0.toNat = true ∧ n0 ≠ 35)
    (ht : nt.all (fun c => decide (c.toNat < 128) && noColon isMore c.toNat) = true) (hl : nt.length ≤ 1000) (hk : (knownOf ⟨(n0 :: nt).toArray⟩ : Int) = c.toNat) : escAt X i c := by
  have h' : X.drop i = 38 :: n0 :: (nt ++ 59 :: rest) := by rw [h, he]; simp
  have e0 : X[i]? = some 38 := by have := getE_of_drop h' 0; simpa using this
  have e1 : X[i + 1]? = some n0 := by have := getE_of_drop h' 1; simpa using this
  refine Or.inl ⟨e0, hne, Or.inl ⟨n0 :: nt, ?_, hk, char_name X i n0 e1 h0.2.2, by rw [e1]; simpa using h0.2.2⟩⟩
  rw [ref_name n0 nt rest X i h' ⟨h0.1, h0.2.1⟩ (fun c hc => by have := List.all_eq_true.1 ht c hc; simpa using this) hl, he]
  simp
  omega
theorem escAt_num (X rest : List UInt8) (i : Nat) (c : UInt8) (ds : List UInt8) (h : X.drop i = escB c ++ rest) (he : escB c = 38 :: 35 :: (ds ++ [59])) (hne : escB c ≠ [c]) (h0 : ds ≠ [])
    (hd : ds.all (fun c => decide (0 ≤ digit 10 c.toNat)) = true) (hn : numU 10 ds = c.toNat) (hdoc : isDoc (c.toNat) = true) : escAt X i c := by
  have h' : X.drop i = 38 :: 35 :: (ds ++ 59 :: rest) := by rw [h, he]; simp
  have e0 : X[i]? = some 38 := by have := getE_of_drop h' 0; simpa using this
  have e1 : X[i + 1]? = some 35 := by have := getE_of_drop h' 1; simpa using this
  refine Or.inl ⟨e0, hne, Or.inr ⟨ref_hash X i e0 e1, ?_, e1⟩⟩
  rw [char_num ds rest X i h' h0 (fun c hc => by have := List.all_eq_true.1 hd c hc; simpa using this), hn, if_pos hdoc, he]
  simp
  omega
theorem escAt_of (X rest : List UInt8) (i : Nat) (c : UInt8) (h : X.drop i = escB c ++ rest) : escAt X i c := by
  by_cases h0 : c = 38
  · subst h0; exact escAt_name X rest i 38 97 [109, 112] h rfl (by decide) (by decide +kernel) (by decide +kernel) (by decide) (by decide +kernel)
  by_cases h1 : c = 60
  · subst h1; exact escAt_name X rest i 60 108 [116] h rfl (by decide) (by decide +kernel) (by decide +kernel) (by decide) (by decide +kernel)
  by_cases h2 : c = 62
  · subst h2; exact escAt_name X rest i 62 103 [116] h rfl (by decide) (by decide +kernel) (by decide +kernel) (by decide) (by decide +kernel)
  by_cases h3 : c = 34
  · subst h3; exact escAt_name X rest i 34 113 [117, 111, 116] h rfl (by decide) (by decide +kernel) (by decide +kernel) (by decide) (by decide +kernel)
  by_cases h4 : c = 13
  · subst h4; exact escAt_num X rest i 13 [49, 51] h rfl (by decide) (by decide) (by decide +kernel) (by decide +kernel) (by decide +kernel)
  by_cases h5 : c = 10
  · subst h5; exact escAt_num X rest i 10 [49, 48] h rfl (by decide) (by decide) (by decide +kernel) (by decide +kernel) (by decide +kernel)
  by_cases h6 : c = 9
  · subst h6; exact escAt_num X rest i 9 [57] h rfl (by decide) (by decide) (by decide +kernel) (by decide +kernel) (by decide +kernel)
  have he : escB c = [c] := by unfold escB; simp [h0, h1, h2, h3, h4, h5, h6]
  have e0 : X[i]? = some c := by have := getE_of_drop h 0; rw [he] at this; simpa using this
  have := ref_no X i c e0 h0
  exact Or.inr ⟨e0, h0, h1, h3, h4, h5, h6, h2, he, this.1, this.2⟩
end Go.Proofs.YtfemfgkcgboopaaGreatDoor
/- Bytes of a string, of a constant. -/
namespace Go.Proofs.YtfemfgkcgboopaaGreatDoor
open Go.ChangeShapes Go.WideShapes Go.ChangeAt Go.RowKit
set_option linter.unusedVariables false
theorem byt_new (w : World) (l : List UInt8) (hl : l.length ≤ 1000000) : Byt (Lib.bytesWorld w 5 ⟨l.toArray⟩) (w.heap.size + 1) (some ⟨w.heap.size, 0, none⟩) l.length (grownCap w l.length 0 5) l := by
  have hsz : (⟨l.toArray⟩ : ByteArray).size = l.length := by simp [ByteArray.size]
  refine ⟨by simp, grownCap_ge _ _ _ _, grownCap_le_maxLen _ _ _ _ (by unfold maxLen; omega), (fun e => by cases e), fun _ => ⟨_, _, rfl, by omega, fun i u hu => ?_⟩⟩
  have hi : i < l.length := by
    rcases Nat.lt_or_ge i l.length with h' | h'
    · exact h'
    · rw [List.getElem?_eq_none (by simpa using h')] at hu; cases hu
  rw [Nat.zero_add, Lib.bytesWorld_cell _ _ _ _ (by rw [hsz]; exact hi)]
  rw [List.getElem?_map, List.getElem?_eq_getElem hi] at hu
  simp only [Option.map_some, Option.some.injEq] at hu
  rw [← hu]
  simp [bv, hi]
theorem run_toBytes (w : World) (l : List UInt8) : (convert 9 65 (.string ⟨l.toArray⟩)).run Tryz.prog w = .ok (.slice (some ⟨w.heap.size, 0, none⟩) l.length (grownCap w l.length 0 5)) (Lib.bytesWorld w 5 ⟨l.toArray⟩) := by
  have hsz : (⟨l.toArray⟩ : ByteArray).size = l.length := by simp [ByteArray.size]
  have := Lib.run_convert_string_bytes (P := Tryz.prog) w 9 65 5 ⟨l.toArray⟩ Tryz.underlying9 Tryz.underlying65 Tryz.underlying5
  rwa [hsz] at this
theorem run_upTo {w : World} (A : Option Addr) (n cap t : Nat) (ht : t ≤ cap) : (Instr.slice 65 (.slice A n cap) none (some (.int .i64 (t : Int))) none).run Tryz.prog w = .ok (.slice A t cap) w := by
  rw [run_slice_h (P := Tryz.prog) (w := w) 65 A n cap (by kernel_rfl) .i64 (t : Int) (by omega) (by omega), size_u8]
  simp [sliced]
  intro _
  cases A with
  | none => rfl
  | some a => simp [Addr.add]
end Go.Proofs.YtfemfgkcgboopaaGreatDoor
/- Plain law of texts between marks. -/
namespace Go.Proofs.YtfemfgkcgboopaaGreatDoor
open Go.ChangeShapes Go.WideShapes Go.ChangeAt Go.RowKit
set_option linter.unusedVariables false
end Go.Proofs.YtfemfgkcgboopaaGreatDoor
/- A result in a block of its own. -/
namespace Go.Proofs.YtfemfgkcgboopaaGreatDoor
open Go.ChangeShapes Go.WideShapes Go.ChangeAt Go.RowKit
set_option linter.unusedVariables false
/-- While a result lies in a block of its own: below w all as it was, and that block. -/
def CJ (T : TypeId) (w W : World) (rs : Array Value) : Prop := Below w.heap.size w W ∧ W.heap[w.heap.size]? = some (.cells rs T)
theorem CJ.start (T : TypeId) (w : World) (rs : Array Value) : CJ T w (w.alloc (.cells rs T)) rs := ⟨(Below.refl _ _).alloc (Nat.le_refl _) _, hp_new _ _⟩
theorem CJ.kept {T : TypeId} {w W W' : World} {rs : Array Value} (h : CJ T w W rs) (hb : Below W.heap.size W W') : CJ T w W' rs :=
  ⟨h.1.trans (hb.mono h.1.size), by rw [hb.block _ (lt_of h.2)]; exact h.2⟩
theorem CJ.row {T : TypeId} {w W : World} {rs : Array Value} (h : CJ T w W rs) (cs : Array Value) : CJ T w (W.setRow w.heap.size cs) cs := by
  refine ⟨⟨h.1.os, h.1.tape, h.1.output, ?_, fun k hk => ?_⟩, setRow_heap _ _ _ _ _ _ h.2⟩
  · have := h.1.size; simpa [World.setRow] using this
  · rw [setRow_other _ _ _ _ (by omega)]; exact h.1.block k hk
end Go.Proofs.YtfemfgkcgboopaaGreatDoor
/- Rows of elements of so many cells, whatever they are. -/
namespace Go.Proofs.YtfemfgkcgboopaaGreatDoor
open Go.ChangeShapes Go.WideShapes Go.ChangeAt Go.RowKit
set_option linter.unusedVariables false
/-- A row whose elements take k cells each, that can be read (whatever the elements are). -/
structure RRd {α : Type} (c : α → List Value) (k : Nat) (w : World) (B : Nat) (A : Option Addr) (n cap : Nat) (xs : List α) : Prop where
  len : xs.length = n
  le : n ≤ cap
  fit : cap ≤ maxLen
  nil : A = none → cap = 0
  at_ : 0 < cap → ∃ b o, A = some ⟨b, o, none⟩ ∧ b < B ∧ ∀ i x, xs[i]? = some x → ∀ (j : Nat) u, (c x)[j]? = some u → w.cell? ⟨b, o + (i * k + j), none⟩ = some u
theorem RRd.keep {α : Type} {c : α → List Value} {k : Nat} {w w' : World} {B n cap : Nat} {A : Option Addr} {xs : List α} (h : RRd c k w B A n cap xs) (hk : ∀ p : Addr, p.block < B → w'.cell? p = w.cell? p) : RRd c k w' B A n cap xs :=
  ⟨h.len, h.le, h.fit, h.nil, fun h0 => by
    obtain ⟨b, o, e, hb, hc⟩ := h.at_ h0
    exact ⟨b, o, e, hb, fun i x hx j u hu => (hk ⟨b, _, none⟩ hb).trans (hc i x hx j u hu)⟩⟩
theorem RRd.more {α : Type} {c : α → List Value} {k : Nat} {w : World} {B B' n cap : Nat} {A : Option Addr} {xs : List α} (h : RRd c k w B A n cap xs) (hB : B ≤ B') : RRd c k w B' A n cap xs :=
  ⟨h.len, h.le, h.fit, h.nil, fun h0 => by
    obtain ⟨b, o, e, hb, hc⟩ := h.at_ h0
    exact ⟨b, o, e, by omega, hc⟩⟩
theorem RRd.below {α : Type} {c : α → List Value} {k : Nat} {w w' : World} {B n cap : Nat} {A : Option Addr} {xs : List α} (h : RRd c k w B A n cap xs) (hb : Below B w w') : RRd c k w' B A n cap xs := h.keep fun p hp => hb.cell hp
theorem RRd.up {α : Type} {c : α → List Value} {k : Nat} {w w' : World} {n cap : Nat} {A : Option Addr} {xs : List α} (h : RRd c k w w.heap.size A n cap xs) (hb : Below w.heap.size w w') : RRd c k w' w'.heap.size A n cap xs := (h.below hb).more hb.size
theorem RRd.drewN {α : Type} {c : α → List Value} {k : Nat} {w : World} {B n cap m : Nat} {A : Option Addr} {xs : List α} (h : RRd c k w B A n cap xs) : RRd c k (w.drewN m) B A n cap xs := h.keep (w' := w.drewN m) fun _ _ => rfl
theorem RRd.nilR {α : Type} (c : α → List Value) (k : Nat) (w : World) (B : Nat) : RRd c k w B none 0 0 [] := ⟨rfl, Nat.le_refl _, Nat.zero_le _, fun _ => rfl, fun h => absurd h (by omega)⟩
theorem RRd.cell {α : Type} {c : α → List Value} {k : Nat} {w : World} {B n cap : Nat} {A : Option Addr} {xs : List α} {i : Nat} (h : RRd c k w B A n cap xs) (hi : i < n) :
    ∃ b o x, A = some ⟨b, o, none⟩ ∧ b < B ∧ xs[i]? = some x ∧ ∀ (j : Nat) u, (c x)[j]? = some u → w.cell? ⟨b, o + (i * k + j), none⟩ = some u := by
  obtain ⟨b, o, e, hb, hc⟩ := h.at_ (by have := h.le; omega)
  have hl : i < xs.length := by rw [h.len]; exact hi
  exact ⟨b, o, xs[i], e, hb, List.getElem?_eq_getElem hl, hc i _ (List.getElem?_eq_getElem hl)⟩
theorem flat_get {α : Type} {c : α → List Value} {k : Nat} (hk : ∀ x, (c x).length = k) : ∀ (xs : List α) (i : Nat) (x : α), xs[i]? = some x → ∀ (j : Nat) u, (c x)[j]? = some u → (xs.flatMap c)[i * k + j]? = some u
  | [], i, x, h, j, u, hu => by simp at h
  | y :: xs, 0, x, h, j, u, hu => by
    simp at h
    subst h
    have hj : j < (c y).length := (List.getElem?_eq_some_iff.1 hu).1
    rw [List.flatMap_cons, Nat.zero_mul, Nat.zero_add, List.getElem?_append_left hj]
    exact hu
  | y :: xs, i + 1, x, h, j, u, hu => by
    rw [List.flatMap_cons, List.getElem?_append_right (by rw [hk, Nat.add_mul]; omega), hk, show (i + 1) * k + j - k = i * k + j by rw [Nat.add_mul]; omega]
    exact flat_get hk xs i x (by simpa using h) j u hu
theorem flat_len {α : Type} {c : α → List Value} {k : Nat} (hk : ∀ x, (c x).length = k) : ∀ xs : List α, (xs.flatMap c).length = xs.length * k
  | [] => by simp
  | y :: xs => by rw [List.flatMap_cons, List.length_append, hk, flat_len hk xs, List.length_cons, Nat.add_mul]; omega
/-- A row that the call made is one that can be read. -/
theorem RRd.ofOwn {α : Type} {c : α → List Value} {k : Nat} (hk : ∀ x, (c x).length = k) (h0 : 0 < k) {w : World} {base : Nat} {e : TypeId} {v : Value} {n : Nat} {xs : List α} (h : w.ownsRow base e k v n (xs.flatMap c)) : ∃ A cp, v = .slice A n cp ∧ RRd c k w w.heap.size A n cp xs := by
  obtain ⟨hl, h2 | ⟨g, cap, cur, hv, hg, hh, hn, hc, hs, ht⟩⟩ := h
  · obtain ⟨hv, hn⟩ := h2
    subst hn
    rw [flat_len hk] at hl
    have : xs = [] := List.length_eq_zero_iff.1 (by
      rcases Nat.eq_zero_or_pos xs.length with h | h
      · exact h
      · have := Nat.mul_pos h h0
        omega)
    subst this
    exact ⟨none, 0, hv, RRd.nilR c k w _⟩
  · rw [flat_len hk] at hl
    have hnx : xs.length = n := Nat.eq_of_mul_eq_mul_right h0 hl
    refine ⟨_, cap, hv, hnx, hn, hc, (fun e => by cases e), fun _ => ⟨g, 0, rfl, lt_of hh, fun i p hp j u hu => ?_⟩⟩
    have hi : i < xs.length := (List.getElem?_eq_some_iff.1 hp).1
    have hj : j < k := by rw [← hk p]; exact (List.getElem?_eq_some_iff.1 hu).1
    have hcp := flat_get hk xs i p hp j u hu
    have hlt : i * k + j < n * k := by
      have : (i + 1) * k ≤ n * k := Nat.mul_le_mul_right _ (by omega)
      rw [Nat.add_mul] at this
      omega
    rw [← ht, List.getElem?_take_of_lt hlt] at hcp
    rw [cell_of _ hh, Nat.zero_add]
    simpa using hcp
end Go.Proofs.YtfemfgkcgboopaaGreatDoor
/- Rows of strings of the call's own. -/
namespace Go.Proofs.YtfemfgkcgboopaaGreatDoor
open Go.ChangeShapes Go.WideShapes Go.ChangeAt Go.RowKit
set_option linter.unusedVariables false
theorem ownsRow_keep {w w' : World} {base : Nat} {e : TypeId} {c n : Nat} {v : Value} {xs : List Value} (h : w.ownsRow base e c v n xs) (hk : ∀ g, base ≤ g → g < w.heap.size → w'.heap[g]? = w.heap[g]?) : w'.ownsRow base e c v n xs := by
  obtain ⟨hl, h2 | ⟨g, cap, cur, hv, hg, hh, r⟩⟩ := h
  · exact ⟨hl, Or.inl h2⟩
  · exact ⟨hl, Or.inr ⟨g, cap, cur, hv, hg, (hk g hg (lt_of hh)).trans hh, r⟩⟩
theorem cell_newN (w : World) (us : List Value) (T : TypeId) : ∀ (j : Nat) (v : Value), us[j]? = some v → (w.alloc (.cells us.toArray T)).cell? ((⟨w.heap.size, 0, none⟩ : Addr).add j) = some v := by
  intro j v hv
  rw [addr_add, cell_of _ (hp_new _ _)]
  simpa using hv
/-- 'out = append(out, u)' onto a row of the call's own, the element's cells lying in a block just made. -/
theorem wpList_appK {P : Program} {ops : Array Oper} {rest : List Oper} {o : Oper} {a : Act} {Q : Exit → Act → World → Prop} {w : World} (hgd : o.guard = none) (s x : Operand) (t e : TypeId)
    (ho : o.op = .call { callee := .builtin .append, args := #[s, x], argTypes := #[t, t] }) (z : Value) (k bytes : Nat) (ht : P.underlying t = some (.slice e))
    (hi : ∃ i, P.info? e = some i ∧ i.zero = some z ∧ i.size = k ∧ i.bytes = bytes) (hzs : z.cells.size = k) (hk : 0 < k)
    (base : Nat) (v : Value) (n : Nat) (xs : List Value) (hs : a.eval s = v) (hown : w.ownsRow base e k v n xs) (us : List Value) (us' : Array Value) (hus : us' = us.toArray) (hx : a.eval x = .slice (some ⟨w.heap.size, 0, none⟩) 1 1)
    (hl : us.length = k) (h1 : ∀ u ∈ us, u.oneCell' = true) (hn : n ≤ 1000000000) (hby : bytes ≤ 1000) (hbase : base ≤ w.heap.size)
    (h : ∀ v' w', w'.ownsRow base e k v' (n + 1) (xs ++ us) → (w.alloc (.cells us' e)).grownBy w' v.ownBlock → (v'.ownBlock = v.ownBlock ∨ v'.ownBlock = some (w.heap.size + 1)) → wpList P ops Q rest (a.put o.dst v') w') : wpList P ops Q (o :: rest) a (w.alloc (.cells us' e)) := by
  subst hus
  obtain ⟨i, hi, hz, hsz, hbt⟩ := hi
  refine wpList_append_own_at _ hgd s x t ho base e i z k bytes ht hi hz hsz hbt hzs hk v n xs hs (hown.alloc _) ⟨w.heap.size, 0, none⟩ 1 1 us hx (by omega) (cell_newN w us e) h1 (by unfold maxLen; omega) ?_ (by simp; omega) fun v' w' hown' hgrow _ hat => h v' w' hown' hgrow (by rw [World.size_alloc] at hat; exact hat)
  have : (n + 1) * bytes ≤ 1000000001 * 1000 := Nat.mul_le_mul (by omega) hby
  omega
theorem info_str : ∃ i, Tryz.prog.info? 9 = some i ∧ i.zero = some (.string ⟨#[]⟩) ∧ i.size = 1 ∧ i.bytes = 16 := by
  obtain ⟨i, h1, h2, h3, h4⟩ := info_parts (show (Tryz.prog.info? 9).map (fun i => (i.zero, i.size, i.bytes)) = some (some (.string ⟨#[]⟩), 1, 16) by kernel_rfl)
  exact ⟨i, h1, h2, h3, h4⟩
def strV (s : List UInt8) : Value := .string ⟨s.toArray⟩
/-- A row of strings of the call's own. -/
def OwnS (w : World) (base : Nat) (v : Value) (op : List (List UInt8)) : Prop := w.ownsRow base 9 1 v op.length (op.map strV)
theorem OwnS.start (w : World) (base : Nat) : OwnS w base (.slice none 0 0) [] := ⟨rfl, .inl ⟨rfl, rfl⟩⟩
theorem OwnS.kept {w w' : World} {base : Nat} {v : Value} {op : List (List UInt8)} (h : OwnS w base v op) (hb : Below w.heap.size w w') : OwnS w' base v op := ownsRow_keep h fun g _ hg => hb.block g hg
theorem OwnS.form {w : World} {base : Nat} {v : Value} {op : List (List UInt8)} (h : OwnS w base v op) : ∃ A c, v = .slice A op.length c := by
  obtain ⟨hl, ⟨hv, h0⟩ | ⟨g, cap, cur, hv, r⟩⟩ := h
  · exact ⟨none, 0, by rw [hv, h0]⟩
  · exact ⟨_, cap, hv⟩
theorem OwnS.cells {w : World} {base : Nat} {ad : Addr} {n c : Nat} {op : List (List UInt8)} (h : OwnS w base (.slice (some ad) n c) op) : ∀ (j : Nat) u, (op.map strV)[j]? = some u → w.cell? (ad.add j) = some u := by
  obtain ⟨hl, ⟨hv, _⟩ | ⟨g, cap, cur, hv, hg, hh, hn, hc, hs, ht⟩⟩ := h
  · cases hv
  · injection hv with h1 h2 h3
    cases h1
    intro j u hu
    have hj : j < op.length := by have := (List.getElem?_eq_some_iff.1 hu).1; rwa [List.length_map] at this
    rw [addr_add, cell_of _ hh, Nat.zero_add]
    rw [← ht, List.getElem?_take_of_lt (by omega)] at hu
    simpa using hu
theorem OwnS.lit (w : World) (base : Nat) (hb : base ≤ w.heap.size) : OwnS (w.alloc (.cells #[] 9)) base (.slice (some ⟨w.heap.size, 0, none⟩) 0 0) [] :=
  ⟨rfl, .inr ⟨w.heap.size, 0, #[], rfl, hb, hp_new _ _, Nat.le_refl _, Nat.zero_le _, rfl, rfl⟩⟩

end Go.Proofs.YtfemfgkcgboopaaGreatDoor
/- Rows of the call own; the document's Find. -/
namespace Go.Proofs.YtfemfgkcgboopaaGreatDoor
open Go.ChangeShapes Go.WideShapes Go.ChangeAt Go.RowKit
set_option linter.unusedVariables false
/-- A row of the call's own, whatever its elements are. -/
def OwnC {α : Type} (c : α → List Value) (k : Nat) (e : TypeId) (w : World) (base : Nat) (v : Value) (l : List α) : Prop := w.ownsRow base e k v l.length (l.flatMap c)
section
variable {α : Type} {c : α → List Value} {k : Nat} {e : TypeId} {w w' : World} {base : Nat} {v : Value} {l : List α}
theorem OwnC.start (c : α → List Value) (k : Nat) (e : TypeId) (w : World) (base : Nat) : OwnC c k e w base (.slice none 0 0) [] := ⟨by simp, .inl ⟨rfl, rfl⟩⟩
theorem OwnC.form (h : OwnC c k e w base v l) : ∃ A cp, v = .slice A l.length cp := by
  obtain ⟨hl, ⟨hv, h0⟩ | ⟨g, cap, cur, hv, r⟩⟩ := h
  · exact ⟨none, 0, by rw [hv, h0]⟩
  · exact ⟨_, cap, hv⟩
theorem OwnC.keep (h : OwnC c k e w base v l) (hk : ∀ g, base ≤ g → g < w.heap.size → w'.heap[g]? = w.heap[g]?) : OwnC c k e w' base v l := by
  obtain ⟨hl, h2 | ⟨g, cap, cur, hv, hg, hh, r⟩⟩ := h
  · exact ⟨hl, .inl h2⟩
  · exact ⟨hl, .inr ⟨g, cap, cur, hv, hg, (hk g hg (lt_of hh)).trans hh, r⟩⟩
theorem OwnC.kept (h : OwnC c k e w base v l) (hb : Below w.heap.size w w') : OwnC c k e w' base v l := h.keep fun g _ hg => hb.block g hg
theorem OwnC.ge (h : OwnC c k e w base v l) {b : Nat} (hb : v.ownBlock = some b) : b < w.heap.size ∧ base ≤ b := by
  obtain ⟨hl, ⟨hv, _⟩ | ⟨g, cap, cur, hv, hg, hh, r⟩⟩ := h
  · rw [hv] at hb; simp [Value.ownBlock] at hb
  · rw [hv] at hb
    simp [Value.ownBlock] at hb
    subst hb
    exact ⟨lt_of hh, hg⟩
theorem OwnC.snoc {x : α} {v' : Value} (h : w'.ownsRow base e k v' (l.length + 1) (l.flatMap c ++ c x)) : OwnC c k e w' base v' (l ++ [x]) := by
  unfold OwnC
  rw [List.length_append, List.flatMap_append, List.flatMap_cons, List.flatMap_nil, List.append_nil]
  exact h
theorem OwnC.rrd (hk : ∀ x, (c x).length = k) (h0 : 0 < k) (h : OwnC c k e w base v l) : ∃ A cp, v = .slice A l.length cp ∧ RRd c k w w.heap.size A l.length cp l := RRd.ofOwn hk h0 h
theorem ownsRow_type {w : World} {B : Nat} {e : TypeId} {c n : Nat} {v : Value} {xs : List Value} (h : w.ownsRow B e c v n xs) {k : Nat} {o : Obj} (hk : w.heap[k]? = some o) (hT : ∀ vs f, o ≠ .cells vs e f) : some k ≠ v.ownBlock := by
  obtain ⟨hl, ⟨hv, _⟩ | ⟨g, cap, cur, hv, hg, hh, r⟩⟩ := h
  · rw [hv]; simp [Value.ownBlock]
  · rw [hv]
    intro e'
    simp [Value.ownBlock] at e'
    subst e'
    rw [hh] at hk
    cases hk
    exact hT _ _ rfl
/-- A row stands where a row of another type grows. -/
theorem OwnC.grown (h : OwnC c k e w base v l) {v2 : Value} {B2 c2 n2 : Nat} {e2 : TypeId} {xs2 : List Value} (h2 : w.ownsRow B2 e2 c2 v2 n2 xs2) (hne : e ≠ e2) (hg : w.grownBy w' v2.ownBlock) : OwnC c k e w' base v l := by
  obtain ⟨hl, h3 | ⟨g, cap, cur, hv, hgb, hh, r⟩⟩ := h
  · exact ⟨hl, .inl h3⟩
  · refine ⟨hl, .inr ⟨g, cap, cur, hv, hgb, ?_, r⟩⟩
    rw [hg.block g (lt_of hh) (ownsRow_type h2 hh fun vs f e' => by injection e' with _ e3 _; exact hne e3)]
    exact hh
end
def cE (x : EntT) : List Value := [.string ⟨x.nm.toArray⟩, .string ⟨x.tx.toArray⟩, .bool x.out, .string ⟨x.pub.toArray⟩, .string ⟨x.sys.toArray⟩, .string ⟨x.nt.toArray⟩]
def cI (n : Nat) : List Value := [.int .i64 (n : Nat)]
def cRf (r : Nat × Nat × List UInt8) : List Value := [.int .i64 (r.1 : Nat), .int .i64 (r.2.1 : Nat), .string ⟨r.2.2.toArray⟩]
def cS1 (s : List UInt8) : List Value := [.string ⟨s.toArray⟩]
theorem idx_le_at : ∀ (l : List (List UInt8)) (t : Nat) (x : List UInt8), l[t]? = some x → l.idxOf x ≤ t
  | [], t, x, h => by simp at h
  | y :: l, 0, x, h => by
    simp at h
    subst h
    simp
  | y :: l, t + 1, x, h => by
    have := idx_le_at l t x (by simpa using h)
    rw [List.idxOf_cons]
    cases (y == x) <;> simp <;> omega
/-- The document's Find: the place of a name. -/
def fndN (l : List (List UInt8)) (s : List UInt8) : Int := if s ∈ l then (l.idxOf s : Nat) else -1
theorem eqvL (a b : List UInt8) : (a == b) = decide (a = b) := by
  by_cases h : a = b
  · subst h; simp
  · simp [h]
theorem fndN_at {l : List EntT} {t : Nat} {x : EntT} {s : List UInt8} (e : x.nm = s) (hx : l[t]? = some x) (hn : ∀ i < t, ∀ x, l[i]? = some x → x.nm ≠ s) : fndN (l.map EntT.nm) s = (t : Int) := by
  subst e
  have hxt : (l.map EntT.nm)[t]? = some x.nm := by rw [List.getElem?_map, hx]; rfl
  have hmem : x.nm ∈ l.map EntT.nm := List.mem_of_getElem? hxt
  unfold fndN
  rw [if_pos hmem]
  have h1 : (l.map EntT.nm).idxOf x.nm ≤ t := idx_le_at _ t x.nm hxt
  have h2 : (l.map EntT.nm).idxOf x.nm < (l.map EntT.nm).length := List.idxOf_lt_length_iff.2 hmem
  have h3 : ¬ (l.map EntT.nm).idxOf x.nm < t := fun h => by
    have h4 : (l.map EntT.nm)[(l.map EntT.nm).idxOf x.nm]? = some x.nm := by rw [List.getElem?_eq_getElem h2]; simp
    rw [List.getElem?_map] at h4
    cases hy : l[(l.map EntT.nm).idxOf x.nm]? with
    | none => rw [hy] at h4; cases h4
    | some y =>
      rw [hy] at h4
      exact hn _ h y hy (by simpa using h4)
  omega
theorem fndN_no {l : List EntT} {s : List UInt8} (hn : ∀ i < l.length, ∀ x, l[i]? = some x → x.nm ≠ s) : fndN (l.map EntT.nm) s = -1 := by
  unfold fndN
  rw [if_neg]
  intro hm
  obtain ⟨x, hx, he⟩ := List.mem_map.1 hm
  obtain ⟨i, hi⟩ := List.mem_iff_getElem?.1 hx
  exact hn i (List.getElem?_eq_some_iff.1 hi).1 x hi he
theorem infoC_int : ∃ i, Tryz.prog.info? 3 = some i ∧ i.zero = some (.int .i64 0) ∧ i.size = 1 ∧ i.bytes = 8 := by
  obtain ⟨i, h1, h2, h3, h4⟩ := info_parts (show (Tryz.prog.info? 3).map (fun i => (i.zero, i.size, i.bytes)) = some (some (.int .i64 0), 1, 8) by kernel_rfl)
  exact ⟨i, h1, h2, h3, h4⟩
theorem infoC_ints : ∃ i, Tryz.prog.info? 81 = some i ∧ i.zero = some (.slice none 0 0) ∧ i.size = 1 ∧ i.bytes = 24 := by
  obtain ⟨i, h1, h2, h3, h4⟩ := info_parts (show (Tryz.prog.info? 81).map (fun i => (i.zero, i.size, i.bytes)) = some (some (.slice none 0 0), 1, 24) by kernel_rfl)
  exact ⟨i, h1, h2, h3, h4⟩
theorem infoC_ent : ∃ i, Tryz.prog.info? 43 = some i ∧ i.zero = some (.agg #[.string ⟨#[]⟩, .string ⟨#[]⟩, .bool false, .string ⟨#[]⟩, .string ⟨#[]⟩, .string ⟨#[]⟩]) ∧ i.size = 6 ∧ i.bytes = 88 := by
  have h : (Tryz.prog.info? 43).map (fun i => (i.zero, i.size, i.bytes)) = some (some (.agg #[.string ⟨#[]⟩, .string ⟨#[]⟩, .bool false, .string ⟨#[]⟩, .string ⟨#[]⟩, .string ⟨#[]⟩]), 6, 88) := by kernel_rfl
  obtain ⟨i, h1, h2, h3, h4⟩ := info_parts h
  exact ⟨i, h1, h2, h3, h4⟩
theorem infoC_rf : ∃ i, Tryz.prog.info? 86 = some i ∧ i.zero = some (.agg #[.int .i64 0, .int .i64 0, .string ⟨#[]⟩]) ∧ i.size = 3 ∧ i.bytes = 32 := by
  have h : (Tryz.prog.info? 86).map (fun i => (i.zero, i.size, i.bytes)) = some (some (.agg #[.int .i64 0, .int .i64 0, .string ⟨#[]⟩]), 3, 32) := by kernel_rfl
  obtain ⟨i, h1, h2, h3, h4⟩ := info_parts h
  exact ⟨i, h1, h2, h3, h4⟩
set_option maxRecDepth 100000 in
set_option maxHeartbeats 4000000 in
theorem rfFindE_c (A : Option Addr) (n cap : Nat) (l : List EntT) (s : List UInt8) (w : World) (h : RRd cE 6 w w.heap.size A n cap l) (hm : n ≤ 1000000) :
    Calls Tryz.prog 36 #[.slice A n cap, .string ⟨s.toArray⟩] w fun e w' => e = .returned (.int .i64 (fndN (l.map EntT.nm) s)) ∧ w = w' := by
  have HP := Lib.hid h
  have HL : Hid (l.length = n) := Lib.hid h.len
  clear h
  go_enter Tryz.func36, Tryz.ntmps36
  go_wp2
  go_loopg [5] (n) (fun g i wr => wr = w ∧ ∃ t : Nat, i = .int .i64 (t : Int) ∧ t ≤ n ∧ Hid (g + t = n) ∧ Hid (∀ i < t, ∀ x, l[i]? = some x → x.nm ≠ s))
  case atStart => exact ⟨rfl, 0, rfl, Nat.zero_le _, Lib.hid rfl, Lib.hid fun i hi => absurd hi (by omega)⟩
  case round =>
    obtain ⟨rfl, t, rfl, ht, hg, HN⟩ := hrel
    have ht0 : (0 : Int) ≤ (t : Int) := by omega
    have ht9 : (t : Int) ≤ 1000000 := by omega
    by_cases htn : t < n
    · have hti : (t : Int) < (n : Int) := by omega
      obtain ⟨b1, o1, x, rfl, hb1, hx, hc1⟩ := HP.out.cell htn
      have y0 : wr.cell? ⟨b1, o1 + t * 6, none⟩ = some (.string ⟨x.nm.toArray⟩) := by rw [show o1 + t * 6 = o1 + (t * 6 + 0) by omega]; exact hc1 0 _ rfl
      have HX := Lib.hid hx
      have he := eqvL x.nm s
      obtain ⟨b, hb⟩ : ∃ q, decide (x.nm = s) = q := ⟨_, rfl⟩
      rw [hb] at he
      clear hb1 hx hc1
      cases b with
      | true =>
        have HF : Hid (fndN (l.map EntT.nm) s = (t : Int)) := Lib.hid (fndN_at (of_decide_eq_true hb) HX.out HN.out)
        clear hb
        generalize x.nm = xn at *
        go_wp2
        go_ret
        exact ⟨by rw [HF.out]; rfl, rfl⟩
      | false =>
        have hne := of_decide_eq_false hb
        have HN2 : Hid (∀ i < t + 1, ∀ x, l[i]? = some x → x.nm ≠ s) := Lib.hid fun i hi y hy => by
          by_cases hit : i = t
          · subst hit
            rw [HX.out] at hy
            cases hy
            exact hne
          · exact HN.out i (by omega) y hy
        clear hb hne
        generalize x.nm = xn at *
        go_wp2
        go_roundg (n - (t + 1))
        case measure => have := hg.out; omega
        case rel => exact ⟨rfl, t + 1, by go_num, by omega, Lib.hid (by have := hg.out; omega), HN2⟩
    · have hti : ¬ (t : Int) < (n : Int) := by omega
      have HF : Hid (fndN (l.map EntT.nm) s = -1) := Lib.hid (by
        have e : t = l.length := by have := HL.out; omega
        subst e
        exact fndN_no HN.out)
      clear HN
      go_wp2
      go_ret
      exact ⟨by rw [HF.out]; rfl, rfl⟩
end Go.Proofs.YtfemfgkcgboopaaGreatDoor
/- Characters of bytes, all. -/
namespace Go.Proofs.YtfemfgkcgboopaaGreatDoor
open Go.ChangeShapes Go.WideShapes Go.ChangeAt Go.RowKit
set_option linter.unusedVariables false
def iv (r : Nat) : Value := .int .i64 (r : Int)
end Go.Proofs.YtfemfgkcgboopaaGreatDoor
/- utf.all: an iterator. -/
namespace Go.Proofs.YtfemfgkcgboopaaGreatDoor
open Go.ChangeShapes Go.WideShapes Go.ChangeAt Go.RowKit
set_option linter.unusedVariables false
attribute [local go_sem] Oper.semAt_some
/-- What a round keeps for the iterator: what lay below S, and the block Bn. -/
def KpB (S Bn : Nat) (W W' : World) : Prop := Below S W W' ∧ W'.heap[Bn]? = W.heap[Bn]?
theorem KpB.trans {S Bn : Nat} {X Y Z : World} (h : KpB S Bn X Y) (k : KpB S Bn Y Z) : KpB S Bn X Z := ⟨h.1.trans k.1, k.2.trans h.2⟩
end Go.Proofs.YtfemfgkcgboopaaGreatDoor
/- utf.Runes. -/
namespace Go.Proofs.YtfemfgkcgboopaaGreatDoor
open Go.ChangeShapes Go.WideShapes Go.ChangeAt Go.RowKit
set_option linter.unusedVariables false
attribute [local go_sem] Oper.semAt_some
end Go.Proofs.YtfemfgkcgboopaaGreatDoor
