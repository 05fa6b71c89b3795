/- Rows of elements of so many cells, whatever they are. -/
import Derived.Test.YtbllodeanfdebaaGreatDoorRows
import Derived.WalkKit
import Derived.ProofKit
import Derived.OpenShut
import Derived.ShutString
import Derived.ChangeOld
import Derived.Below
import Derived.BigQuiet
import Derived.Deep.QuietTactic
import Derived.Lib.Hide
import Derived.Deep.RegionHeld3
import Derived.Lib.SlBytesConst
import Derived.Laws.CopyOwn
import Derived.Laws.CopyRow
import Derived.Lib.Bytes
import Derived.Deep.LoopGhost
import Derived.Deep.DeepFit
import Derived.Deep.DeepMust
import Derived.WalkSpells
import Derived.WalkLawsBesides
import Derived.Maps.OwnOps
import Derived.Maps.Views
import Derived.Laws.Rows
import Derived.Test.YtbllodeanfdebaaGreatDoorBase
namespace Go.Proofs.YtbllodeanfdebaaGreatDoor
open Go.ChangeShapes Go.WideShapes Go.ChangeAt Go.RowKit
set_option linter.unusedVariables false
/-- A row whose elements take k cells each, that can be read (whatever the elements are). -/
structure RRd {α : Type} (c : α → List Value) (k : Nat) (w : World) (B : Nat) (A : Option Addr) (n cap : Nat) (xs : List α) : Prop where
  len : xs.length = n
  le : n ≤ cap
  fit : cap ≤ maxLen
  nil : A = none → cap = 0
  at_ : 0 < cap → ∃ b o, A = some ⟨b, o, none⟩ ∧ b < B ∧ ∀ i x, xs[i]? = some x → ∀ (j : Nat) u, (c x)[j]? = some u → w.cell? ⟨b, o + (i * k + j), none⟩ = some u
theorem RRd.keep {α : Type} {c : α → List Value} {k : Nat} {w w' : World} {B n cap : Nat} {A : Option Addr} {xs : List α} (h : RRd c k w B A n cap xs) (hk : ∀ p : Addr, p.block < B → w'.cell? p = w.cell? p) : RRd c k w' B A n cap xs :=
  ⟨h.len, h.le, h.fit, h.nil, fun h0 => by
    obtain ⟨b, o, e, hb, hc⟩ := h.at_ h0
    exact ⟨b, o, e, hb, fun i x hx j u hu => (hk ⟨b, _, none⟩ hb).trans (hc i x hx j u hu)⟩⟩
theorem RRd.more {α : Type} {c : α → List Value} {k : Nat} {w : World} {B B' n cap : Nat} {A : Option Addr} {xs : List α} (h : RRd c k w B A n cap xs) (hB : B ≤ B') : RRd c k w B' A n cap xs :=
  ⟨h.len, h.le, h.fit, h.nil, fun h0 => by
    obtain ⟨b, o, e, hb, hc⟩ := h.at_ h0
    exact ⟨b, o, e, by omega, hc⟩⟩
theorem RRd.below {α : Type} {c : α → List Value} {k : Nat} {w w' : World} {B n cap : Nat} {A : Option Addr} {xs : List α} (h : RRd c k w B A n cap xs) (hb : Below B w w') : RRd c k w' B A n cap xs := h.keep fun p hp => hb.cell hp
theorem RRd.up {α : Type} {c : α → List Value} {k : Nat} {w w' : World} {n cap : Nat} {A : Option Addr} {xs : List α} (h : RRd c k w w.heap.size A n cap xs) (hb : Below w.heap.size w w') : RRd c k w' w'.heap.size A n cap xs := (h.below hb).more hb.size
theorem RRd.drewN {α : Type} {c : α → List Value} {k : Nat} {w : World} {B n cap m : Nat} {A : Option Addr} {xs : List α} (h : RRd c k w B A n cap xs) : RRd c k (w.drewN m) B A n cap xs := h.keep (w' := w.drewN m) fun _ _ => rfl
theorem RRd.nilR {α : Type} (c : α → List Value) (k : Nat) (w : World) (B : Nat) : RRd c k w B none 0 0 [] := ⟨rfl, Nat.le_refl _, Nat.zero_le _, fun _ => rfl, fun h => absurd h (by omega)⟩
theorem RRd.cell {α : Type} {c : α → List Value} {k : Nat} {w : World} {B n cap : Nat} {A : Option Addr} {xs : List α} {i : Nat} (h : RRd c k w B A n cap xs) (hi : i < n) :
    ∃ b o x, A = some ⟨b, o, none⟩ ∧ b < B ∧ xs[i]? = some x ∧ ∀ (j : Nat) u, (c x)[j]? = some u → w.cell? ⟨b, o + (i * k + j), none⟩ = some u := by
  obtain ⟨b, o, e, hb, hc⟩ := h.at_ (by have := h.le; omega)
  have hl : i < xs.length := by rw [h.len]; exact hi
  exact ⟨b, o, xs[i], e, hb, List.getElem?_eq_getElem hl, hc i _ (List.getElem?_eq_getElem hl)⟩
theorem flat_get {α : Type} {c : α → List Value} {k : Nat} (hk : ∀ x, (c x).length = k) : ∀ (xs : List α) (i : Nat) (x : α), xs[i]? = some x → ∀ (j : Nat) u, (c x)[j]? = some u → (xs.flatMap c)[i * k + j]? = some u
  | [], i, x, h, j, u, hu => by simp at h
  | y :: xs, 0, x, h, j, u, hu => by
    simp at h
    subst h
    have hj : j < (c y).length := (List.getElem?_eq_some_iff.1 hu).1
    rw [List.flatMap_cons, Nat.zero_mul, Nat.zero_add, List.getElem?_append_left hj]
    exact hu
  | y :: xs, i + 1, x, h, j, u, hu => by
    rw [List.flatMap_cons, List.getElem?_append_right (by rw [hk, Nat.add_mul]; omega), hk, show (i + 1) * k + j - k = i * k + j by rw [Nat.add_mul]; omega]
    exact flat_get hk xs i x (by simpa using h) j u hu
theorem flat_len {α : Type} {c : α → List Value} {k : Nat} (hk : ∀ x, (c x).length = k) : ∀ xs : List α, (xs.flatMap c).length = xs.length * k
  | [] => by simp
  | y :: xs => by rw [List.flatMap_cons, List.length_append, hk, flat_len hk xs, List.length_cons, Nat.add_mul]; omega
/-- A row that the call made is one that can be read. -/
theorem RRd.ofOwn {α : Type} {c : α → List Value} {k : Nat} (hk : ∀ x, (c x).length = k) (h0 : 0 < k) {w : World} {base : Nat} {e : TypeId} {v : Value} {n : Nat} {xs : List α} (h : w.ownsRow base e k v n (xs.flatMap c)) : ∃ A cp, v = .slice A n cp ∧ RRd c k w w.heap.size A n cp xs := by
  obtain ⟨hl, h2 | ⟨g, cap, cur, hv, hg, hh, hn, hc, hs, ht⟩⟩ := h
  · obtain ⟨hv, hn⟩ := h2
    subst hn
    rw [flat_len hk] at hl
    have : xs = [] := List.length_eq_zero_iff.1 (by
      rcases Nat.eq_zero_or_pos xs.length with h | h
      · exact h
      · have := Nat.mul_pos h h0
        omega)
    subst this
    exact ⟨none, 0, hv, RRd.nilR c k w _⟩
  · rw [flat_len hk] at hl
    have hnx : xs.length = n := Nat.eq_of_mul_eq_mul_right h0 hl
    refine ⟨_, cap, hv, hnx, hn, hc, (fun e => by cases e), fun _ => ⟨g, 0, rfl, lt_of hh, fun i p hp j u hu => ?_⟩⟩
    have hi : i < xs.length := (List.getElem?_eq_some_iff.1 hp).1
    have hj : j < k := by rw [← hk p]; exact (List.getElem?_eq_some_iff.1 hu).1
    have hcp := flat_get hk xs i p hp j u hu
    have hlt : i * k + j < n * k := by
      have : (i + 1) * k ≤ n * k := Nat.mul_le_mul_right _ (by omega)
      rw [Nat.add_mul] at this
      omega
    rw [← ht, List.getElem?_take_of_lt hlt] at hcp
    rw [cell_of _ hh, Nat.zero_add]
    simpa using hcp
end Go.Proofs.YtbllodeanfdebaaGreatDoor
