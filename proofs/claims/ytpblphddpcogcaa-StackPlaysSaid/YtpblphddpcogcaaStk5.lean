/- Calls of a stack, one by one. -/
import Derived.Test.YtpblphddpcogcaaRows
import Derived.WalkKit
import Derived.ProofKit
import Derived.OpenShut
import Derived.ShutString
import Derived.ChangeOld
import Derived.Below
import Derived.BigQuiet
import Derived.Deep.QuietTactic
import Derived.Lib.Hide
import Derived.Deep.RegionHeld3
import Derived.Lib.SlBytesConst
import Derived.Laws.CopyOwn
import Derived.Laws.CopyRow
import Derived.Lib.Bytes
import Derived.Deep.LoopGhost
import Derived.Deep.DeepFit
import Derived.Deep.DeepMust
import Derived.WalkSpells
import Derived.WalkLawsBesides
import Derived.Laws.OwnMore
import Derived.Deep.Upon
import Derived.Deep.AppendSrc
import Derived.Laws.IdiomCopy
import Derived.Lib.LazyBuf
import Derived.Test.YtpblphddpcogcaaShelf
import Derived.Test.YtpblphddpcogcaaBase
import Derived.Test.YtpblphddpcogcaaStk
import Derived.Test.YtpblphddpcogcaaStk2
import Derived.Test.YtpblphddpcogcaaStk3
import Derived.Test.YtpblphddpcogcaaStk4
namespace Go.Proofs.Ytpblphddpcogcaa
open Go.ChangeShapes Go.WideShapes Go.ChangeAt Go.RowKit
set_option linter.unusedVariables false
theorem fndR_take (x : Int) (z : List Int) : ∀ k : Nat, k ≤ z.length → fndR x z k = fnd (· == x) (z.take k).reverse
  | 0, _ => by simp [fndR, fnd]
  | k + 1, hk => by
    have ih := fndR_take x z k (by omega)
    have hz : z[k]? = some (z[k]'(by omega)) := List.getElem?_eq_getElem (by omega)
    have e : (z.take (k + 1)).reverse = (z[k]'(by omega)) :: (z.take k).reverse := by
      rw [List.take_add_one, hz]; simp
    rw [e]
    show (if z[k]? = some x then ((k : Int), true) else fndR x z k) = (if ((z[k]'(by omega)) == x) = true then ((((z.take k).reverse).length : Int), true) else fnd (· == x) (z.take k).reverse)
    rw [hz, ih]
    by_cases h : (z[k]'(by omega)) = x
    · rw [if_pos (by rw [h]), if_pos (by simpa using h)]
      simp
      omega
    · rw [if_neg (by simpa using h), if_neg (by simpa using h)]
theorem fndR_all (x : Int) (z : List Int) : fndR x z z.length = fnd (· == x) z.reverse := by
  rw [fndR_take x z z.length (Nat.le_refl _), List.take_length]
theorem rev_cons {z : List Int} {y : Int} {t : List Int} (h : z.reverse = y :: t) : z = t.reverse ++ [y] := by
  have := congrArg List.reverse h
  simpa using this
theorem top_c (room : Int) (z : List Int) (b : Nat) (w : World) (s : Stk w b room z.reverse) :
    Calls Try.prog 14 #[.pointer (some ⟨b, 0, none⟩)] w fun e w' => e = .returned (.tuple #[.int .i64 (z.getLastD 0), .bool (decide (0 < z.length))]) ∧ w = w' := by
  cases hr : z.reverse with
  | nil =>
    have hz : z = [] := by simpa using hr
    subst hz
    exact top_none room b w s
  | cons y t =>
    have hz := rev_cons hr
    rw [hr] at s
    subst hz
    have := top_some room y t b w s
    simpa using this
theorem pop_c (room : Int) (z : List Int) (b : Nat) (w : World) (s : Stk w b room z.reverse) :
    Calls Try.prog 11 #[.pointer (some ⟨b, 0, none⟩)] w fun e w' => e = .returned (.tuple #[.int .i64 (z.getLastD 0), .bool (decide (0 < z.length))]) ∧ Stk w' b room z.dropLast.reverse ∧ w.grownBy w' (some b) := by
  cases hr : z.reverse with
  | nil =>
    have hz : z = [] := by simpa using hr
    subst hz
    refine (pop_none room b w s).mono fun e w' ⟨he, hw⟩ => ?_
    subst hw
    exact ⟨he, s, gr_refl _ _⟩
  | cons y t =>
    have hz := rev_cons hr
    rw [hr] at s
    subst hz
    refine (pop_some room y t b w s).mono fun e w' ⟨he, hs, hg⟩ => ?_
    refine ⟨by rw [he]; simp, by simpa using hs, hg⟩
def pushZ (room : Int) (z : List Int) (x : Int) : List Int := if (z.length : Int) < room then z ++ [x] else z
def pushE (room : Int) (z : List Int) : Int := if (z.length : Int) < room then 0 else 11
theorem push_c (room x : Int) (z : List Int) (b : Nat) (w : World) (s : Stk w b room z.reverse) :
    Calls Try.prog 9 #[.pointer (some ⟨b, 0, none⟩), .int .i64 x] w fun e w' => e = .returned (.int .i64 (pushE room z)) ∧ Stk w' b room (pushZ room z x).reverse ∧ w.grownBy w' (some b) := by
  unfold pushE pushZ
  by_cases h : (z.length : Int) < room
  · rw [if_pos h, if_pos h]
    refine (push_ok room x z.reverse b w s (by simpa using h)).mono fun e w' ⟨he, hs, hg⟩ => ⟨he, by simpa using hs, hg⟩
  · rw [if_neg h, if_neg h]
    refine (push_full room x z.reverse b w s (by simp; omega)).mono fun e w' ⟨he, n, hw⟩ => ?_
    subst hw
    exact ⟨he, s.drewN, (gr_refl _ _).drewN⟩
theorem cut_c (room n : Int) (z : List Int) (b : Nat) (w : World) (s : Stk w b room z.reverse) :
    Calls Try.prog 13 #[.pointer (some ⟨b, 0, none⟩), .int .i64 n] w fun e w' => e = .returned (.tuple #[]) ∧ Stk w' b room (z.take n.toNat).reverse ∧ w.grownBy w' (some b) := by
  refine (cut_ok room n z.reverse b w s).mono fun e w' ⟨he, hs, hg⟩ => ⟨he, ?_, hg⟩
  have e1 : z.reverse.drop (z.reverse.length - n.toNat) = (z.take n.toNat).reverse := by
    rw [List.length_reverse, List.drop_reverse]
    congr 1
    by_cases h : n.toNat ≤ z.length
    · rw [show z.length - (z.length - n.toNat) = n.toNat by omega]
    · rw [show z.length - (z.length - n.toNat) = z.length by omega, List.take_length, List.take_of_length_le (by omega)]
  rwa [e1] at hs
theorem refPush_c (A : Option Addr) (cap : Nat) (z : List Int) (room x : Int) (w : World) (h : Rd w w.heap.size A z.length cap (z.map iz)) (hm : z.length ≤ 1000) :
    Calls Try.prog 8 #[.slice A z.length cap, .int .i64 room, .int .i64 x] w fun e w' => ∃ A' c', e = .returned (.tuple #[.slice A' (pushZ room z x).length c', .int .i64 (pushE room z)]) ∧ Rd w' w'.heap.size A' (pushZ room z x).length c' ((pushZ room z x).map iz) ∧ Below w.heap.size w w' ∧ ((A' = A ∧ c' = cap ∧ w' = w) ∨ ∀ a, A' = some a → w.heap.size ≤ a.block) := by
  unfold pushE pushZ
  by_cases hr : (z.length : Int) < room
  · rw [if_pos hr, if_pos hr]
    refine (refPush_ok A z.length cap z room x w h hm hr).mono fun e w' ⟨A', c', he, h1, h2, h3⟩ => ?_
    have hl : (z ++ [x]).length = z.length + 1 := by simp
    exact ⟨A', c', by rw [hl]; exact he, by rw [hl]; exact h1, h2, Or.inr h3⟩
  · rw [if_neg hr, if_neg hr]
    refine (refPush_full A z.length cap room x w (by omega)).mono fun e w' ⟨he, hw⟩ => ?_
    subst hw
    exact ⟨A, cap, he, h, Below.refl _ _, Or.inl ⟨rfl, rfl, rfl⟩⟩
/-- A row of calls that can be read. -/
structure IPd (w : World) (B : Nat) (A : Option Addr) (n cap : Nat) (ps : List (Int × Int)) : Prop where
  len : ps.length = n
  le : n ≤ cap
  at_ : 0 < cap → ∃ b o, A = some ⟨b, o, none⟩ ∧ b < B ∧ ∀ i p, ps[i]? = some p → w.cell? ⟨b, o + i * 2, none⟩ = some (.int .i64 p.1) ∧ w.cell? ⟨b, o + i * 2 + 1, none⟩ = some (.int .i64 p.2)
theorem IPd.below {w w' : World} {B n cap : Nat} {A : Option Addr} {ps : List (Int × Int)} (h : IPd w B A n cap ps) (hb : Below B w w') : IPd w' B A n cap ps :=
  ⟨h.len, h.le, fun h0 => by
    obtain ⟨b, o, e, hb', hc⟩ := h.at_ h0
    exact ⟨b, o, e, hb', fun i p hp => ⟨(hb.cell (p := ⟨b, _, none⟩) hb').trans (hc i p hp).1, (hb.cell (p := ⟨b, _, none⟩) hb').trans (hc i p hp).2⟩⟩⟩
theorem IPd.cell {w : World} {B n cap : Nat} {A : Option Addr} {ps : List (Int × Int)} {i : Nat} (h : IPd w B A n cap ps) (hi : i < n) :
    ∃ b o p, A = some ⟨b, o, none⟩ ∧ ps[i]? = some p ∧ w.cell? ⟨b, o + i * 2, none⟩ = some (.int .i64 p.1) ∧ w.cell? ⟨b, o + i * 2 + 1, none⟩ = some (.int .i64 p.2) := by
  obtain ⟨b, o, e, hb, hc⟩ := h.at_ (by have := h.le; omega)
  have hl : i < ps.length := by rw [h.len]; exact hi
  have hp := List.getElem?_eq_getElem hl
  exact ⟨b, o, ps[i], e, hp, (hc i _ hp).1, (hc i _ hp).2⟩
/-- While calls are played. -/
def SJ (w wr : World) (V : Value) (room : Int) (zs zr : List Int) (A : Option Addr) (cap bi : Nat) (t : Int) : Prop :=
  Below w.heap.size w wr ∧ wr.heap[w.heap.size]? = some (.cells #[V] 22) ∧ Stk wr (w.heap.size + 1) room zs.reverse ∧ Rd wr wr.heap.size A zr.length cap (zr.map iz) ∧ (0 < cap → ∀ a, A = some a → a.block ≠ w.heap.size + 1 ∧ a.block ≠ bi) ∧ wr.heap[bi]? = some (.cells #[.int .i64 t] 3) ∧ w.heap.size + 1 < bi
theorem SJ.kept {w wr w' : World} {V : Value} {room : Int} {zs zr : List Int} {A : Option Addr} {cap bi : Nat} {t : Int} (h : SJ w wr V room zs zr A cap bi t) (hb : Below wr.heap.size wr w') : SJ w w' V room zs zr A cap bi t := by
  obtain ⟨h1, h2, h3, h4, h5, h6, h7⟩ := h
  exact ⟨h1.trans (hb.mono h1.size), (hb.block _ (lt_of h2)).trans h2, h3.below hb (Nat.le_refl _), (h4.below hb).more hb.size, h5, (hb.block _ (lt_of h6)).trans h6, h7⟩
theorem SJ.drewN {w wr : World} {V : Value} {room : Int} {zs zr : List Int} {A : Option Addr} {cap bi : Nat} {t : Int} (h : SJ w wr V room zs zr A cap bi t) (q : Nat) : SJ w (wr.drewN q) V room zs zr A cap bi t := h.kept (below_drewN' (Below.refl _ _))
theorem SJ.stack {w wr w' : World} {V : Value} {room : Int} {zs zs' zr : List Int} {A : Option Addr} {cap bi : Nat} {t : Int} (h : SJ w wr V room zs zr A cap bi t) (hg : wr.grownBy w' (some (w.heap.size + 1))) (hs : Stk w' (w.heap.size + 1) room zs'.reverse) : SJ w w' V room zs' zr A cap bi t := by
  obtain ⟨h1, h2, h3, h4, h5, h6, h7⟩ := h
  refine ⟨h1.trans (hg.below h1.size (by omega)), (hg.block _ (lt_of h2) (by simp)).trans h2, hs, ⟨h4.len, h4.le, h4.fit, h4.nil, fun h0 => ?_⟩, h5, (hg.block _ (lt_of h6) (by simp; omega)).trans h6, h7⟩
  obtain ⟨b, o, e, hb, hc⟩ := h4.at_ h0
  have hne := (h5 h0 _ e).1
  refine ⟨b, o, e, Nat.lt_of_lt_of_le hb hg.size, fun i u hu => ?_⟩
  have hbl : w'.heap[b]? = wr.heap[b]? := hg.block b hb (by simp at hne ⊢; exact hne)
  rw [World.cell?_of_block (a := ⟨b, o + i, none⟩) hbl]
  exact hc i u hu
theorem SJ.row {w wr : World} {V : Value} {room : Int} {zs zr zr' : List Int} {A A' : Option Addr} {cap cap' bi : Nat} {t : Int} (h : SJ w wr V room zs zr A cap bi t) (hr : Rd wr wr.heap.size A' zr'.length cap' (zr'.map iz)) (hA : 0 < cap' → ∀ a, A' = some a → a.block ≠ w.heap.size + 1 ∧ a.block ≠ bi) : SJ w wr V room zs zr' A' cap' bi t :=
  ⟨h.1, h.2.1, h.2.2.1, hr, hA, h.2.2.2.2.2⟩
theorem grownBy_setCellI (W : World) (b i : Nat) (v : Value) : W.grownBy (W.setCell ⟨b, i, none⟩ v) (some b) := (gr_refl W (some b)).setCell i v
theorem chain_setCell {w : World} {bi B : Nat} {u v : Value} (h6 : w.heap[bi]? = some (.cells #[u] 3)) : ∀ {l : List Int} {t : Option Addr}, Chain w B t l → Chain (w.setCell ⟨bi, 0, none⟩ v) B t l
  | [], _, hc => hc
  | x :: l, t, ⟨c, q, ht, hB, hc, hl⟩ => ⟨c, q, ht, hB, by
      have hne : c ≠ bi := by
        intro e
        subst e
        rw [h6] at hc
        cases hc
      rw [hp_other hne]; exact hc, chain_setCell h6 hl⟩
theorem SJ.newbox {w wr : World} {V : Value} {room : Int} {zs zr : List Int} {A : Option Addr} {cap bi : Nat} {t : Int} (h : SJ w wr V room zs zr A cap bi t) (u : Int) : SJ w (wr.alloc (.cells #[.int .i64 u] 3)) V room zs zr A cap wr.heap.size u := by
  have hb := (Below.refl _ wr).alloc (Nat.le_refl _) (.cells #[.int .i64 u] 3)
  obtain ⟨h1, h2, h3, h4, h5, h6, h7⟩ := h.kept hb
  obtain ⟨_, _, _, g4, _, g6, _⟩ := h
  refine ⟨h1, h2, h3, h4, fun hc a ha => ⟨(h5 hc a ha).1, ?_⟩, hp_new _ _, by have := lt_of g6; omega⟩
  intro e
  obtain ⟨b, o, e', hb', _⟩ := g4.at_ hc
  rw [e'] at ha
  cases ha
  simp at e
  omega
/-- The counter goes one on. -/
theorem SJ.step {w wr : World} {V : Value} {room : Int} {zs zr : List Int} {A : Option Addr} {cap bi : Nat} {t : Int} (h : SJ w wr V room zs zr A cap bi t) (u : Int) : SJ w (wr.setCell ⟨bi, 0, none⟩ (.int .i64 u)) V room zs zr A cap bi u := by
  obtain ⟨h1, h2, h3, h4, h5, h6, h7⟩ := h
  have hg := grownBy_setCellI wr bi 0 (.int .i64 u)
  refine ⟨h1.setCell (p := ⟨bi, 0, none⟩) (by show w.heap.size ≤ bi; omega) _, (hg.block _ (lt_of h2) (by simp; omega)).trans h2, ?_, ⟨h4.len, h4.le, h4.fit, h4.nil, fun h0 => ?_⟩, h5, ?_, h7⟩
  · obtain ⟨r0, r1, t', hb, hch⟩ := h3
    refine ⟨r0, r1, t', (hp_other (by omega)).trans hb, ?_⟩
    exact chain_setCell h6 hch
  · obtain ⟨b, o, e, hb, hc⟩ := h4.at_ h0
    have hne := (h5 h0 _ e).2
    refine ⟨b, o, e, Nat.lt_of_lt_of_le hb hg.size, fun i x hx => ?_⟩
    have hbl : (wr.setCell ⟨bi, 0, none⟩ (.int .i64 u)).heap[b]? = wr.heap[b]? := hp_other (by simpa using hne)
    rw [World.cell?_of_block (a := ⟨b, o + i, none⟩) hbl]
    exact hc i x hx
  · have := hp_set (i := 0) (v := .int .i64 u) h6
    simpa using this
end Go.Proofs.Ytpblphddpcogcaa
