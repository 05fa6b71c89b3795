/- Texts of ours, joined: Misc1, Misc6, Tag0, RowG, RowS, Misc7, Misc2, Misc3, Misc4, Misc5, Law08. -/
import Derived.Test.YtocbofeanfdggaaDoorRows
import Derived.WalkKit
import Derived.ProofKit
import Derived.OpenShut
import Derived.ShutString
import Derived.ChangeOld
import Derived.Below
import Derived.BigQuiet
import Derived.Deep.QuietTactic
import Derived.Lib.Hide
import Derived.Deep.RegionHeld3
import Derived.Lib.SlBytesConst
import Derived.Laws.CopyOwn
import Derived.Laws.CopyRow
import Derived.Lib.Bytes
import Derived.Deep.LoopGhost
import Derived.Deep.DeepFit
import Derived.Deep.DeepMust
import Derived.WalkSpells
import Derived.WalkLawsBesides
import Derived.Test.YtocbofeanfdggaaDoorQ2
import Derived.Test.YtocbofeanfdggaaDoorQ1
import Derived.Test.YtocbofeanfdggaaDoorQ13
import Derived.Laws.EntriesVeiled
import Derived.Laws.Rows
import Derived.Lib.Fold
import Derived.Test.YtocbofeanfdggaaDoorQ3
import Derived.Test.YtocbofeanfdggaaDoorQ4
import Derived.Test.YtocbofeanfdggaaDoorQ5
import Derived.Test.YtocbofeanfdggaaDoorQ6
import Derived.Test.YtocbofeanfdggaaDoorQ11
import Derived.Test.YtocbofeanfdggaaDoorQ12
import Derived.Maps.OwnOps
import Derived.Maps.Views
import Derived.Maps.OwnSet
import Derived.Maps.AppendAt
import Derived.Lib.SmallJoins
import Derived.Deep.AppendLies
import Derived.Deep.RegionLaw
import Derived.Deep.RegionWith
import Derived.StillTailTactics
/- narthexref08.At, Find. -/
namespace Go.Proofs.YtocbofeanfdggaaDoor
open Go.ChangeShapes Go.WideShapes Go.ChangeAt Go.RowKit
set_option linter.unusedVariables false
theorem pre_take (p l : List UInt8) : p.isPrefixOf l = (l.take p.length == p) := by
  rw [Bool.eq_iff_iff, List.isPrefixOf_iff_prefix, beq_iff_eq, List.prefix_iff_eq_take]
  exact eq_comm
set_option maxRecDepth 100000 in
set_option maxHeartbeats 4000000 in
theorem refAt8_c (A : Option Addr) (n cap : Nat) (l : List UInt8) (k : Nat) (p : List UInt8) (B : Nat) (w : World) (h : Byt w B A n cap l) (hp : p ≠ []) (hm : n ≤ 1000000) (hpl : p.length ≤ 1000000) (hk : k ≤ 2000000) :
    Calls Tryd.prog 71 #[.slice A n cap, .int .i64 k, .string ⟨p.toArray⟩] w fun e w' => e = .returned (.bool (p.isPrefixOf (l.drop k))) ∧ w = w' := by
  have hk0 : (0 : Int) ≤ (k : Int) := by omega
  have hk1 : (k : Int) ≤ 2000000 := by omega
  have hn1 : (n : Int) ≤ 1000000 := by omega
  have hp1 : (p.length : Int) ≤ 1000000 := by omega
  by_cases hkp : k + p.length ≤ n
  · have hle : (p.length : Int) ≤ (n : Int) - (k : Int) := by omega
    have hcap := h.le
    have hst := ((h.drop (k := k) (by omega)).take (k := p.length) (by omega)).str
    have hrf : ∀ w2 : World, (Instr.slice 55 (.slice A n cap) (some (.int .i64 (k : Int))) (some (.int .i64 ((k : Int) + (p.length : Int)))) none).run Tryd.prog w2 = .ok (.slice (cutA A cap k) p.length (cap - k)) w2 := fun w2 => by
      have := run_fromTo (w := w2) A n cap k (k + p.length) (by omega) (by omega)
      rw [show k + p.length - k = p.length by omega, show ((k + p.length : Nat) : Int) = (k : Int) + (p.length : Int) by omega] at this
      exact this
    have HE : Hid (p.isPrefixOf (l.drop k) = ((l.drop k).take p.length == p)) := Lib.hid (pre_take _ _)
    clear hcap h hp hkp
    generalize (l.drop k).take p.length = q at *
    generalize p.isPrefixOf (l.drop k) = r at *
    go_enter Tryd.func71, Tryd.ntmps71
    go_wp2
    go_ret
    rw [HE.out]
    exact ⟨rfl, rfl⟩
  · have hle : ¬ (p.length : Int) ≤ (n : Int) - (k : Int) := by omega
    have HE : Hid (p.isPrefixOf (l.drop k) = false) := Lib.hid (by
      refine Classical.byContradiction fun hc => ?_
      have := pre_len (l := l) (k := k) (p := p) (by simpa using hc)
      rw [h.length] at this
      rcases this with h' | h'
      · exact hp h'
      · exact hkp h')
    rw [HE.out]
    clear HE h hp hkp
    go_enter Tryd.func71, Tryd.ntmps71
    go_wp2
    go_ret
    exact ⟨rfl, rfl⟩
set_option maxRecDepth 100000 in
set_option maxHeartbeats 4000000 in
theorem refFind_c (A : Option Addr) (n cap : Nat) (l : List UInt8) (k : Nat) (p : List UInt8) (B : Nat) (w : World) (h : Byt w B A n cap l) (hp : p ≠ []) (hm : n ≤ 1000000) (hpl : p.length ≤ 1000000) (hk : k ≤ n) :
    Calls Tryd.prog 50 #[.slice A n cap, .int .i64 k, .string ⟨p.toArray⟩] w fun e w' => e = .returned (.int .i64 (findI l k p)) ∧ w = w' := by
  have hn1 : (n : Int) ≤ 1000000 := by omega
  have hn0 : (0 : Int) ≤ (n : Int) := by omega
  have CA : Hid (∀ t : Nat, t ≤ n → Calls Tryd.prog 71 #[.slice A n cap, .int .i64 t, .string ⟨p.toArray⟩] w fun e w' => e = .returned (.bool (p.isPrefixOf (l.drop t))) ∧ w = w') := Lib.hid fun t ht => refAt8_c A n cap l t p B w h hp hm hpl (by omega)
  have hln := Lib.hid h.length
  have HK := Lib.hid hk
  clear h hp hpl
  go_enter Tryd.func50, Tryd.ntmps50
  go_wp2
  go_loopg [7] (n + 1 - k) (fun g i wr => ∃ t : Nat, t ≤ n + 1 ∧ Hid (g + t = n + 1) ∧ i = .int .i64 (t : Int) ∧ w = wr ∧ Hid (k ≤ t ∧ ∀ j, k ≤ j → j < t → p.isPrefixOf (l.drop j) = false))
  case atStart => exact ⟨k, by omega, Lib.hid (by omega), rfl, rfl, Lib.hid ⟨Nat.le_refl _, fun j h1 h2 => absurd h1 (by omega)⟩⟩
  case round =>
    obtain ⟨t, ht, hg, rfl, rfl, HN⟩ := hrel
    have ht0 : (0 : Int) ≤ (t : Int) := by omega
    have htb : (t : Int) ≤ 1000001 := by omega
    by_cases htn : t ≤ n
    · have htni : (t : Int) ≤ (n : Int) := by omega
      have CT := Lib.hid (CA.out t htn)
      cases hpt : p.isPrefixOf (l.drop t) with
      | true =>
        rw [hpt] at CT
        have HE : Hid (findI l k p = (t : Int)) := Lib.hid (findI_hit l p k t HN.out.1 (by rw [hln.out]; exact htn) hpt HN.out.2)
        clear hpt
        go_wp2_with fail
        refine (CT.out).mono ?_
        rintro e wq ⟨rfl, rfl⟩
        go_wp2
        go_ret
        exact ⟨by rw [HE.out]; rfl, rfl⟩
      | false =>
        rw [hpt] at CT
        have HN2 : Hid (k ≤ t + 1 ∧ ∀ j, k ≤ j → j < t + 1 → p.isPrefixOf (l.drop j) = false) := Lib.hid ⟨by have := HN.out.1; omega, fun j h1 h2 => by
          rcases (show j < t ∨ j = t by omega) with h' | rfl
          · exact HN.out.2 j h1 h'
          · exact hpt⟩
        clear hpt
        go_wp2_with fail
        refine (CT.out).mono ?_
        rintro e wq ⟨rfl, rfl⟩
        go_wp2
        go_roundg (n + 1 - (t + 1))
        case measure => have := hg.out; omega
        case rel => exact ⟨t + 1, by omega, Lib.hid (by omega), by go_num, rfl, HN2⟩
    · have htni : ¬ (t : Int) ≤ (n : Int) := by omega
      have HE : Hid (findI l k p = -1) := Lib.hid (findI_none l p k (by rw [hln.out]; exact HK.out) (fun j h1 h2 => HN.out.2 j h1 (by rw [hln.out] at h2; omega)))
      go_wp2
      go_ret
      exact ⟨by rw [HE.out]; rfl, rfl⟩
end Go.Proofs.YtocbofeanfdggaaDoor
/- narthexref08.Pi. -/
namespace Go.Proofs.YtocbofeanfdggaaDoor
open Go.ChangeShapes Go.WideShapes Go.ChangeAt Go.RowKit
set_option linter.unusedVariables false
/-- Is it xml, in letters of whatever size? -/
def resB (s : List UInt8) : Bool := Lib.equalFold s [120, 109, 108]
end Go.Proofs.YtocbofeanfdggaaDoor
/- A result in a block of its own. -/
namespace Go.Proofs.YtocbofeanfdggaaDoor
open Go.ChangeShapes Go.WideShapes Go.ChangeAt Go.RowKit
set_option linter.unusedVariables false
/-- While a result lies in a block of its own: below w all as it was, and that block. -/
def CJ (T : TypeId) (w W : World) (rs : Array Value) : Prop := Below w.heap.size w W ∧ W.heap[w.heap.size]? = some (.cells rs T)
theorem CJ.start (T : TypeId) (w : World) (rs : Array Value) : CJ T w (w.alloc (.cells rs T)) rs := ⟨(Below.refl _ _).alloc (Nat.le_refl _) _, hp_new _ _⟩
theorem CJ.kept {T : TypeId} {w W W' : World} {rs : Array Value} (h : CJ T w W rs) (hb : Below W.heap.size W W') : CJ T w W' rs :=
  ⟨h.1.trans (hb.mono h.1.size), by rw [hb.block _ (lt_of h.2)]; exact h.2⟩
theorem CJ.row {T : TypeId} {w W : World} {rs : Array Value} (h : CJ T w W rs) (cs : Array Value) : CJ T w (W.setRow w.heap.size cs) cs := by
  refine ⟨⟨h.1.os, h.1.tape, h.1.output, ?_, fun k hk => ?_⟩, setRow_heap _ _ _ _ _ _ h.2⟩
  · have := h.1.size; simpa [World.setRow] using this
  · rw [setRow_other _ _ _ _ (by omega)]; exact h.1.block k hk
end Go.Proofs.YtocbofeanfdggaaDoor
/- Rows of elements of so many cells, whatever they are. -/
namespace Go.Proofs.YtocbofeanfdggaaDoor
open Go.ChangeShapes Go.WideShapes Go.ChangeAt Go.RowKit
set_option linter.unusedVariables false
/-- A row whose elements take k cells each, that can be read (whatever the elements are). -/
structure RRd {α : Type} (c : α → List Value) (k : Nat) (w : World) (B : Nat) (A : Option Addr) (n cap : Nat) (xs : List α) : Prop where
  len : xs.length = n
  le : n ≤ cap
  fit : cap ≤ maxLen
  nil : A = none → cap = 0
  at_ : 0 < cap → ∃ b o, A = some ⟨b, o, none⟩ ∧ b < B ∧ ∀ i x, xs[i]? = some x → ∀ (j : Nat) u, (c x)[j]? = some u → w.cell? ⟨b, o + (i * k + j), none⟩ = some u
theorem RRd.keep {α : Type} {c : α → List Value} {k : Nat} {w w' : World} {B n cap : Nat} {A : Option Addr} {xs : List α} (h : RRd c k w B A n cap xs) (hk : ∀ p : Addr, p.block < B → w'.cell? p = w.cell? p) : RRd c k w' B A n cap xs :=
  ⟨h.len, h.le, h.fit, h.nil, fun h0 => by
    obtain ⟨b, o, e, hb, hc⟩ := h.at_ h0
    exact ⟨b, o, e, hb, fun i x hx j u hu => (hk ⟨b, _, none⟩ hb).trans (hc i x hx j u hu)⟩⟩
theorem RRd.more {α : Type} {c : α → List Value} {k : Nat} {w : World} {B B' n cap : Nat} {A : Option Addr} {xs : List α} (h : RRd c k w B A n cap xs) (hB : B ≤ B') : RRd c k w B' A n cap xs :=
  ⟨h.len, h.le, h.fit, h.nil, fun h0 => by
    obtain ⟨b, o, e, hb, hc⟩ := h.at_ h0
    exact ⟨b, o, e, by omega, hc⟩⟩
theorem RRd.below {α : Type} {c : α → List Value} {k : Nat} {w w' : World} {B n cap : Nat} {A : Option Addr} {xs : List α} (h : RRd c k w B A n cap xs) (hb : Below B w w') : RRd c k w' B A n cap xs := h.keep fun p hp => hb.cell hp
theorem RRd.up {α : Type} {c : α → List Value} {k : Nat} {w w' : World} {n cap : Nat} {A : Option Addr} {xs : List α} (h : RRd c k w w.heap.size A n cap xs) (hb : Below w.heap.size w w') : RRd c k w' w'.heap.size A n cap xs := (h.below hb).more hb.size
theorem RRd.drewN {α : Type} {c : α → List Value} {k : Nat} {w : World} {B n cap m : Nat} {A : Option Addr} {xs : List α} (h : RRd c k w B A n cap xs) : RRd c k (w.drewN m) B A n cap xs := h.keep (w' := w.drewN m) fun _ _ => rfl
theorem RRd.nilR {α : Type} (c : α → List Value) (k : Nat) (w : World) (B : Nat) : RRd c k w B none 0 0 [] := ⟨rfl, Nat.le_refl _, Nat.zero_le _, fun _ => rfl, fun h => absurd h (by omega)⟩
theorem RRd.cell {α : Type} {c : α → List Value} {k : Nat} {w : World} {B n cap : Nat} {A : Option Addr} {xs : List α} {i : Nat} (h : RRd c k w B A n cap xs) (hi : i < n) :
    ∃ b o x, A = some ⟨b, o, none⟩ ∧ b < B ∧ xs[i]? = some x ∧ ∀ (j : Nat) u, (c x)[j]? = some u → w.cell? ⟨b, o + (i * k + j), none⟩ = some u := by
  obtain ⟨b, o, e, hb, hc⟩ := h.at_ (by have := h.le; omega)
  have hl : i < xs.length := by rw [h.len]; exact hi
  exact ⟨b, o, xs[i], e, hb, List.getElem?_eq_getElem hl, hc i _ (List.getElem?_eq_getElem hl)⟩
theorem flat_get {α : Type} {c : α → List Value} {k : Nat} (hk : ∀ x, (c x).length = k) : ∀ (xs : List α) (i : Nat) (x : α), xs[i]? = some x → ∀ (j : Nat) u, (c x)[j]? = some u → (xs.flatMap c)[i * k + j]? = some u
  | [], i, x, h, j, u, hu => by simp at h
  | y :: xs, 0, x, h, j, u, hu => by
    simp at h
    subst h
    have hj : j < (c y).length := (List.getElem?_eq_some_iff.1 hu).1
    rw [List.flatMap_cons, Nat.zero_mul, Nat.zero_add, List.getElem?_append_left hj]
    exact hu
  | y :: xs, i + 1, x, h, j, u, hu => by
    rw [List.flatMap_cons, List.getElem?_append_right (by rw [hk, Nat.add_mul]; omega), hk, show (i + 1) * k + j - k = i * k + j by rw [Nat.add_mul]; omega]
    exact flat_get hk xs i x (by simpa using h) j u hu
theorem flat_len {α : Type} {c : α → List Value} {k : Nat} (hk : ∀ x, (c x).length = k) : ∀ xs : List α, (xs.flatMap c).length = xs.length * k
  | [] => by simp
  | y :: xs => by rw [List.flatMap_cons, List.length_append, hk, flat_len hk xs, List.length_cons, Nat.add_mul]; omega
/-- A row that the call made is one that can be read. -/
theorem RRd.ofOwn {α : Type} {c : α → List Value} {k : Nat} (hk : ∀ x, (c x).length = k) (h0 : 0 < k) {w : World} {base : Nat} {e : TypeId} {v : Value} {n : Nat} {xs : List α} (h : w.ownsRow base e k v n (xs.flatMap c)) : ∃ A cp, v = .slice A n cp ∧ RRd c k w w.heap.size A n cp xs := by
  obtain ⟨hl, h2 | ⟨g, cap, cur, hv, hg, hh, hn, hc, hs, ht⟩⟩ := h
  · obtain ⟨hv, hn⟩ := h2
    subst hn
    rw [flat_len hk] at hl
    have : xs = [] := List.length_eq_zero_iff.1 (by
      rcases Nat.eq_zero_or_pos xs.length with h | h
      · exact h
      · have := Nat.mul_pos h h0
        omega)
    subst this
    exact ⟨none, 0, hv, RRd.nilR c k w _⟩
  · rw [flat_len hk] at hl
    have hnx : xs.length = n := Nat.eq_of_mul_eq_mul_right h0 hl
    refine ⟨_, cap, hv, hnx, hn, hc, (fun e => by cases e), fun _ => ⟨g, 0, rfl, lt_of hh, fun i p hp j u hu => ?_⟩⟩
    have hi : i < xs.length := (List.getElem?_eq_some_iff.1 hp).1
    have hj : j < k := by rw [← hk p]; exact (List.getElem?_eq_some_iff.1 hu).1
    have hcp := flat_get hk xs i p hp j u hu
    have hlt : i * k + j < n * k := by
      have : (i + 1) * k ≤ n * k := Nat.mul_le_mul_right _ (by omega)
      rw [Nat.add_mul] at this
      omega
    rw [← ht, List.getElem?_take_of_lt hlt] at hcp
    rw [cell_of _ hh, Nat.zero_add]
    simpa using hcp
end Go.Proofs.YtocbofeanfdggaaDoor
/- Rows of strings of the call's own. -/
namespace Go.Proofs.YtocbofeanfdggaaDoor
open Go.ChangeShapes Go.WideShapes Go.ChangeAt Go.RowKit
set_option linter.unusedVariables false
theorem ownsRow_keep {w w' : World} {base : Nat} {e : TypeId} {c n : Nat} {v : Value} {xs : List Value} (h : w.ownsRow base e c v n xs) (hk : ∀ g, base ≤ g → g < w.heap.size → w'.heap[g]? = w.heap[g]?) : w'.ownsRow base e c v n xs := by
  obtain ⟨hl, h2 | ⟨g, cap, cur, hv, hg, hh, r⟩⟩ := h
  · exact ⟨hl, Or.inl h2⟩
  · exact ⟨hl, Or.inr ⟨g, cap, cur, hv, hg, (hk g hg (lt_of hh)).trans hh, r⟩⟩
theorem cell_newN (w : World) (us : List Value) (T : TypeId) : ∀ (j : Nat) (v : Value), us[j]? = some v → (w.alloc (.cells us.toArray T)).cell? ((⟨w.heap.size, 0, none⟩ : Addr).add j) = some v := by
  intro j v hv
  rw [addr_add, cell_of _ (hp_new _ _)]
  simpa using hv
/-- 'out = append(out, u)' onto a row of the call's own, the element's cells lying in a block just made. -/
theorem wpList_appK {P : Program} {ops : Array Oper} {rest : List Oper} {o : Oper} {a : Act} {Q : Exit → Act → World → Prop} {w : World} (hgd : o.guard = none) (s x : Operand) (t e : TypeId)
    (ho : o.op = .call { callee := .builtin .append, args := #[s, x], argTypes := #[t, t] }) (z : Value) (k bytes : Nat) (ht : P.underlying t = some (.slice e))
    (hi : ∃ i, P.info? e = some i ∧ i.zero = some z ∧ i.size = k ∧ i.bytes = bytes) (hzs : z.cells.size = k) (hk : 0 < k)
    (base : Nat) (v : Value) (n : Nat) (xs : List Value) (hs : a.eval s = v) (hown : w.ownsRow base e k v n xs) (us : List Value) (us' : Array Value) (hus : us' = us.toArray) (hx : a.eval x = .slice (some ⟨w.heap.size, 0, none⟩) 1 1)
    (hl : us.length = k) (h1 : ∀ u ∈ us, u.oneCell' = true) (hn : n ≤ 1000000000) (hby : bytes ≤ 1000) (hbase : base ≤ w.heap.size)
    (h : ∀ v' w', w'.ownsRow base e k v' (n + 1) (xs ++ us) → (w.alloc (.cells us' e)).grownBy w' v.ownBlock → (v'.ownBlock = v.ownBlock ∨ v'.ownBlock = some (w.heap.size + 1)) → wpList P ops Q rest (a.put o.dst v') w') : wpList P ops Q (o :: rest) a (w.alloc (.cells us' e)) := by
  subst hus
  obtain ⟨i, hi, hz, hsz, hbt⟩ := hi
  refine wpList_append_own_at _ hgd s x t ho base e i z k bytes ht hi hz hsz hbt hzs hk v n xs hs (hown.alloc _) ⟨w.heap.size, 0, none⟩ 1 1 us hx (by omega) (cell_newN w us e) h1 (by unfold maxLen; omega) ?_ (by simp; omega) fun v' w' hown' hgrow _ hat => h v' w' hown' hgrow (by rw [World.size_alloc] at hat; exact hat)
  have : (n + 1) * bytes ≤ 1000000001 * 1000 := Nat.mul_le_mul (by omega) hby
  omega
def strV (s : List UInt8) : Value := .string ⟨s.toArray⟩
/-- A row of strings of the call's own. -/
def OwnS (w : World) (base : Nat) (v : Value) (op : List (List UInt8)) : Prop := w.ownsRow base 9 1 v op.length (op.map strV)
theorem OwnS.start (w : World) (base : Nat) : OwnS w base (.slice none 0 0) [] := ⟨rfl, .inl ⟨rfl, rfl⟩⟩
theorem OwnS.kept {w w' : World} {base : Nat} {v : Value} {op : List (List UInt8)} (h : OwnS w base v op) (hb : Below w.heap.size w w') : OwnS w' base v op := ownsRow_keep h fun g _ hg => hb.block g hg
theorem OwnS.form {w : World} {base : Nat} {v : Value} {op : List (List UInt8)} (h : OwnS w base v op) : ∃ A c, v = .slice A op.length c := by
  obtain ⟨hl, ⟨hv, h0⟩ | ⟨g, cap, cur, hv, r⟩⟩ := h
  · exact ⟨none, 0, by rw [hv, h0]⟩
  · exact ⟨_, cap, hv⟩
theorem OwnS.cells {w : World} {base : Nat} {ad : Addr} {n c : Nat} {op : List (List UInt8)} (h : OwnS w base (.slice (some ad) n c) op) : ∀ (j : Nat) u, (op.map strV)[j]? = some u → w.cell? (ad.add j) = some u := by
  obtain ⟨hl, ⟨hv, _⟩ | ⟨g, cap, cur, hv, hg, hh, hn, hc, hs, ht⟩⟩ := h
  · cases hv
  · injection hv with h1 h2 h3
    cases h1
    intro j u hu
    have hj : j < op.length := by have := (List.getElem?_eq_some_iff.1 hu).1; rwa [List.length_map] at this
    rw [addr_add, cell_of _ hh, Nat.zero_add]
    rw [← ht, List.getElem?_take_of_lt (by omega)] at hu
    simpa using hu
theorem OwnS.lit (w : World) (base : Nat) (hb : base ≤ w.heap.size) : OwnS (w.alloc (.cells #[] 9)) base (.slice (some ⟨w.heap.size, 0, none⟩) 0 0) [] :=
  ⟨rfl, .inr ⟨w.heap.size, 0, #[], rfl, hb, hp_new _ _, Nat.le_refl _, Nat.zero_le _, rfl, rfl⟩⟩

end Go.Proofs.YtocbofeanfdggaaDoor
/- misc.Pi. -/
namespace Go.Proofs.YtocbofeanfdggaaDoor
open Go.ChangeShapes Go.WideShapes Go.ChangeAt Go.RowKit
set_option linter.unusedVariables false
end Go.Proofs.YtocbofeanfdggaaDoor
/- narthexref08.Comment, CData. -/
namespace Go.Proofs.YtocbofeanfdggaaDoor
open Go.ChangeShapes Go.WideShapes Go.ChangeAt Go.RowKit
set_option linter.unusedVariables false
end Go.Proofs.YtocbofeanfdggaaDoor
/- misc: what stands between marks: comments. -/
namespace Go.Proofs.YtocbofeanfdggaaDoor
open Go.ChangeShapes Go.WideShapes Go.ChangeAt Go.RowKit
set_option linter.unusedVariables false
/-- What stands while marks are read: below w all as it was, and the sort's own block. -/
def MkJ (p q : List UInt8) (fid : Nat) (w W : World) : Prop :=
  Below w.heap.size w W ∧ w.heap.size < W.heap.size ∧ W.cell? ⟨w.heap.size, 0, none⟩ = some (.string ⟨p.toArray⟩) ∧ W.cell? ⟨w.heap.size, 1, none⟩ = some (.string ⟨q.toArray⟩) ∧ W.cell? ⟨w.heap.size, 2, none⟩ = some (.func (.func fid) #[] #[])
theorem MkJ.kept {p q : List UInt8} {fid : Nat} {w W W' : World} (h : MkJ p q fid w W) (hb : Below W.heap.size W W') : MkJ p q fid w W' :=
  ⟨h.1.trans (hb.mono h.1.size), by have := hb.size; have := h.2.1; omega, by rw [hb.cell h.2.1]; exact h.2.2.1, by rw [hb.cell h.2.1]; exact h.2.2.2.1, by rw [hb.cell h.2.1]; exact h.2.2.2.2⟩
theorem MkJ.drewN {p q : List UInt8} {fid : Nat} {w W : World} (h : MkJ p q fid w W) (n : Nat) : MkJ p q fid w (W.drewN n) := h.kept (below_drewN' (Below.refl _ _))
def commentsV : Value := .agg #[.string ⟨#[60, 33, 45, 45]⟩, .string ⟨#[45, 45, 62]⟩, .func (.func 105) #[] #[]]
set_option maxRecDepth 100000 in
set_option maxHeartbeats 4000000 in
theorem comments_c (w : World) : Calls Tryd.prog 84 #[] w fun e w' => e = .returned commentsV ∧ Below w.heap.size w w' := by
  have hF := Lib.hid (hp_new w (.cells #[.string ⟨#[60, 33, 45, 45]⟩, .string ⟨#[45, 45, 62]⟩, .func (.func 105) #[] #[]] 120))
  have hb := Lib.hid (Below.alloc (Below.refl w.heap.size w) (Nat.le_refl _) (.cells #[.string ⟨#[60, 33, 45, 45]⟩, .string ⟨#[45, 45, 62]⟩, .func (.func 105) #[] #[]] 120))
  go_enter Tryd.func84, Tryd.ntmps84
  go_wp2
  have hi : (Tryd.prog.info? 120).map (·.size) = some 3 := by kernel_rfl
  obtain ⟨d, hu⟩ := isStruct_of (P := Tryd.prog) (t := 120) (by kernel_rfl)
  (try simp only [Exit.inBlock, Exit.then])
  refine bodyPost_ret (results_cell_row rfl _ _ w.heap.size _ _ _ _ rfl hF.out hu rfl hi) rfl ⟨rfl, hb.out⟩
set_option maxRecDepth 100000 in
set_option maxHeartbeats 4000000 in
theorem comments1_c (s : List UInt8) (w : World) (hM : MaxL w) (hs : s.length ≤ 500000) :
    Calls Tryd.prog 105 #[.string ⟨s.toArray⟩] w fun e w' => e = .returned (.bool (mayComment s)) ∧ w = w' := by
  have hct : (Op.stringOp .add ⟨s.toArray⟩ ⟨#[45]⟩).run Tryd.prog w = .ok (.string ⟨(s ++ [45]).toArray⟩) w := run_sop (w := w) s [45] (by simp; omega)
  have C1 := Lib.hid (contains_c (s ++ [45]) [45, 45] w hM (by simp; omega))
  unfold mayComment
  generalize Lib.contains (s ++ [45]) [45, 45] = r at *
  generalize s ++ [45] = s2 at *
  clear hM hs
  cases r
  all_goals
    go_enter Tryd.func105, Tryd.ntmps105
    go_wp2_with fail
    refine (C1.out).mono ?_
    rintro e wq ⟨rfl, rfl⟩
    go_wp2
    go_ret
    exact ⟨rfl, rfl⟩
end Go.Proofs.YtocbofeanfdggaaDoor
/- misc: what stands between marks: marked texts. -/
namespace Go.Proofs.YtocbofeanfdggaaDoor
open Go.ChangeShapes Go.WideShapes Go.ChangeAt Go.RowKit
set_option linter.unusedVariables false
end Go.Proofs.YtocbofeanfdggaaDoor
/- misc: comments and marked texts, read and written. -/
namespace Go.Proofs.YtocbofeanfdggaaDoor
open Go.ChangeShapes Go.WideShapes Go.ChangeAt Go.RowKit
set_option linter.unusedVariables false
def putCommentOut (s : List UInt8) : List UInt8 × Nat := if mayComment s = true then ([60, 33, 45, 45] ++ s ++ [45, 45, 62], 0) else ([], 7)
set_option maxRecDepth 100000 in
set_option maxHeartbeats 4000000 in
theorem commentsWrite_c (s : List UInt8) (w : World) (hM : MaxL w) (hs : s.length ≤ 100000) :
    Calls Tryd.prog 85 #[commentsV, .string ⟨s.toArray⟩] w fun e w' => e = .returned (.tuple #[.string ⟨(putCommentOut s).1.toArray⟩, .int .i64 ((putCommentOut s).2 : Int)]) ∧ Below w.heap.size w w' := by
  have f0 := hp_new w (.cells #[.string ⟨#[60, 33, 45, 45]⟩, .string ⟨#[45, 45, 62]⟩, .func (.func 105) #[] #[]] 120)
  have z0 : (w.alloc (.cells #[.string ⟨#[60, 33, 45, 45]⟩, .string ⟨#[45, 45, 62]⟩, .func (.func 105) #[] #[]] 120)).cell? ⟨w.heap.size, 0, none⟩ = some (.string ⟨#[60, 33, 45, 45]⟩) := cell_of 0 f0
  have z1 : (w.alloc (.cells #[.string ⟨#[60, 33, 45, 45]⟩, .string ⟨#[45, 45, 62]⟩, .func (.func 105) #[] #[]] 120)).cell? ⟨w.heap.size, 1, none⟩ = some (.string ⟨#[45, 45, 62]⟩) := cell_of 1 f0
  have z2 : (w.alloc (.cells #[.string ⟨#[60, 33, 45, 45]⟩, .string ⟨#[45, 45, 62]⟩, .func (.func 105) #[] #[]] 120)).cell? ⟨w.heap.size, 2, none⟩ = some (.func (.func 105) #[] #[]) := cell_of 2 f0
  have hb0 := Lib.hid (Below.alloc (Below.refl w.heap.size w) (Nat.le_refl _) (.cells #[.string ⟨#[60, 33, 45, 45]⟩, .string ⟨#[45, 45, 62]⟩, .func (.func 105) #[] #[]] 120))
  have C1 := Lib.hid (comments1_c s (w.alloc (.cells #[.string ⟨#[60, 33, 45, 45]⟩, .string ⟨#[45, 45, 62]⟩, .func (.func 105) #[] #[]] 120)) (hM.below hb0.out hM.lt) (by omega))
  have hct : ∀ W, (Op.stringOp .add ⟨#[60, 33, 45, 45]⟩ ⟨s.toArray⟩).run Tryd.prog W = .ok (.string ⟨([60, 33, 45, 45] ++ s).toArray⟩) W := fun W => run_sop (w := W) [60, 33, 45, 45] s (by simp; omega)
  have hct2 : ∀ W, (Op.stringOp .add ⟨([60, 33, 45, 45] ++ s).toArray⟩ ⟨#[45, 45, 62]⟩).run Tryd.prog W = .ok (.string ⟨([60, 33, 45, 45] ++ s ++ [45, 45, 62]).toArray⟩) W := fun W => run_sop (w := W) ([60, 33, 45, 45] ++ s) [45, 45, 62] (by simp; omega)
  clear f0 hM hs
  unfold putCommentOut commentsV
  generalize mayComment s = my at *
  cases my
  · simp only [Bool.false_eq_true, if_false]
    clear hct hct2
    go_enter Tryd.func85, Tryd.ntmps85
    go_wp2_with fail
    refine (C1.out).mono ?_
    rintro e wq ⟨rfl, rfl⟩
    go_wp2
    go_ret2
    exact ⟨rfl, hb0.out⟩
  · simp only [if_true]
    generalize [60, 33, 45, 45] ++ s ++ [45, 45, 62] = s3 at *
    generalize [60, 33, 45, 45] ++ s = s2 at *
    go_enter Tryd.func85, Tryd.ntmps85
    go_wp2_with fail
    refine (C1.out).mono ?_
    rintro e wq ⟨rfl, rfl⟩
    go_wp2
    go_ret2
    exact ⟨rfl, hb0.out⟩
set_option maxRecDepth 100000 in
set_option maxHeartbeats 4000000 in
theorem miscPutComment_c (s : List UInt8) (w : World) (hM : MaxL w) (hs : s.length ≤ 100000) :
    Calls Tryd.prog 61 #[.string ⟨s.toArray⟩] w fun e w' => e = .returned (.tuple #[.string ⟨(putCommentOut s).1.toArray⟩, .int .i64 ((putCommentOut s).2 : Int)]) ∧ Below w.heap.size w w' := by
  have C1 := Lib.hid (comments_c w)
  have C2 : Hid (∀ W, Below w.heap.size w W → Calls Tryd.prog 85 #[commentsV, .string ⟨s.toArray⟩] W fun e w' => e = .returned (.tuple #[.string ⟨(putCommentOut s).1.toArray⟩, .int .i64 ((putCommentOut s).2 : Int)]) ∧ Below W.heap.size W w') := Lib.hid fun W hb => commentsWrite_c s W (hM.below hb hM.lt) hs
  clear hM hs
  generalize putCommentOut s = r at *
  go_enter Tryd.func61, Tryd.ntmps61
  go_wp2_with fail
  refine (C1.out).mono ?_
  rintro e w1 ⟨rfl, hb⟩
  have B1 := Lib.hid hb
  clear hb
  go_wp2_with fail
  refine (C2.out _ B1.out).mono ?_
  rintro e w2 ⟨rfl, hb⟩
  have B2 := Lib.hid (B1.out.trans (hb.mono B1.out.size))
  clear hb
  go_wp2
  go_ret2
  exact ⟨rfl, B2.out⟩
end Go.Proofs.YtocbofeanfdggaaDoor
/- Statements of chapter 8. -/
namespace Go.Proofs.YtocbofeanfdggaaDoor
open Go.ChangeShapes Go.WideShapes Go.ChangeAt Go.RowKit
set_option linter.unusedVariables false
set_option maxRecDepth 100000 in
set_option maxHeartbeats 4000000 in
theorem reserved_len (s : List UInt8) (w : World) (hs : s.length ≠ 3) : Calls Tryd.prog 86 #[.string ⟨s.toArray⟩] w fun e w' => e = .returned (.bool false) ∧ w = w' := by
  have hl : ((s.length : Int) == 3) = false := by simp; omega
  go_enter Tryd.func86, Tryd.ntmps86
  go_wp2
  go_ret
  exact ⟨rfl, rfl⟩
/-- What is asked of the world. -/
structure W8 (w : World) : Prop where
  tabs : TabN w
  forms : Forms w
  maxl : MaxL w
theorem W8.below {w w' : World} (h : W8 w) (hb : Below w.heap.size w w') : W8 w' := ⟨h.tabs.below hb (h.tabs.low h.forms), h.forms.below hb h.forms.lt, h.maxl.below hb h.maxl.lt⟩
end Go.Proofs.YtocbofeanfdggaaDoor
