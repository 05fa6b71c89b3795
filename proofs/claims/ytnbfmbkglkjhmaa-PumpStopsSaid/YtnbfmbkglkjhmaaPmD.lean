import Derived.Test.YtnbfmbkglkjhmaaPmC
set_option linter.unusedSimpArgs false
set_option linter.unusedVariables false
set_option linter.unusedSectionVars false
namespace Go.Pmp
open Go.Conc
open Go.ConcN (sumTo upd sumTo_upd upd_ne upd_same)

theorem gms {gs : Array Goroutine} (f : Goroutine → Goroutine) (a : Nat) (x : Goroutine) (b : Nat) (hb : a ≠ b) : ((gs.map f).setIfInBounds a x)[b]? = (gs[b]?).map f := by
  rw [Array.getElem?_setIfInBounds_ne hb, Array.getElem?_map]
theorem gms_same {gs : Array Goroutine} (f : Goroutine → Goroutine) (a : Nat) (x : Goroutine) (ha : a < gs.size) : ((gs.map f).setIfInBounds a x)[a]? = some x := by
  simp [ha]

/-- All others only leave, and goroutine 0 knows all. -/
structure Lone (P : Program) (a : Goroutine) (gs : Array Goroutine) (t : Trace) (q : Nat → Nat) : Prop where
  h0 : gs[0]? = some a
  old : ∀ y g, 0 < y → gs[y]? = some g → QuitsD P (q y) (Deaf t y) g
  above : ∀ y, gs.size ≤ y → Deaf t y = 0
  cl : Clear t

section
variable (E : Env) (Fin : GW)

/-- Goroutine 0's situation beside the maker, by fuel, taken, seen closed, told to stop, put, ci closed; the rank. -/
inductive MSit : Nat → Nat → Bool → Bool → Nat → Bool → Mu → Goroutine → World → Prop
  | walk {k r : Nat} {X S : Bool} {i : Nat} {XI : Bool} {a : Goroutine} {W w : World} (hr : E.RM W w) (h : Ev E.P true E.RM (DM E) (StopM E Fin (MS E Fin k) r X S) a W) : MSit (k + 1) r X S i XI (some (StopM E Fin (MS E Fin k) r X S, a, W)) a w
  | take {k r : Nat} {a : Goroutine} {w : World} (h : AtTake E r (MS E Fin k (r + 1) false false) (MS E Fin k r true false) a w) : MSit (k + 1) r false false r false none (parked (core a) #[rcase E.ci E.zi] (.recv true)) w
  | hear {k r : Nat} {X S : Bool} {i : Nat} {XI : Bool} {a : Goroutine} {w : World} (hxs : X = true ∨ S = true) (h : AtHear E r X S Fin a w) : MSit (k + 1) r X S i XI none (parked (core a) #[rcase E.cd E.ze] (.recv false)) w

/-- The maker's situation. -/
inductive PSit : Nat → Nat → Bool → Bool → Bool → Nat → Mu → Goroutine → World → Prop
  | walk {k i : Nat} {st XI S : Bool} {r : Nat} {b : Goroutine} {W w : World} (hr : E.RP W w) (h : Ev E.P false E.RP (DP E) (StopP E (PS E k) i st XI) b W) : PSit (k + 1) i st XI S r (some (StopP E (PS E k) i st XI, b, W)) b w
  | park {k i : Nat} {st : Bool} {r : Nat} {b : Goroutine} {w : World} (hi : i = r + E.room) (h : AtPut E i (PS E k (i + 1) st false) (PS E k i true false) b w) : PSit (k + 1) i st false false r none (parked (core b) (E.put i) .select) w

/-- Phase A: the maker is there. -/
structure A (km kp r i : Nat) (X S st XI : Bool) (rm rp : Mu) (a b : Goroutine) (gs : Array Goroutine) (w : World) (t : Trace) (q : Nat → Nat) : Prop where
  h0 : gs[0]? = some a
  hb : gs[E.j]? = some b
  old : ∀ y g, 0 < y → y ≠ E.j → gs[y]? = some g → QuitsD E.P (q y) (Deaf t y) g
  above : ∀ y, gs.size ≤ y → Deaf t y = 0
  tw : Twin E.Own E.Still E.j t
  items : w.heap[E.ci]? = some (.chan E.room (E.buf r i) XI i r false)
  ri : r ≤ i
  ir : i ≤ r + E.room
  rt : r ≤ E.top
  hq : ∀ x, x < i → E.Q x
  stp : w.heap[E.cs]? = some (.chan 0 #[] S 0 0 false)
  don : w.heap[E.cd]? = some (.chan 1 #[] false 0 0 false)
  hst : S = false → st = false
  hx : X = true → XI = true ∧ i = r
  ms : MSit E Fin km r X S i XI rm a w
  ps : PSit E kp i st XI S r rp b w
  one : a.status = .running ∨ b.status = .running

/-- Phase B: the maker has told e, and only leaves. -/
structure B (km r i : Nat) (X S st : Bool) (e : Value) (n : World) (m : Nat) (a : Goroutine) (gs : Array Goroutine) (w : World) (t : Trace) (q : Nat → Nat) : Prop where
  h0 : gs[0]? = some a
  hj : E.j < gs.size
  old : ∀ y g, 0 < y → gs[y]? = some g → QuitsD E.P (q y) (Deaf t y) g
  above : ∀ y, gs.size ≤ y → Deaf t y = 0
  se : Sent E.Own E.Still E.j E.cd 0 m t
  items : w.heap[E.ci]? = some (.chan E.room (E.buf r i) true i r false)
  ri : r ≤ i
  ir : i ≤ r + E.room
  hq : ∀ x, x < i → E.Q x
  stp : w.heap[E.cs]? = some (.chan 0 #[] S 0 0 false)
  don : w.heap[E.cd]? = some (.chan 1 #[e] false 1 0 false)
  hst : st = true → S = true
  hx : X = true → i = r
  en : E.End i st e w
  mr : E.RM n w
  ms : Ev E.P true E.RM (DM E) (StopM E Fin (MS E Fin km) r X S) a n

/-- One of the two is nearer to its stop, or a leaver to its end. -/
def Less (rm' rp' : Mu) (s' : Nat) (rm rp : Mu) (s : Nat) : Prop := (Low E.P true E.RM rm' rm ∧ rp' = rp) ∨ (rm' = rm ∧ Low E.P false E.RP rp' rp) ∨ (rm' = rm ∧ rp' = rp ∧ s' < s)
def NextA (K : Nat) (rm0 rp0 : Mu) (s0 : Nat) (m : Machine) (t : Trace) : Prop :=
  ∃ km kp r i X S st XI rm rp a b gs w sl q, m = crowd gs w sl ∧ A E Fin km kp r i X S st XI rm rp a b gs w t q ∧ (km + kp < K ∨ (km + kp = K ∧ Less E rm rp (sumTo gs.size q) rm0 rp0 s0))
def NextB (K : Nat) (rm0 : Mu) (s0 : Nat) (m : Machine) (t : Trace) : Prop :=
  ∃ km r i X S st e n p a gs w sl q, m = crowd gs w sl ∧ B E Fin km r i X S st e n p a gs w t q ∧ (km < K ∨ (km = K ∧ (Low E.P true E.RM (some (StopM E Fin (MS E Fin km) r X S, a, n)) rm0 ∨ (some (StopM E Fin (MS E Fin km) r X S, a, n) = rm0 ∧ sumTo gs.size q < s0))))
def NextC (m : Machine) (t : Trace) : Prop :=
  ∃ a gs w sl q, m = crowd gs w sl ∧ Lone E.P a gs t q ∧ Fin a w
end

section
variable {E : Env} {Fin : GW} (O : E.Ok)
include O
variable {km kp r i : Nat} {X S st XI : Bool} {rm rp : Mu} {a b : Goroutine} {gs : Array Goroutine} {w : World} {t : Trace} {q : Nat → Nat} {sl : Option (Nat × Nat)}

theorem MSit.rely {a : Goroutine} {w w₁ : World} (h : MSit E Fin km r X S i XI rm a w) (hr : E.RM w w₁) : MSit E Fin km r X S i XI rm a w₁ := by
  cases h with
  | walk h0 h => exact .walk (O.rmT _ _ _ h0 hr) h
  | take h => exact .take (AtTake.rely O h hr)
  | hear hxs h => exact .hear hxs (AtHear.rely O h hr)
theorem PSit.rely {b : Goroutine} {w w₁ : World} (h : PSit E kp i st XI S r rp b w) (hr : E.RP w w₁) : PSit E kp i st XI S r rp b w₁ := by
  cases h with
  | walk h0 h => exact .walk (O.rpT _ _ _ h0 hr) h
  | park hi h => exact .park hi (AtPut.rely O h hr)
theorem A.at (H : A E Fin km kp r i X S st XI rm rp a b gs w t q) (d : Nat) : A E Fin km kp r i X S st XI rm rp a b gs (w.at d) t q :=
  { H with items := H.items, stp := H.stp, don := H.don, ms := H.ms.rely O (O.rmAt _ _), ps := H.ps.rely O (O.rpAt _ _) }

theorem StopM.running {Fin : GW} {K : Nat → Bool → Bool → GW} {r : Nat} {X S : Bool} {g : Goroutine} {w : World} (h : StopM E Fin K r X S g w) : g.status = .running := by
  rcases h with ⟨_, _, h⟩ | ⟨_, _, h⟩ | ⟨_, h⟩ <;> exact h.1
theorem StopP.running {K : Nat → Bool → Bool → GW} {i : Nat} {st X : Bool} {g : Goroutine} {w : World} (h : StopP E K i st X g w) : g.status = .running := by
  rcases h with ⟨_, h⟩ | ⟨_, h⟩ | ⟨_, h⟩ | ⟨_, h⟩ <;> exact h.1
theorem MSit.stat {a : Goroutine} {w : World} (h : MSit E Fin km r X S i XI rm a w) : a.status = .running ∨ a.status = .blocked := by
  cases h with
  | walk h0 h => exact .inl (h.running (fun _ _ h => StopM.running O h) (O.rmAt _ _))
  | take h => exact .inr rfl
  | hear hxs h => exact .inr rfl
theorem PSit.stat {b : Goroutine} {w : World} (h : PSit E kp i st XI S r rp b w) : b.status = .running ∨ b.status = .blocked := by
  cases h with
  | walk h0 h => exact .inl (h.running (fun _ _ h => StopP.running O h) (O.rpAt _ _))
  | park hi h => exact .inr rfl

theorem A.awake (H : A E Fin km kp r i X S st XI rm rp a b gs w t q) : ∀ g ∈ gs, awake g := by
  intro g hg
  obtain ⟨y, hy, rfl⟩ := Array.mem_iff_getElem.1 hg
  have hy' := Array.getElem?_eq_getElem hy
  by_cases e0 : y = 0
  · subst e0
    rw [H.h0] at hy'
    rw [← Option.some.inj hy']
    exact awake_of ((H.ms.stat O).imp id .inl)
  by_cases ej : y = E.j
  · subst ej
    rw [H.hb] at hy'
    rw [← Option.some.inj hy']
    exact awake_of ((H.ps.stat O).imp id .inl)
  · exact awake_of ((H.old y _ (by omega) ej hy').status.elim .inl fun x => .inr (.inr x))

theorem A.part_nil (H : A E Fin km kp r i X S st XI rm rp a b gs w t q) {x c : Nat} {s : Bool} (ha : x = 0 ∨ offersAt a c s = []) (hb : x = E.j ∨ offersAt b c s = []) : partners (gs.setIfInBounds x ph) c s = [] := by
  refine partners_nil fun y g hg => ?_
  rcases getElem?_stand gs x y g hg with ⟨_, rfl⟩ | ⟨hne, hg'⟩
  · rfl
  by_cases e0 : y = 0
  · subst e0
    rw [H.h0] at hg'
    rw [← Option.some.inj hg']
    exact ha.elim (fun e => absurd e.symm hne) id
  by_cases ej : y = E.j
  · subst ej
    rw [H.hb] at hg'
    rw [← Option.some.inj hg']
    exact hb.elim (fun e => absurd e.symm hne) id
  · refine offersAt_of_not_blocked ?_ c s
    rcases (H.old y g (by omega) ej hg').status with h | h <;> rw [h] <;> simp
theorem A.part_a (H : A E Fin km kp r i X S st XI rm rp a b gs w t q) {c : Nat} {s : Bool} : partners (gs.setIfInBounds E.j ph) c s = (offersAt a c s).map fun k => (0, k) := by
  refine partners_one (j := 0) (by rw [Array.getElem?_setIfInBounds_ne (by exact O.hj)]; exact H.h0) fun y g hy hg => ?_
  rcases getElem?_stand gs E.j y g hg with ⟨_, rfl⟩ | ⟨hne, hg'⟩
  · rfl
  refine offersAt_of_not_blocked ?_ c s
  rcases (H.old y g (by omega) hne hg').status with h | h <;> rw [h] <;> simp
theorem A.part_b (H : A E Fin km kp r i X S st XI rm rp a b gs w t q) {c : Nat} {s : Bool} : partners (gs.setIfInBounds 0 ph) c s = (offersAt b c s).map fun k => (E.j, k) := by
  have hj := O.hj
  refine partners_one (j := E.j) (by rw [Array.getElem?_setIfInBounds_ne (by omega)]; exact H.hb) fun y g hy hg => ?_
  rcases getElem?_stand gs 0 y g hg with ⟨_, rfl⟩ | ⟨hne, hg'⟩
  · rfl
  refine offersAt_of_not_blocked ?_ c s
  rcases (H.old y g (by omega) hy hg').status with h | h <;> rw [h] <;> simp

omit O in
theorem offers_run {g : Goroutine} (h : g.status = .running) (c : Nat) (s : Bool) : offersAt g c s = [] := offersAt_of_not_blocked (by rw [h]; simp) c s
omit O in
theorem offers_put_send (O : E.Ok) (g : Goroutine) (i : Nat) : offersAt (parked g (E.put i) .select) E.ci true = [0] := by
  simp [offersAt, parked, Env.put, scase, rcase, List.zipIdx_cons]
theorem offers_put_recv (g : Goroutine) (i c : Nat) (hc : c ≠ E.cs) : offersAt (parked g (E.put i) .select) c false = [] := by
  have : ¬ E.cs = c := fun e => hc e.symm
  simp [offersAt, parked, Env.put, scase, rcase, List.zipIdx_cons, this]
theorem offers_put_off (g : Goroutine) (i c : Nat) (hc : c ≠ E.ci) : offersAt (parked g (E.put i) .select) c true = [] := by
  have : ¬ E.ci = c := fun e => hc e.symm
  simp [offersAt, parked, Env.put, scase, rcase, List.zipIdx_cons, this]

omit O in
theorem again_put_open {g : Goroutine} {i : Nat} {w : World} {cap cap' s r s' r' : Nat} {buf buf' : Array Value} {tm tm' : Bool} (hc : w.heap[E.ci]? = some (.chan cap buf false s r tm)) (hc' : w.heap[E.cs]? = some (.chan cap' buf' false s' r' tm')) :
    (parked g (E.put i) .select).again w = parked g (E.put i) .select := by
  simp [Goroutine.again, parked, Env.put, scase, rcase, hc, hc']
omit O in
theorem woken_put_open {g u u' : Goroutine} {i : Nat} {w : World} {cap cap' s r s' r' : Nat} {buf buf' : Array Value} {tm tm' : Bool} (hc : w.heap[E.ci]? = some (.chan cap buf false s r tm)) (hc' : w.heap[E.cs]? = some (.chan cap' buf' false s' r' tm')) :
    woken E.P u u' w (parked g (E.put i) .select) = parked g (E.put i) .select := by
  unfold woken
  split
  · exact again_put_open hc hc'
  · rfl

/-- Whoever leaves is there still, behind a step of goroutine x's own. -/
theorem old_go {x : Nat} {u u' : Goroutine} {w' : World} {t' : Trace} (hold : ∀ y g, 0 < y → y ≠ E.j → gs[y]? = some g → QuitsD E.P (q y) (Deaf t y) g) (hd : ∀ y, 0 < y → y ≠ E.j → Deaf t' y = Deaf t y) (hx : x = 0 ∨ x = E.j) :
    ∀ y g, 0 < y → y ≠ E.j → ((gs.map (woken E.P u u' w')).setIfInBounds x u')[y]? = some g → QuitsD E.P (q y) (Deaf t' y) g := by
  intro y g hy hyj hg
  rw [gms _ _ _ _ (by omega)] at hg
  obtain ⟨g0, hg0, rfl⟩ := Option.map_eq_some_iff.1 hg
  have := hold y g0 hy hyj hg0
  rw [woken_quitsD this, hd y hy hyj]
  exact this
theorem old_set {gs' : Array Goroutine} {t' : Trace} (hold : ∀ y g, 0 < y → y ≠ E.j → gs[y]? = some g → QuitsD E.P (q y) (Deaf t y) g) (hd : ∀ y, 0 < y → y ≠ E.j → Deaf t' y = Deaf t y) (hg : ∀ y, 0 < y → y ≠ E.j → gs'[y]? = gs[y]?) :
    ∀ y g, 0 < y → y ≠ E.j → gs'[y]? = some g → QuitsD E.P (q y) (Deaf t' y) g := by
  intro y g hy hyj h
  rw [hg y hy hyj] at h
  rw [hd y hy hyj]
  exact hold y g hy hyj h
end
end Go.Pmp
