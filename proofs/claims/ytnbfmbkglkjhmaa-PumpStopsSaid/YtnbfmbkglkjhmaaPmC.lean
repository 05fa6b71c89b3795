import Derived.Conc.CrowdSel
import Derived.Conc.TokenFlight
import Derived.Conc.Token
import Derived.Test.YtnbfmbkglkjhmaaPmA
import Derived.Test.YtnbfmbkglkjhmaaPmB
set_option linter.unusedSimpArgs false
set_option linter.unusedVariables false
namespace Go.Pmp
open Go.Conc
open Go.ConcN (sumTo upd sumTo_upd upd_ne upd_same)

/-! Two goroutines over three channels: the maker (number j) puts things on ci (room) and may be told on cs to stop; at its end it closes ci and tells one value on cd (room 1); goroutine 0 takes from ci, closes cs, hears on cd. -/

structure Env where
  P : Program
  j : Nat
  ci : Nat
  cs : Nat
  cd : Nat
  room : Nat
  zi : Value
  zp : Value
  zs : Value
  ze : Value
  zd : Value
  f : Nat → Value
  Q : Nat → Prop
  End : Nat → Bool → Value → World → Prop
  Own : Loc → Prop
  Still : Loc → Prop
  RM : World → World → Prop
  RP : World → World → Prop
  top : Nat

structure Env.Ok (E : Env) : Prop where
  hj : E.j ≠ 0
  h1 : E.ci ≠ E.cs
  h2 : E.ci ≠ E.cd
  h3 : E.cs ≠ E.cd
  rmT : ∀ a b c, E.RM a b → E.RM b c → E.RM a c
  rmAt : ∀ w d, E.RM w (w.at d)
  rmI : ∀ w cap buf cl a b tm, E.RM w (w.setChan E.ci cap buf cl a b tm)
  rmD : ∀ w cap buf cl a b tm, E.RM w (w.setChan E.cd cap buf cl a b tm)
  rpT : ∀ a b c, E.RP a b → E.RP b c → E.RP a c
  rpAt : ∀ w d, E.RP w (w.at d)
  rpI : ∀ w cap buf cl a b tm, E.RP w (w.setChan E.ci cap buf cl a b tm)
  rpS : ∀ w cap buf cl a b tm, E.RP w (w.setChan E.cs cap buf cl a b tm)
  rpD : ∀ w cap buf cl a b tm, E.RP w (w.setChan E.cd cap buf cl a b tm)
  endR : ∀ i st e w w', E.RP w w' → E.End i st e w → E.End i st e w'
  ownI : E.Own (.obj E.ci)
  notS : ¬ E.Own (.obj E.cs) ∧ ¬ E.Still (.obj E.cs)

abbrev GW := Goroutine → World → Prop

/-- On its way to a stop: a finite way, whose length may hang on what the others do. -/
inductive Ev (P : Program) (main : Bool) (R : World → World → Prop) (D : World → World → Array Event → Prop) (Stop : GW) : Goroutine → World → Prop
  | stop {g : Goroutine} {w : World} (h : ∀ w₁, R w w₁ → Stop g w₁) : Ev P main R D Stop g w
  | step {g : Goroutine} {w : World} (hs : g.status = .running) (h : ∀ w₁, R w w₁ → ∃ g' w' es, stepG P main g w₁ = .go g' w' es ∧ D w₁ w' es) (hn : ∀ w₁ g' w' es, R w w₁ → stepG P main g w₁ = .go g' w' es → Ev P main R D Stop g' w') : Ev P main R D Stop g w

section
variable {P : Program} {main : Bool} {R : World → World → Prop} {D : World → World → Array Event → Prop} {Stop : GW} {g : Goroutine} {w w' : World}
theorem Ev.go (hs : g.status = .running) (h : ∀ w₁, R w w₁ → (stepG P main g w₁).goes fun g' w' es => D w₁ w' es ∧ Ev P main R D Stop g' w') : Ev P main R D Stop g w := by
  refine .step hs (fun w₁ h₁ => ?_) fun w₁ g' w' es h₁ e => ?_
  · obtain ⟨g', w', es, e, hd, _⟩ := goes_elim (h w₁ h₁)
    exact ⟨g', w', es, e, hd⟩
  · have := h w₁ h₁
    rw [e] at this
    exact this.2
theorem Ev.rely (trans : ∀ a b c, R a b → R b c → R a c) (h : Ev P main R D Stop g w) (hr : R w w') : Ev P main R D Stop g w' := by
  cases h with
  | stop h => exact .stop fun w₁ h₁ => h w₁ (trans _ _ _ hr h₁)
  | step hs h hn => exact .step hs (fun w₁ h₁ => h w₁ (trans _ _ _ hr h₁)) fun w₁ g' w' es h₁ e => hn w₁ g' w' es (trans _ _ _ hr h₁) e
theorem Ev.running (hS : ∀ g w, Stop g w → g.status = .running) (h : Ev P main R D Stop g w) (hr : R w w) : g.status = .running := by
  cases h with
  | stop h => exact hS _ _ (h w hr)
  | step hs h hn => exact hs

/-- The measure of one that walks ('some': what it walks to, the record, the world from which it was seen to be on its way), or that waits ('none'). -/
abbrev Mu := Option (GW × Goroutine × World)
def Low (P : Program) (main : Bool) (R : World → World → Prop) : Mu → Mu → Prop
  | none, some _ => True
  | some (S', a', W'), some (S, a, W) => S' = S ∧ (∃ w₁, R W w₁ ∧ ¬ S a w₁) ∧ ∃ w₁ es, R W w₁ ∧ stepG P main a w₁ = .go a' W' es
  | _, none => False
theorem low_none : Acc (Low P main R) none := Acc.intro _ fun y h => by cases y <;> exact h.elim
theorem Ev.acc (h : Ev P main R D Stop g w) : Acc (Low P main R) (some (Stop, g, w)) := by
  induction h with
  | stop h =>
    refine Acc.intro _ fun y hy => ?_
    rcases y with _ | ⟨S', a', W'⟩
    · exact low_none
    · obtain ⟨_, ⟨w₁, h₁, hn⟩, _⟩ := hy
      exact absurd (h w₁ h₁) hn
  | step hs h hn ih =>
    refine Acc.intro _ fun y hy => ?_
    rcases y with _ | ⟨S', a', W'⟩
    · exact low_none
    · obtain ⟨rfl, _, w₁, es, h₁, e⟩ := hy
      exact ih w₁ a' W' es h₁ e
/-- Where it stands at its stop, or takes a step. -/
theorem Ev.cases {W : World} (h : Ev P main R D Stop g W) (hr : R W w) : Stop g w ∨ ∃ g' w' es, stepG P main g w = .go g' w' es ∧ D w w' es ∧ Ev P main R D Stop g' w' ∧ Low P main R (some (Stop, g', w')) (some (Stop, g, W)) := by
  rcases Classical.em (∀ w₁, R W w₁ → Stop g w₁) with hS | hS
  · exact .inl (hS w hr)
  · have hS' : ∃ w₁, R W w₁ ∧ ¬ Stop g w₁ := by
      rcases Classical.em (∃ w₁, R W w₁ ∧ ¬ Stop g w₁) with h | h
      · exact h
      · exact absurd (fun w₁ h₁ => Classical.byContradiction fun hn => h ⟨w₁, h₁, hn⟩) hS
    cases h with
    | stop h => exact absurd h hS
    | step hs h hn =>
      obtain ⟨g', w', es, e, hd⟩ := h w hr
      exact .inr ⟨g', w', es, e, hd, hn w g' w' es hr e, rfl, hS', w, es, hr, e⟩
end

section
variable (E : Env)

/-- Goroutine 0's guarantee. -/
def DM (w w' : World) (es : Array Event) : Prop := (∀ e ∈ es, EvM E.Own E.Still e) ∧ w'.heap[E.ci]? = w.heap[E.ci]? ∧ w'.heap[E.cs]? = w.heap[E.cs]? ∧ w'.heap[E.cd]? = w.heap[E.cd]? ∧ E.RP w w'
/-- The maker's guarantee. -/
def DP (w w' : World) (es : Array Event) : Prop := (∀ e ∈ es, EvP E.Own E.Still e) ∧ w'.heap[E.ci]? = w.heap[E.ci]? ∧ w'.heap[E.cs]? = w.heap[E.cs]? ∧ w'.heap[E.cd]? = w.heap[E.cd]? ∧ E.RM w w'

def Env.put (i : Nat) : Array CommCase := #[scase E.ci (E.f i) E.zp, rcase E.cs E.zs]

/-- The maker looks whether it is stopped. -/
def AtPoll (yes no : GW) (g : Goroutine) (w : World) : Prop :=
  g.status = .running ∧ ∃ es, (∀ e ∈ es, EvP E.Own E.Still e) ∧ stepG E.P false g w = .comm (core g) #[rcase E.cs E.zs] false .select w es ∧
    (∀ w₁, E.RP w w₁ → yes (Conc.served (core g) (commResult #[rcase E.cs E.zs] .select (0 : Nat) E.zs false)) w₁) ∧
    (∀ w₁, E.RP w w₁ → no (Conc.served (core g) (commResult #[rcase E.cs E.zs] .select (-1) undef false)) w₁)
/-- The maker puts thing number i. -/
def AtPut (i : Nat) (next yes : GW) (g : Goroutine) (w : World) : Prop :=
  g.status = .running ∧ E.Q i ∧ ∃ es, (∀ e ∈ es, EvP E.Own E.Still e) ∧ (∀ w₁, E.RP w w₁ → stepG E.P false g w₁ = .comm (core g) (E.put i) true .select w₁ es) ∧
    (∀ w₁, E.RP w w₁ → i < E.top + E.room → next (Conc.served (core g) (commResult (E.put i) .select (0 : Nat) undef false)) w₁) ∧
    (∀ w₁, E.RP w w₁ → yes (Conc.served (core g) (commResult (E.put i) .select (1 : Nat) E.zs false)) w₁)
/-- The maker closes ci. -/
def AtShutI (next : GW) (g : Goroutine) (w : World) : Prop :=
  g.status = .running ∧ mayWake E.P g = true ∧ ∃ g', g'.status = .running ∧
    (∀ buf i r, w.heap[E.ci]? = some (.chan E.room buf false i r false) → stepG E.P false g w = .go g' (w.setChan E.ci E.room buf true i r false) (closeEvents E.ci)) ∧
    (∀ w₁, E.RP w w₁ → next g' w₁)
/-- The maker tells what it ends with. -/
def AtTell (i : Nat) (st : Bool) (g : Goroutine) (w : World) : Prop :=
  g.status = .running ∧ ∃ e es n, (∀ x ∈ es, EvP E.Own E.Still x) ∧ stepG E.P false g w = .comm (core g) #[scase E.cd e E.zd] true .send w es ∧ E.End i st e w ∧ QuitsD E.P n 0 (Conc.served (core g) undef)

/-- The maker's stops. 'K': what is asked behind a communication, by how many were put, whether it was stopped, whether ci is closed. -/
def StopP (K : Nat → Bool → Bool → GW) (i : Nat) (st X : Bool) (g : Goroutine) (w : World) : Prop :=
  (X = false ∧ AtPoll E (K i true false) (K i st false) g w) ∨ (X = false ∧ AtPut E i (K (i + 1) st false) (K i true false) g w) ∨
  (X = false ∧ AtShutI E (K i st true) g w) ∨ (X = true ∧ AtTell E i st g w)
/-- The maker's script, by fuel. -/
def PS : Nat → Nat → Bool → Bool → GW
  | 0, _, _, _, _, _ => False
  | k + 1, i, st, X, g, w => Ev E.P false E.RP (DP E) (StopP E (PS k) i st X) g w

/-- Goroutine 0 takes thing number r. -/
def AtTake (r : Nat) (val fin : GW) (g : Goroutine) (w : World) : Prop :=
  g.status = .running ∧ r < E.top ∧ ∃ es, (∀ e ∈ es, EvM E.Own E.Still e) ∧ (∀ w₁, E.RM w w₁ → stepG E.P true g w₁ = .comm (core g) #[rcase E.ci E.zi] true (.recv true) w₁ es) ∧
    (∀ w₁, E.RM w w₁ → E.Q r → val (Conc.served (core g) (.tuple #[E.f r, .bool true])) w₁) ∧
    (∀ w₁, E.RM w w₁ → fin (Conc.served (core g) (.tuple #[E.zi, .bool false])) w₁)
/-- Goroutine 0 closes cs. -/
def AtShutS (next : GW) (g : Goroutine) (w : World) : Prop :=
  g.status = .running ∧ mayWake E.P g = true ∧ ∃ g', g'.status = .running ∧
    (w.heap[E.cs]? = some (.chan 0 #[] false 0 0 false) → stepG E.P true g w = .go g' (w.setChan E.cs 0 #[] true 0 0 false) (closeEvents E.cs)) ∧
    next g' (w.setChan E.cs 0 #[] true 0 0 false)
/-- Goroutine 0 hears what the maker ended with. -/
def AtHear (r : Nat) (X S : Bool) (Fin : GW) (g : Goroutine) (w : World) : Prop :=
  g.status = .running ∧ ∃ es, (∀ e ∈ es, EvM E.Own E.Still e) ∧ (∀ w₁, E.RM w w₁ → stepG E.P true g w₁ = .comm (core g) #[rcase E.cd E.ze] true (.recv false) w₁ es) ∧
    ∀ w₁ i st e, E.RM w w₁ → r ≤ i → i ≤ r + E.room → (X = true → i = r) → (S = false → st = false) → E.End i st e w₁ → Fin (Conc.served (core g) e) w₁

def StopM (Fin : GW) (K : Nat → Bool → Bool → GW) (r : Nat) (X S : Bool) (g : Goroutine) (w : World) : Prop :=
  (X = false ∧ S = false ∧ AtTake E r (K (r + 1) false false) (K r true false) g w) ∨ (X = false ∧ S = false ∧ AtShutS E (K r false true) g w) ∨ ((X = true ∨ S = true) ∧ AtHear E r X S Fin g w)
/-- Goroutine 0's script, by fuel: how many were taken, whether it found ci closed, whether it closed cs. -/
def MS (Fin : GW) : Nat → Nat → Bool → Bool → GW
  | 0, _, _, _, _, _ => False
  | k + 1, r, X, S, g, w => Ev E.P true E.RM (DM E) (StopM E Fin (MS Fin k) r X S) g w

/-- What lies in the buffer. -/
def Env.buf (r i : Nat) : Array Value := ((List.range' r (i - r)).map E.f).toArray
end

section
variable {E : Env} (O : E.Ok)
include O

theorem AtPut.rely {i : Nat} {next yes : GW} {g : Goroutine} {w w₁ : World} (h : AtPut E i next yes g w) (hr : E.RP w w₁) : AtPut E i next yes g w₁ := by
  obtain ⟨h1, h2, es, h3, h4, h5, h6⟩ := h
  exact ⟨h1, h2, es, h3, fun w₂ h => h4 w₂ (O.rpT _ _ _ hr h), fun w₂ h => h5 w₂ (O.rpT _ _ _ hr h), fun w₂ h => h6 w₂ (O.rpT _ _ _ hr h)⟩
theorem AtTake.rely {r : Nat} {val fin : GW} {g : Goroutine} {w w₁ : World} (h : AtTake E r val fin g w) (hr : E.RM w w₁) : AtTake E r val fin g w₁ := by
  obtain ⟨h1, h0, es, h3, h4, h5, h6⟩ := h
  exact ⟨h1, h0, es, h3, fun w₂ h => h4 w₂ (O.rmT _ _ _ hr h), fun w₂ h => h5 w₂ (O.rmT _ _ _ hr h), fun w₂ h => h6 w₂ (O.rmT _ _ _ hr h)⟩
theorem AtHear.rely {r : Nat} {X S : Bool} {Fin : GW} {g : Goroutine} {w w₁ : World} (h : AtHear E r X S Fin g w) (hr : E.RM w w₁) : AtHear E r X S Fin g w₁ := by
  obtain ⟨h1, es, h3, h4, h5⟩ := h
  exact ⟨h1, es, h3, fun w₂ h => h4 w₂ (O.rmT _ _ _ hr h), fun w₂ i st e h => h5 w₂ i st e (O.rmT _ _ _ hr h)⟩
/-- Whoever was parked and is let try again. -/
def tried (g : Goroutine) (cs : Array CommCase) (sh : CommShape) : Goroutine := { parked (core g) cs sh with status := .running }
omit O in
theorem tried_step (P : Program) (main : Bool) (g : Goroutine) (cs : Array CommCase) (sh : CommShape) (w : World) : stepG P main (tried g cs sh) w = stepG P main g w := stepG_same rfl rfl rfl w
omit O in
theorem tried_core (g : Goroutine) (cs : Array CommCase) (sh : CommShape) : core (tried g cs sh) = core g := rfl
omit O in
theorem AtPut.again {i : Nat} {next yes : GW} {g : Goroutine} {w : World} {cs : Array CommCase} {sh : CommShape} (h : AtPut E i next yes g w) : AtPut E i next yes (tried g cs sh) w := by
  obtain ⟨h1, h2, es, h3, h4, h5, h6⟩ := h
  exact ⟨rfl, h2, es, h3, fun w₂ h => (tried_step _ _ _ _ _ _).trans (h4 w₂ h), h5, h6⟩
omit O in
theorem AtTake.again {r : Nat} {val fin : GW} {g : Goroutine} {w : World} {cs : Array CommCase} {sh : CommShape} (h : AtTake E r val fin g w) : AtTake E r val fin (tried g cs sh) w := by
  obtain ⟨h1, h0, es, h3, h4, h5, h6⟩ := h
  exact ⟨rfl, h0, es, h3, fun w₂ h => (tried_step _ _ _ _ _ _).trans (h4 w₂ h), h5, h6⟩

omit O in
theorem buf_nil (r : Nat) : E.buf r r = #[] := by simp [Env.buf]
omit O in
theorem buf_size (r i : Nat) : (E.buf r i).size = i - r := by simp [Env.buf]
omit O in
theorem buf_push {r i : Nat} (h : r ≤ i) : (E.buf r i).push (E.f i) = E.buf r (i + 1) := by
  have e : i + 1 - r = (i - r) + 1 := by omega
  simp only [Env.buf, e, List.range'_concat]
  have e2 : r + (i - r) = i := by omega
  simp [e2]
omit O in
theorem buf_head {r i : Nat} (h : r < i) : (E.buf r i).getD 0 undef = E.f r := by
  obtain ⟨k, rfl⟩ : ∃ k, i = r + (k + 1) := ⟨i - r - 1, by omega⟩
  simp [Env.buf, List.range'_succ]
omit O in
theorem buf_tail {r i : Nat} (h : r < i) : (E.buf r i).extract 1 (E.buf r i).size = E.buf (r + 1) i := by
  obtain ⟨k, rfl⟩ : ∃ k, i = r + (k + 1) := ⟨i - r - 1, by omega⟩
  have e : r + (k + 1) - (r + 1) = k := by omega
  apply Array.ext'
  simp [Env.buf, List.range'_succ, e]
  exact List.take_of_length_le (by simp)
end

#print axioms buf_tail
end Go.Pmp
