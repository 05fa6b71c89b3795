import Derived.Test.YtnbfmbkglkjhmaaPmD
set_option linter.unusedSimpArgs false
set_option linter.unusedVariables false
set_option linter.unusedSectionVars false
namespace Go.Pmp
open Go.Conc
open Go.ConcN (sumTo upd sumTo_upd upd_ne upd_same)

/-- An entry of a communication. -/
def IsCom (x : MemAct) : Prop := match x with | .send _ _ | .sendDone _ _ | .recv _ _ _ | .recvDone _ _ | .recvClosed _ => True | _ => False
theorem IsCom.touch {x : MemAct} (h : IsCom x) : x.touch? = none := by cases x <;> first | rfl | exact h.elim
theorem IsCom.deaf {op : MemOp} (h : IsCom op.act) (g d : Nat) : deafStep g d op = d := by
  obtain ⟨x, fn, pos, act⟩ := op
  cases act <;> first | rfl | exact h.elim

section
variable {Own Still : Loc → Prop} {j : Nat} {t u : Trace} {fn : FuncId} {pos : String} {es : Array Event}
theorem deaf_ev {x : Nat} (h : ∀ e ∈ es, Ev1 e) (y : Nat) : Deaf (t ++ MemOp.ofEvents x fn pos es) y = Deaf t y := by
  by_cases e : x = y
  · subst e; exact deaf_of_ev1 h
  · exact Deaf_other t e _ gOf
theorem deaf_com {x : Nat} (h : ∀ e ∈ es, Ev1 e) (hu : ∀ op ∈ u, IsCom op.act) (y : Nat) : Deaf (t ++ (MemOp.ofEvents x fn pos es ++ u)) y = Deaf t y := by
  rw [← Array.append_assoc, Deaf_quiet (fun op hop d => (hu op hop).deaf _ _), deaf_ev h]
theorem Twin.com0 (H : Twin Own Still j t) (hj : j ≠ 0) (h : ∀ e ∈ es, EvM Own Still e) (hu : ∀ op ∈ u, IsCom op.act) : Twin Own Still j (t ++ (MemOp.ofEvents 0 fn pos es ++ u)) := by
  rw [← Array.append_assoc]
  exact (H.own hj h).appMute (fun op hop => (hu op hop).touch) (Deaf_quiet fun op hop d => (hu op hop).deaf _ _) (Deaf_quiet fun op hop d => (hu op hop).deaf _ _)
theorem Twin.comj (H : Twin Own Still j t) (hj : j ≠ 0) (h : ∀ e ∈ es, EvP Own Still e) (hu : ∀ op ∈ u, IsCom op.act) : Twin Own Still j (t ++ (MemOp.ofEvents j fn pos es ++ u)) := by
  rw [← Array.append_assoc]
  exact (H.his hj h).appMute (fun op hop => (hu op hop).touch) (Deaf_quiet fun op hop d => (hu op hop).deaf _ _) (Deaf_quiet fun op hop d => (hu op hop).deaf _ _)
end

section
variable {E : Env} {Fin : GW} (O : E.Ok)
include O
variable {km kp r i : Nat} {X S st XI : Bool} {rm rp : Mu} {a b : Goroutine} {gs : Array Goroutine} {w : World} {t : Trace} {q : Nat → Nat} {sl : Option (Nat × Nat)}

theorem Env.Ok.rmR (w : World) : E.RM w w := O.rmAt w w.drawn
theorem Env.Ok.rpR (w : World) : E.RP w w := O.rpAt w w.drawn

theorem MSit.woken {a u u' : Goroutine} {w w' : World} (h : MSit E Fin km r X S i XI rm a w) (hi : XI = false → ∃ buf x y, w'.heap[E.ci]? = some (.chan E.room buf false x y false))
    (hd : ∃ buf x y, w'.heap[E.cd]? = some (.chan 1 buf false x y false)) : woken E.P u u' w' a = a := by
  cases h with
  | walk h0 h => exact woken_run (h.running (fun _ _ h => StopM.running O h) (O.rmR _))
  | take h => obtain ⟨_, _, _, h'⟩ := hi rfl; exact woken_recv_open _ _ h'
  | hear hxs h => obtain ⟨_, _, _, h'⟩ := hd; exact woken_recv_open _ _ h'
theorem PSit.woken {b u u' : Goroutine} {w w' : World} (h : PSit E kp i st XI S r rp b w) (hi : XI = false → S = false → (∃ buf x y, w'.heap[E.ci]? = some (.chan E.room buf false x y false)) ∧ w'.heap[E.cs]? = some (.chan 0 #[] false 0 0 false)) :
    woken E.P u u' w' b = b := by
  cases h with
  | walk h0 h => exact woken_run (h.running (fun _ _ h => StopP.running O h) (O.rpR _))
  | park hi' h => obtain ⟨⟨_, _, _, h1⟩, h2⟩ := hi rfl rfl; exact woken_put_open h1 h2

theorem MSit.ofMS {k : Nat} {g : Goroutine} {w : World} (h : MS E Fin k r X S g w) (i : Nat) (XI : Bool) : ∃ rm, MSit E Fin k r X S i XI rm g w ∧ g.status = .running := by
  cases k with
  | zero => exact h.elim
  | succ k => exact ⟨_, .walk (O.rmR w) h, Ev.running (fun _ _ h => StopM.running O h) h (O.rmR w)⟩
theorem PSit.ofPS {k : Nat} {g : Goroutine} {w : World} (h : PS E k i st XI g w) (S : Bool) (r : Nat) : ∃ rp, PSit E k i st XI S r rp g w ∧ g.status = .running := by
  cases k with
  | zero => exact h.elim
  | succ k => exact ⟨_, .walk (O.rpR w) h, Ev.running (fun _ _ h => StopP.running O h) h (O.rpR w)⟩

/-- What the maker may do where goroutine 0 has taken a step of its own that leaves the channels. -/
theorem A.lt0 (H : A E Fin km kp r i X S st XI rm rp a b gs w t q) : 0 < gs.size := (Array.getElem?_eq_some_iff.1 H.h0).1
theorem A.ltj (H : A E Fin km kp r i X S st XI rm rp a b gs w t q) : E.j < gs.size := (Array.getElem?_eq_some_iff.1 H.hb).1

/-- (1) A leaver slips. -/
theorem A.leaver (H : A E Fin km kp r i X S st XI rm rp a b gs w t q) {y : Nat} {g : Goroutine} (hy : 0 < y) (hyj : y ≠ E.j) (hg : gs[y]? = some g) (hrun : g.status = .running) :
    ∃ m' ops, runT E.P (crowd gs w sl) y = (.next m', ops) ∧ NextA E Fin (km + kp) rm rp (sumTo gs.size q) m' (t ++ ops) := by
  have hq := H.old y g hy hyj hg
  have hlt : y < gs.size := (Array.getElem?_eq_some_iff.1 hg).1
  cases hqy : q y with
  | zero => rw [hqy] at hq; rw [hq.1] at hrun; cases hrun
  | succ k =>
    rw [hqy] at hq
    rcases hq with ⟨hf, _⟩ | ⟨_, g', es, hm, hstp, hq'⟩
    · rw [hf] at hrun; cases hrun
    have hi0 : (y == 0) = false := by simp; omega
    have hrunT := runT_crowd_go (P := E.P) (sl := sl) (i := y) hg (by rw [hi0]; exact hstp w)
    have hsum : sumTo gs.size (upd q y k) + (k + 1) = sumTo gs.size q + k := by
      have := sumTo_upd q k id hlt
      simpa [hqy] using this
    refine ⟨_, _, hrunT, km, kp, r, i, X, S, st, XI, rm, rp, a, b, _, w, sl, upd q y k, rfl, ?_, .inr ⟨rfl, .inr (.inr ⟨rfl, rfl, ?_⟩)⟩⟩
    · refine { H with h0 := ?_, hb := ?_, old := ?_, above := ?_, tw := H.tw.mute (by omega) hyj hm, items := H.items }
      · rw [gms _ _ _ _ (by omega), H.h0, Option.map_some, H.ms.woken O (fun e => ⟨_, _, _, by rw [H.items, e]⟩) ⟨_, _, _, H.don⟩]
      · rw [gms _ _ _ _ hyj, H.hb, Option.map_some, H.ps.woken O fun e e' => ⟨⟨_, _, _, by rw [H.items, e]⟩, by rw [H.stp, e']⟩]
      · intro z g0 hz hzj hg0
        by_cases e : y = z
        · subst e
          rw [gms_same _ _ _ hlt] at hg0
          obtain rfl := Option.some.inj hg0
          rw [upd_same, Deaf_own]
          exact hq'
        · rw [gms _ _ _ _ e] at hg0
          obtain ⟨g1, hg1, rfl⟩ := Option.map_eq_some_iff.1 hg0
          have := H.old z g1 hz hzj hg1
          rw [woken_quitsD this, upd_ne q k (Ne.symm e), Deaf_other t e _ gOf]
          exact this
      · intro z hz
        simp at hz
        rw [Deaf_other t (by omega) _ gOf]
        exact H.above z hz
    · simp; omega
end
end Go.Pmp
