import Derived.Test.YtnbfmbkglkjhmaaPmG
set_option linter.unusedSimpArgs false
set_option linter.unusedVariables false
set_option linter.unusedSectionVars false
namespace Go.Pmp
open Go.Conc
open Go.ConcN (sumTo upd sumTo_upd upd_ne upd_same)

section
variable {E : Env} {Fin : GW} (O : E.Ok)
include O
variable {km kp r i : Nat} {X S st XI : Bool} {rm rp : Mu} {a b : Goroutine} {gs : Array Goroutine} {w : World} {t : Trace} {q : Nat → Nat} {sl : Option (Nat × Nat)}

/-- The maker tells its last word. -/
theorem A.prodTell {k : Nat} (H : A E Fin km (k + 1) r i X S st true rm rp a b gs w t q) (h : AtTell E i st b w) :
    ∃ m' ops, runT E.P (crowd gs w sl) E.j = (.next m', ops) ∧ ((∃ K μ s, NextB E Fin K μ s m' (t ++ ops)) ∨ NextC E Fin m' (t ++ ops)) := by
  obtain ⟨hrun, e, es, n', hes, hstep, hend, hquit⟩ := h
  have hj := O.hj
  have hj0 : (E.j == 0) = false := by simpa using hj
  have hs' : stepG E.P (E.j == 0) b w = .comm (core b) #[scase E.cd e E.zd] true .send w es := by rw [hj0]; exact hstep
  have hltj := H.ltj O
  have hlt0 := H.lt0 O
  have hev : ∀ e ∈ es, Ev1 e := fun e he => (hes e he).2
  have hms := H.ms
  cases hms with
  | @hear k' _ _ _ _ _ a0 _ hxs hh =>
    obtain ⟨_, _, _, _, hfin⟩ := hh
    have hrt := crowd_send_meets (sl := sl) (j := 0) H.hb hs' H.don (Ne.symm hj) H.h0 (by rw [H.part_a O, offersAt_parked_recv]; simp)
    refine ⟨_, _, hrt, .inr ⟨Conc.served (core a0) e, _, _, sl, upd q E.j n', rfl, ⟨(s_ne hj).trans (s_self hlt0), fun y g hy hg => ?_, fun y hy => ?_, ?_⟩, hfin _ i st e (O.rmD _ _ _ _ _ _ _) H.ri H.ir (fun x => (H.hx x).2) H.hst (O.endR _ _ _ _ _ (O.rpD _ _ _ _ _ _ _) hend)⟩⟩
    · rw [deaf_com hev (by intro op hop; simp at hop; rcases hop with rfl | rfl | rfl | rfl <;> trivial)]
      by_cases ey : y = E.j
      · subst ey
        rw [s_self (by simpa using hltj)] at hg
        obtain rfl := Option.some.inj hg
        rw [upd_same, H.tw.hearsj]
        exact hquit
      · rw [s_ne (Ne.symm ey), s_ne (by omega)] at hg
        rw [upd_ne q n' ey]
        exact H.old y g hy ey hg
    · rw [deaf_com hev (by intro op hop; simp at hop; rcases hop with rfl | rfl | rfl | rfl <;> trivial)]
      exact H.above y (by simpa using hy)
    · rw [← Array.append_assoc]
      exact (H.tw.his hj hes).meet (c := E.cd) (k := 0) _ _ _ _ 1
  | @walk k' _ _ _ _ _ _ W _ h0 hg =>
    have har : a.status = .running := hg.running (fun _ _ h => StopM.running O h) (O.rmR _)
    have hrt := crowd_send_room (sl := sl) H.hb hs' H.don (by simp) (H.part_nil O (.inr (offers_run har _ _)) (.inl rfl))
    refine ⟨_, _, hrt, .inl ⟨k' + 1, none, 0, k', r, i, X, S, st, e, W, (t ++ MemOp.ofEvents E.j b.frame.fn b.frame.place es).size, a, _, _, sl, upd q E.j n', rfl, ⟨(s_ne hj).trans H.h0, by simpa using hltj, fun y g hy hg => ?_, fun y hy => ?_, ?_, (heap_setChan_ne w _ _ _ _ _ _ (Ne.symm O.h2)).trans H.items, H.ri, H.ir, H.hq,
      (heap_setChan_ne w _ _ _ _ _ _ (Ne.symm O.h3)).trans H.stp, heap_setChan_self w H.don _ _ _ _ _ _, fun e => ?_, fun x => (H.hx x).2, O.endR _ _ _ _ _ (O.rpD _ _ _ _ _ _ _) hend, O.rmT _ _ _ h0 (O.rmD _ _ _ _ _ _ _), hg⟩, .inl (by omega)⟩⟩
    · rw [deaf_com hev (by intro op hop; simp at hop; rcases hop with rfl | rfl <;> trivial)]
      by_cases ey : y = E.j
      · subst ey
        rw [s_self hltj] at hg
        obtain rfl := Option.some.inj hg
        rw [upd_same, H.tw.hearsj]
        exact hquit
      · rw [s_ne (Ne.symm ey)] at hg
        rw [upd_ne q n' ey]
        exact H.old y g hy ey hg
    · rw [deaf_com hev (by intro op hop; simp at hop; rcases hop with rfl | rfl <;> trivial)]
      exact H.above y (by simpa using hy)
    · rw [← Array.append_assoc]
      exact (H.tw.his hj hes).toSent _ _
    · cases hS : S with
      | true => rfl
      | false => rw [H.hst hS] at e; cases e

/-- Phase A, whoever moves. -/
theorem A.step (H : A E Fin km kp r i X S st XI rm rp a b gs w t q) :
    ∃ m' ops, stepT E.P (crowd gs w sl) = (.next m', ops) ∧ (NextA E Fin (km + kp) rm rp (sumTo gs.size q) m' (t ++ ops) ∨ (∃ K μ s, NextB E Fin K μ s m' (t ++ ops)) ∨ NextC E Fin m' (t ++ ops)) := by
  obtain ⟨y, g, d, sl', hy, hg, hst⟩ := crowd_pick (P := E.P) (w := w) (sl := sl) (H.awake O) (H.one.elim (fun h => ⟨0, a, H.h0, h⟩) fun h => ⟨E.j, b, H.hb, h⟩)
  have H1 := H.at O d
  rw [hst]
  have up : ∀ {K μ ν s}, (∃ m' ops, runT E.P (crowd gs (w.at d) sl') y = (.next m', ops) ∧ NextA E Fin K μ ν s m' (t ++ ops)) →
      ∃ m' ops, runT E.P (crowd gs (w.at d) sl') y = (.next m', ops) ∧ (NextA E Fin K μ ν s m' (t ++ ops) ∨ (∃ K μ s, NextB E Fin K μ s m' (t ++ ops)) ∨ NextC E Fin m' (t ++ ops)) :=
    fun ⟨m', ops, h1, h2⟩ => ⟨m', ops, h1, .inl h2⟩
  by_cases e0 : y = 0
  · subst e0
    obtain rfl : a = g := Option.some.inj (H.h0.symm.trans hy)
    have hms := H1.ms
    cases hms with
    | take h => cases hg
    | hear hxs h => cases hg
    | @walk k _ _ _ _ _ _ W _ h0 h =>
      rcases h.cases h0 with hs | ⟨g', w', es, hgo, hd, hG, hlow⟩
      · rcases hs with ⟨rfl, rfl, hs⟩ | ⟨rfl, rfl, hs⟩ | ⟨hxs, hs⟩
        · exact up (H1.mainTake O hs)
        · exact up (H1.mainShut O hs)
        · exact up (H1.mainHear O hxs hs)
      · exact up (H1.mainGo O hgo hd hG hlow)
  by_cases ej : y = E.j
  · subst ej
    obtain rfl : b = g := Option.some.inj (H.hb.symm.trans hy)
    have hps := H1.ps
    cases hps with
    | park hi h => cases hg
    | @walk k _ _ _ _ _ _ W _ h0 h =>
      rcases h.cases h0 with hs | ⟨g', w', es, hgo, hd, hG, hlow⟩
      · rcases hs with ⟨rfl, hs⟩ | ⟨rfl, hs⟩ | ⟨rfl, hs⟩ | ⟨rfl, hs⟩
        · exact up (H1.prodPoll O hs)
        · exact up (H1.prodPut O hs)
        · exact up (H1.prodShut O hs)
        · obtain ⟨m', ops, h1, h2⟩ := H1.prodTell O hs
          exact ⟨m', ops, h1, .inr h2⟩
      · exact up (H1.prodGo O hgo hd hG hlow)
  · exact up (H1.leaver O (by omega) ej hy hg)

theorem MSit.acc (h : MSit E Fin km r X S i XI rm a w) : Acc (Low E.P true E.RM) rm := by
  cases h with
  | walk h0 h => exact h.acc
  | take h => exact low_none
  | hear hxs h => exact low_none
theorem PSit.acc (h : PSit E kp i st XI S r rp b w) : Acc (Low E.P false E.RP) rp := by
  cases h with
  | walk h0 h => exact h.acc
  | park hi h => exact low_none
end
end Go.Pmp
