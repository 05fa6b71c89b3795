import Derived.Test.YtnbfmbkglkjhmaaPmE
set_option linter.unusedSimpArgs false
set_option linter.unusedVariables false
set_option linter.unusedSectionVars false
namespace Go.Pmp
open Go.Conc
open Go.ConcN (sumTo upd sumTo_upd upd_ne upd_same)

section
variable {gs : Array Goroutine} {x : Goroutine} {k y : Nat}
theorem s_self (h : k < gs.size) : (gs.setIfInBounds k x)[k]? = some x := Array.getElem?_setIfInBounds_self_of_lt h
theorem s_ne (h : k ≠ y) : (gs.setIfInBounds k x)[y]? = gs[y]? := Array.getElem?_setIfInBounds_ne h
end

section
variable {E : Env} {Fin : GW} (O : E.Ok)
include O
variable {km kp r i : Nat} {X S st XI : Bool} {rm rp : Mu} {a b : Goroutine} {gs : Array Goroutine} {w : World} {t : Trace} {q : Nat → Nat} {sl : Option (Nat × Nat)}

theorem A.after {a' b' : Goroutine} {gs' : Array Goroutine} {w' : World} {t' : Trace} {km' kp' r' i' : Nat} {X' S' st' XI' : Bool} {rm' rp' : Mu} (H : A E Fin km kp r i X S st XI rm rp a b gs w t q)
    (g0 : gs'[0]? = some a') (gj : gs'[E.j]? = some b') (go : ∀ y, 0 < y → y ≠ E.j → gs'[y]? = gs[y]?) (hsz : gs'.size = gs.size) (hd : ∀ y, Deaf t' y = Deaf t y) (tw : Twin E.Own E.Still E.j t')
    (items : w'.heap[E.ci]? = some (.chan E.room (E.buf r' i') XI' i' r' false)) (ri : r' ≤ i') (ir : i' ≤ r' + E.room) (rt : r' ≤ E.top) (hq : ∀ x, x < i' → E.Q x) (stp : w'.heap[E.cs]? = some (.chan 0 #[] S' 0 0 false)) (don : w'.heap[E.cd]? = some (.chan 1 #[] false 0 0 false))
    (hst : S' = false → st' = false) (hx : X' = true → XI' = true ∧ i' = r') (ms : MSit E Fin km' r' X' S' i' XI' rm' a' w') (ps : PSit E kp' i' st' XI' S' r' rp' b' w') (one : a'.status = .running ∨ b'.status = .running) :
    A E Fin km' kp' r' i' X' S' st' XI' rm' rp' a' b' gs' w' t' q :=
  ⟨g0, gj, old_set O H.old (fun y _ _ => hd y) go, fun y hy => by rw [hd]; exact H.above y (by omega), tw, items, ri, ir, rt, hq, stp, don, hst, hx, ms, ps, one⟩

/-- (2) Goroutine 0 takes a step of its own. -/
theorem A.mainGo {k : Nat} {es : Array Event} {a' : Goroutine} {w' : World} (H : A E Fin (k + 1) kp r i X S st XI rm rp a b gs w t q) (hgo : stepG E.P true a w = .go a' w' es) (hd : DM E w w' es)
    (hG : Ev E.P true E.RM (DM E) (StopM E Fin (MS E Fin k) r X S) a' w') (hlow : Low E.P true E.RM (some (StopM E Fin (MS E Fin k) r X S, a', w')) rm) :
    ∃ m' ops, runT E.P (crowd gs w sl) 0 = (.next m', ops) ∧ NextA E Fin (k + 1 + kp) rm rp (sumTo gs.size q) m' (t ++ ops) := by
  obtain ⟨hes, d1, d2, d3, d4⟩ := hd
  have hrunT := runT_crowd_go (P := E.P) (sl := sl) (i := 0) H.h0 (show stepG E.P (0 == 0) a w = _ from hgo)
  have hlt := H.lt0 O
  have hj := O.hj
  have hb' := H.ps.woken O (u := a) (u' := a') (w' := w') (fun e e' => ⟨⟨_, _, _, by rw [d1, H.items, e]⟩, by rw [d2, H.stp, e']⟩)
  have ha' : a'.status = .running := hG.running (fun _ _ h => StopM.running O h) (O.rmR w')
  have hdf : ∀ y, Deaf (t ++ MemOp.ofEvents 0 a.frame.fn a.frame.place es) y = Deaf t y := fun y => deaf_ev (fun e he => (hes e he).2) y
  refine ⟨_, _, hrunT, k + 1, kp, r, i, X, S, st, XI, some (StopM E Fin (MS E Fin k) r X S, a', w'), rp, a', b, _, w', sl, q, rfl, ?_, .inr ⟨rfl, .inl ⟨hlow, rfl⟩⟩⟩
  refine ⟨gms_same _ _ _ hlt, by rw [gms _ _ _ _ (by omega), H.hb, Option.map_some, hb'], old_go O H.old (fun y _ _ => hdf y) (.inl rfl), fun y hy => ?_, H.tw.own hj hes, by rw [d1]; exact H.items, H.ri, H.ir, H.rt, H.hq,
    by rw [d2]; exact H.stp, by rw [d3]; exact H.don, H.hst, H.hx, .walk (O.rmR w') hG, H.ps.rely O d4, .inl ha'⟩
  rw [hdf]
  exact H.above y (by simpa using hy)

/-- Goroutine 0 takes, or finds ci closed, or waits. -/
theorem A.mainTake {k : Nat} {x : GW × Goroutine × World} (H : A E Fin (k + 1) kp r i false false st XI (some x) rp a b gs w t q) (h : AtTake E r (MS E Fin k (r + 1) false false) (MS E Fin k r true false) a w) :
    ∃ m' ops, runT E.P (crowd gs w sl) 0 = (.next m', ops) ∧ NextA E Fin (k + 1 + kp) (some x) rp (sumTo gs.size q) m' (t ++ ops) := by
  have hh := h
  obtain ⟨hrun, htop, es, hes, hstep, hval, hfin⟩ := h
  have hrt0 := H.rt
  have hs' : stepG E.P (0 == 0) a w = _ := hstep w (O.rmR w)
  have hlt0 := H.lt0 O
  have hltj := H.ltj O
  have hj := O.hj
  have hps := H.ps
  have hit := H.items
  have hev : ∀ e ∈ es, Ev1 e := fun e he => (hes e he).2
  rcases Nat.lt_or_eq_of_le H.ri with hlt | heq
  · cases hps with
    | @walk k' _ _ _ _ _ _ W _ h0 hg =>
      have hbr : b.status = .running := hg.running (fun _ _ h => StopP.running O h) (O.rpR _)
      have hrt := crowd_recv_buf (sl := sl) H.h0 hs' hit (by rw [buf_size]; omega) (H.part_nil O (.inl rfl) (.inr (offers_run hbr _ _)))
      rw [buf_head hlt, buf_tail hlt] at hrt
      obtain ⟨rm', hms, har⟩ := MSit.ofMS O (hval (w.setChan E.ci E.room (E.buf (r + 1) i) XI i (r + 1) false) (O.rmI _ _ _ _ _ _ _) (H.hq r hlt)) i XI
      refine ⟨_, _, hrt, k, k' + 1, r + 1, i, false, false, st, XI, rm', some (StopP E (PS E k') i st XI, b, W), Conc.served (core a) (.tuple #[E.f r, .bool true]), b, _, _, sl, q, rfl, ?_, .inl (by omega)⟩
      exact H.after O (s_self hlt0) ((s_ne (by omega)).trans H.hb) (fun y hy _ => s_ne (by omega)) (by simp) (deaf_com hev (by intro op hop; simp at hop; rcases hop with rfl | rfl <;> trivial))
        (H.tw.com0 hj hes (by intro op hop; simp at hop; rcases hop with rfl | rfl <;> trivial)) (heap_setChan_self w hit _ _ _ _ _ _) hlt (by have := H.ir; omega) (by omega) H.hq ((heap_setChan_ne w _ _ _ _ _ _ O.h1).trans H.stp) ((heap_setChan_ne w _ _ _ _ _ _ O.h2).trans H.don) H.hst (by simp) hms
        (.walk (O.rpT _ _ _ h0 (O.rpI _ _ _ _ _ _ _)) hg) (.inl har)
    | @park k' _ _ _ b0 _ hi hput =>
      obtain ⟨_, hQ, _, _, _, hnext, _⟩ := hput
      have hrt := recv_push (sl := sl) (k := 0) H.h0 hs' hit (by rw [buf_size]; omega) hj H.hb (show (E.put i)[0]? = some (scase E.ci (E.f i) E.zp) from rfl) (by rw [H.part_b O, offers_put_send O]; rfl)
      rw [buf_head hlt, buf_tail hlt, buf_push (by omega)] at hrt
      obtain ⟨rm', hms, har⟩ := MSit.ofMS O (hval (w.setChan E.ci E.room (E.buf (r + 1) (i + 1)) false (i + 1) (r + 1) false) (O.rmI _ _ _ _ _ _ _) (H.hq r hlt)) (i + 1) false
      obtain ⟨rp', hps', hbr⟩ := PSit.ofPS O (hnext (w.setChan E.ci E.room (E.buf (r + 1) (i + 1)) false (i + 1) (r + 1) false) (O.rpI _ _ _ _ _ _ _) (by omega)) false (r + 1)
      refine ⟨_, _, hrt, k, k', r + 1, i + 1, false, false, st, false, rm', rp', Conc.served (core a) (.tuple #[E.f r, .bool true]), Conc.served (core b0) (commResult (E.put i) .select (0 : Nat) undef false), _, _, sl, q, rfl, ?_, .inl (by omega)⟩
      exact H.after O (s_self (by simpa using hlt0)) ((s_ne (by omega)).trans (s_self hltj)) (fun y hy hyj => (s_ne (by omega)).trans (s_ne (by omega))) (by simp) (deaf_com hev (by intro op hop; simp at hop; rcases hop with rfl | rfl | rfl | rfl <;> trivial))
        (H.tw.com0 hj hes (by intro op hop; simp at hop; rcases hop with rfl | rfl | rfl | rfl <;> trivial)) (heap_setChan_self w hit _ _ _ _ _ _) (by omega) (by omega) (by omega) (fun x hx => by rcases Nat.lt_or_eq_of_le (Nat.lt_succ_iff.1 hx) with h | rfl; exact H.hq x h; exact hQ)
        ((heap_setChan_ne w _ _ _ _ _ _ O.h1).trans H.stp) ((heap_setChan_ne w _ _ _ _ _ _ O.h2).trans H.don) H.hst (by simp) hms hps' (.inl har)
  · subst heq
    rw [buf_nil] at hit
    cases hps with
    | @park k' _ _ _ b0 _ hi hput =>
      obtain ⟨_, hQ, _, _, _, hnext, _⟩ := hput
      have hrt := recv_meets_sel (sl := sl) (k := 0) H.h0 hs' hit hj H.hb (show (E.put r)[0]? = some (scase E.ci (E.f r) E.zp) from rfl) (by rw [H.part_b O, offers_put_send O]; rfl)
      rw [← buf_nil (E := E) (r + 1)] at hrt
      obtain ⟨rm', hms, har⟩ := MSit.ofMS O (hval (w.setChan E.ci E.room (E.buf (r + 1) (r + 1)) false (r + 1) (r + 1) false) (O.rmI _ _ _ _ _ _ _) hQ) (r + 1) false
      obtain ⟨rp', hps', hbr⟩ := PSit.ofPS O (hnext (w.setChan E.ci E.room (E.buf (r + 1) (r + 1)) false (r + 1) (r + 1) false) (O.rpI _ _ _ _ _ _ _) (by omega)) false (r + 1)
      refine ⟨_, _, hrt, k, k', r + 1, r + 1, false, false, st, false, rm', rp', Conc.served (core a) (.tuple #[E.f r, .bool true]), Conc.served (core b0) (commResult (E.put r) .select (0 : Nat) undef false), _, _, sl, q, rfl, ?_, .inl (by omega)⟩
      exact H.after O (s_self (by simpa using hlt0)) ((s_ne (by omega)).trans (s_self hltj)) (fun y hy hyj => (s_ne (by omega)).trans (s_ne (by omega))) (by simp) (deaf_com hev (by intro op hop; simp at hop; rcases hop with rfl | rfl | rfl | rfl <;> trivial))
        (H.tw.com0 hj hes (by intro op hop; simp at hop; rcases hop with rfl | rfl | rfl | rfl <;> trivial)) (heap_setChan_self w hit _ _ _ _ _ _) (by omega) (by omega) (by omega) (fun x hx => by rcases Nat.lt_or_eq_of_le (Nat.lt_succ_iff.1 hx) with h | rfl; exact H.hq x h; exact hQ)
        ((heap_setChan_ne w _ _ _ _ _ _ O.h1).trans H.stp) ((heap_setChan_ne w _ _ _ _ _ _ O.h2).trans H.don) H.hst (by simp) hms hps' (.inl har)
    | @walk k' _ _ _ _ _ _ W _ h0 hg =>
      have hbr : b.status = .running := hg.running (fun _ _ h => StopP.running O h) (O.rpR _)
      have hpn := H.part_nil O (x := 0) (c := E.ci) (s := true) (.inl rfl) (.inr (offers_run hbr _ _))
      cases XI with
      | true =>
        have hrt := crowd_recv_closed (sl := sl) H.h0 hs' hit hpn
        obtain ⟨rm', hms, har⟩ := MSit.ofMS O (hfin w (O.rmR w)) r true
        refine ⟨_, _, hrt, k, k' + 1, r, r, true, false, st, true, rm', some (StopP E (PS E k') r st true, b, W), Conc.served (core a) (.tuple #[E.zi, .bool false]), b, _, _, sl, q, rfl, ?_, .inl (by omega)⟩
        exact H.after O (s_self hlt0) ((s_ne (by omega)).trans H.hb) (fun y hy _ => s_ne (by omega)) (by simp) (deaf_com hev (by intro op hop; simp at hop; subst hop; trivial))
          (H.tw.com0 hj hes (by intro op hop; simp at hop; subst hop; trivial)) H.items (by omega) (by omega) (by omega) H.hq H.stp H.don H.hst (fun _ => ⟨rfl, rfl⟩) hms (.walk h0 hg) (.inl har)
      | false =>
        have hrt := crowd_waits (sl := sl) H.h0 hs' (fun cc hcc => by
          simp only [List.mem_toArray, List.mem_cons, List.not_mem_nil, or_false] at hcc
          subst hcc
          exact ways_recv_none hit hpn)
        refine ⟨_, _, hrt, k + 1, k' + 1, r, r, false, false, st, false, none, some (StopP E (PS E k') r st false, b, W), parked (core a) #[rcase E.ci E.zi] (.recv true), b, _, _, sl, q, rfl, ?_, .inr ⟨rfl, .inl ⟨trivial, rfl⟩⟩⟩
        exact H.after O (s_self hlt0) ((s_ne (by omega)).trans H.hb) (fun y hy _ => s_ne (by omega)) (by simp) (deaf_ev hev) (H.tw.own hj hes) H.items (by omega) (by omega) (by omega) H.hq H.stp H.don H.hst (by simp) (.take hh) (.walk h0 hg) (.inr hbr)

theorem evM_close : ∀ e ∈ closeEvents E.cs, EvM E.Own E.Still e := by
  intro e he
  simp only [closeEvents, List.mem_toArray, List.mem_cons, List.not_mem_nil, or_false] at he
  rcases he with rfl | rfl
  · exact ⟨fun x hx => by simp [MemAct.ofEvent, MemAct.touch?] at hx; subst hx; exact ⟨O.notS.1, fun _ => rfl⟩, by simp [Ev1]⟩
  · exact ⟨fun x hx => by simp [MemAct.ofEvent, MemAct.touch?] at hx, by simp [Ev1]⟩
theorem evP_close : ∀ e ∈ closeEvents E.ci, EvP E.Own E.Still e := by
  intro e he
  simp only [closeEvents, List.mem_toArray, List.mem_cons, List.not_mem_nil, or_false] at he
  rcases he with rfl | rfl
  · exact ⟨fun x hx => by simp [MemAct.ofEvent, MemAct.touch?] at hx; subst hx; exact .inl O.ownI, by simp [Ev1]⟩
  · exact ⟨fun x hx => by simp [MemAct.ofEvent, MemAct.touch?] at hx, by simp [Ev1]⟩

/-- Goroutine 0 tells the maker to stop. -/
theorem A.mainShut {k : Nat} {x : GW × Goroutine × World} (H : A E Fin (k + 1) kp r i false false st XI (some x) rp a b gs w t q) (h : AtShutS E (MS E Fin k r false true) a w) :
    ∃ m' ops, runT E.P (crowd gs w sl) 0 = (.next m', ops) ∧ NextA E Fin (k + 1 + kp) (some x) rp (sumTo gs.size q) m' (t ++ ops) := by
  obtain ⟨hrun, hwake, a', ha', hstep, hnext⟩ := h
  have hlt := H.lt0 O
  have hj := O.hj
  have hrunT := runT_crowd_go (P := E.P) (sl := sl) (i := 0) H.h0 (show stepG E.P (0 == 0) a w = _ from hstep H.stp)
  have hes := evM_close O
  have hdf : ∀ y, Deaf (t ++ MemOp.ofEvents 0 a.frame.fn a.frame.place (closeEvents E.cs)) y = Deaf t y := fun y => deaf_ev (fun e he => (hes e he).2) y
  obtain ⟨rm', hms, _⟩ := MSit.ofMS O hnext i XI
  have hcs : (w.setChan E.cs 0 #[] true 0 0 false).heap[E.cs]? = some (.chan 0 #[] true 0 0 false) := heap_setChan_self w H.stp _ _ _ _ _ _
  obtain ⟨kp', rp', b', hb', hps', hbr, hkp⟩ : ∃ kp' rp' b', woken E.P a a' (w.setChan E.cs 0 #[] true 0 0 false) b = b' ∧ PSit E kp' i st XI true r rp' b' (w.setChan E.cs 0 #[] true 0 0 false) ∧ True ∧ kp' = kp := by
    have hps := H.ps
    cases hps with
    | @walk k' _ _ _ _ _ _ W _ h0 hg => exact ⟨_, _, b, woken_run (hg.running (fun _ _ h => StopP.running O h) (O.rpR _)), .walk (O.rpT _ _ _ h0 (O.rpS _ _ _ _ _ _ _)) hg, trivial, rfl⟩
    | @park k' _ _ _ b0 _ hi hput =>
      refine ⟨_, _, tried b0 (E.put i) .select, ?_, .walk (O.rpR _) (.stop fun w₁ h₁ => .inr (.inl ⟨rfl, (AtPut.rely O hput (O.rpT _ _ _ (O.rpS _ _ _ _ _ _ _) h₁)).again⟩)), trivial, rfl⟩
      unfold woken
      rw [if_pos (by simp [hwake, ha'])]
      simp [Goroutine.again, parked, Env.put, scase, rcase, hcs, tried]
  subst hkp
  refine ⟨_, _, hrunT, k, kp', r, i, false, true, st, XI, rm', rp', a', b', _, _, sl, q, rfl, ?_, .inl (by omega)⟩
  refine ⟨gms_same _ _ _ hlt, by rw [gms _ _ _ _ (by omega), H.hb, Option.map_some, hb'], old_go O H.old (fun y _ _ => hdf y) (.inl rfl), fun y hy => ?_, H.tw.own hj hes, (heap_setChan_ne w _ _ _ _ _ _ (Ne.symm O.h1)).trans H.items, H.ri, H.ir, H.rt, H.hq,
    hcs, (heap_setChan_ne w _ _ _ _ _ _ O.h3).trans H.don, by simp, by simp, hms, hps', .inl ha'⟩
  rw [hdf]
  exact H.above y (by simpa using hy)

/-- Goroutine 0 waits for the maker's last word. -/
theorem A.mainHear {k : Nat} {x : GW × Goroutine × World} (H : A E Fin (k + 1) kp r i X S st XI (some x) rp a b gs w t q) (hxs : X = true ∨ S = true) (h : AtHear E r X S Fin a w) :
    ∃ m' ops, runT E.P (crowd gs w sl) 0 = (.next m', ops) ∧ NextA E Fin (k + 1 + kp) (some x) rp (sumTo gs.size q) m' (t ++ ops) := by
  have hh := h
  obtain ⟨hrun, es, hes, hstep, _⟩ := h
  have hs' : stepG E.P (0 == 0) a w = _ := hstep w (O.rmR w)
  have hlt0 := H.lt0 O
  have hj := O.hj
  have hps := H.ps
  have hev : ∀ e ∈ es, Ev1 e := fun e he => (hes e he).2
  have hbr : b.status = .running := by
    cases hps with
    | walk h0 hg => exact hg.running (fun _ _ h => StopP.running O h) (O.rpR _)
    | park hi hput =>
      rcases hxs with e | e
      · have := (H.hx e).1; cases this
      · cases e
  have hrt := crowd_waits (sl := sl) H.h0 hs' (fun cc hcc => by
    simp only [List.mem_toArray, List.mem_cons, List.not_mem_nil, or_false] at hcc
    subst hcc
    exact ways_recv_none H.don (H.part_nil O (.inl rfl) (.inr (offers_run hbr _ _))))
  refine ⟨_, _, hrt, k + 1, kp, r, i, X, S, st, XI, none, rp, parked (core a) #[rcase E.cd E.ze] (.recv false), b, _, _, sl, q, rfl, ?_, .inr ⟨rfl, .inl ⟨trivial, rfl⟩⟩⟩
  exact H.after O (s_self hlt0) ((s_ne (by omega)).trans H.hb) (fun y hy _ => s_ne (by omega)) (by simp) (deaf_ev hev) (H.tw.own hj hes) H.items H.ri H.ir H.rt H.hq H.stp H.don H.hst H.hx (.hear hxs hh) H.ps (.inr hbr)
end
end Go.Pmp
