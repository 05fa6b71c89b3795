import Derived.Test.YtnbfmbkglkjhmaaPmF
set_option linter.unusedSimpArgs false
set_option linter.unusedVariables false
set_option linter.unusedSectionVars false
namespace Go.Pmp
open Go.Conc
open Go.ConcN (sumTo upd sumTo_upd upd_ne upd_same)

section
variable {E : Env} {Fin : GW} (O : E.Ok)
include O
variable {km kp r i : Nat} {X S st XI : Bool} {rm rp : Mu} {a b : Goroutine} {gs : Array Goroutine} {w : World} {t : Trace} {q : Nat → Nat} {sl : Option (Nat × Nat)}

/-- (3) The maker takes a step of its own. -/
theorem A.prodGo {k : Nat} {es : Array Event} {b' : Goroutine} {w' : World} (H : A E Fin km (k + 1) r i X S st XI rm rp a b gs w t q) (hgo : stepG E.P false b w = .go b' w' es) (hd : DP E w w' es)
    (hG : Ev E.P false E.RP (DP E) (StopP E (PS E k) i st XI) b' w') (hlow : Low E.P false E.RP (some (StopP E (PS E k) i st XI, b', w')) rp) :
    ∃ m' ops, runT E.P (crowd gs w sl) E.j = (.next m', ops) ∧ NextA E Fin (km + (k + 1)) rm rp (sumTo gs.size q) m' (t ++ ops) := by
  obtain ⟨hes, d1, d2, d3, d4⟩ := hd
  have hj := O.hj
  have hj0 : (E.j == 0) = false := by simpa using hj
  have hrunT := runT_crowd_go (P := E.P) (sl := sl) (i := E.j) H.hb (by rw [hj0]; exact hgo)
  have hlt := H.ltj O
  have ha' := H.ms.woken O (u := b) (u' := b') (w' := w') (fun e => ⟨_, _, _, by rw [d1, H.items, e]⟩) ⟨_, _, _, by rw [d3]; exact H.don⟩
  have hb' : b'.status = .running := hG.running (fun _ _ h => StopP.running O h) (O.rpR w')
  have hdf : ∀ y, Deaf (t ++ MemOp.ofEvents E.j b.frame.fn b.frame.place es) y = Deaf t y := fun y => deaf_ev (fun e he => (hes e he).2) y
  refine ⟨_, _, hrunT, km, k + 1, r, i, X, S, st, XI, rm, some (StopP E (PS E k) i st XI, b', w'), a, b', _, w', sl, q, rfl, ?_, .inr ⟨rfl, .inr (.inl ⟨rfl, hlow⟩)⟩⟩
  refine ⟨by rw [gms _ _ _ _ hj, H.h0, Option.map_some, ha'], gms_same _ _ _ hlt, old_go O H.old (fun y _ _ => hdf y) (.inr rfl), fun y hy => ?_, H.tw.his hj hes, by rw [d1]; exact H.items, H.ri, H.ir, H.rt, H.hq,
    by rw [d2]; exact H.stp, by rw [d3]; exact H.don, H.hst, H.hx, H.ms.rely O d4, .walk (O.rpR w') hG, .inr hb'⟩
  rw [hdf]
  exact H.above y (by simpa using hy)

/-- The maker looks whether it is stopped. -/
theorem A.prodPoll {k : Nat} {x : GW × Goroutine × World} (H : A E Fin km (k + 1) r i X S st false rm (some x) a b gs w t q) (h : AtPoll E (PS E k i true false) (PS E k i st false) b w) :
    ∃ m' ops, runT E.P (crowd gs w sl) E.j = (.next m', ops) ∧ NextA E Fin (km + (k + 1)) rm (some x) (sumTo gs.size q) m' (t ++ ops) := by
  obtain ⟨hrun, es, hes, hstep, hyes, hno⟩ := h
  have hj := O.hj
  have hj0 : (E.j == 0) = false := by simpa using hj
  have hs' : stepG E.P (E.j == 0) b w = .comm (core b) #[rcase E.cs E.zs] false .select w es := by rw [hj0]; exact hstep
  have hltj := H.ltj O
  have hev : ∀ e ∈ es, Ev1 e := fun e he => (hes e he).2
  have hX : X = false := by
    cases X with
    | true => have := (H.hx rfl).1; cases this
    | false => rfl
  subst hX
  have hoff : offersAt a E.cs true = [] := by
    have := H.ms
    cases this with
    | walk h0 h => exact offers_run (h.running (fun _ _ h => StopM.running O h) (O.rmR _)) _ _
    | take h => exact offersAt_parked_recv' _ _ _ _ _
    | hear _ h => exact offersAt_parked_recv' _ _ _ _ _
  have hpn := H.part_nil O (x := E.j) (c := E.cs) (s := true) (.inr hoff) (.inl rfl)
  have hstp := H.stp
  cases S with
  | false =>
    have hrt := crowd_default (sl := sl) H.hb hs' (fun cc hcc => by
      simp only [List.mem_toArray, List.mem_cons, List.not_mem_nil, or_false] at hcc
      subst hcc
      exact ways_recv_none hstp hpn)
    obtain ⟨rp', hps', hbr⟩ := PSit.ofPS O (hno w (O.rpR w)) false r
    refine ⟨_, _, hrt, km, k, r, i, false, false, st, false, rm, rp', a, Conc.served (core b) (commResult #[rcase E.cs E.zs] .select (-1) undef false), _, _, sl, q, rfl, ?_, .inl (by omega)⟩
    exact H.after O ((s_ne hj).trans H.h0) (s_self hltj) (fun y _ hyj => s_ne (Ne.symm hyj)) (by simp) (deaf_ev hev) (H.tw.his hj hes) H.items H.ri H.ir H.rt H.hq H.stp H.don H.hst (by simp) H.ms hps' (.inr hbr)
  | true =>
    have hrt := crowd_recv_closed (sl := sl) H.hb hs' hstp hpn
    obtain ⟨rp', hps', hbr⟩ := PSit.ofPS O (hyes w (O.rpR w)) true r
    refine ⟨_, _, hrt, km, k, r, i, false, true, true, false, rm, rp', a, Conc.served (core b) (commResult #[rcase E.cs E.zs] .select (0 : Nat) E.zs false), _, _, sl, q, rfl, ?_, .inl (by omega)⟩
    exact H.after O ((s_ne hj).trans H.h0) (s_self hltj) (fun y _ hyj => s_ne (Ne.symm hyj)) (by simp) (deaf_com hev (by intro op hop; simp at hop; subst hop; trivial))
      (H.tw.comj hj hes (by intro op hop; simp at hop; subst hop; trivial)) H.items H.ri H.ir H.rt H.hq H.stp H.don (by simp) (by simp) H.ms hps' (.inr hbr)

omit O in
theorem put_other {i m : Nat} {c' : CommCase} (hm : m ≠ 0) (hc : (E.put i)[m]? = some c') : c' = rcase E.cs E.zs := by
  rcases m with _ | _ | m
  · exact absurd rfl hm
  · simp [Env.put] at hc; exact hc.symm
  · simp [Env.put] at hc
omit O in
theorem put_first {i m : Nat} {c' : CommCase} (hm : m ≠ 1) (hc : (E.put i)[m]? = some c') : c' = scase E.ci (E.f i) E.zp := by
  rcases m with _ | _ | m
  · simp [Env.put] at hc; exact hc.symm
  · exact absurd rfl hm
  · simp [Env.put] at hc

/-- The maker puts, or is stopped, or waits. -/
theorem A.prodPut {k : Nat} {x : GW × Goroutine × World} (H : A E Fin km (k + 1) r i X S st false rm (some x) a b gs w t q) (h : AtPut E i (PS E k (i + 1) st false) (PS E k i true false) b w) :
    ∃ m' ops, runT E.P (crowd gs w sl) E.j = (.next m', ops) ∧ NextA E Fin (km + (k + 1)) rm (some x) (sumTo gs.size q) m' (t ++ ops) := by
  have hh := h
  obtain ⟨hrun, hQ, es, hes, hstep, hnext, hyes⟩ := h
  have hj := O.hj
  have hj0 : (E.j == 0) = false := by simpa using hj
  have hs' : stepG E.P (E.j == 0) b w = .comm (core b) (E.put i) true .select w es := by rw [hj0]; exact hstep w (O.rpR w)
  have hltj := H.ltj O
  have hlt0 := H.lt0 O
  have hev : ∀ e ∈ es, Ev1 e := fun e he => (hes e he).2
  have hX : X = false := by
    cases X with
    | true => have := (H.hx rfl).1; cases this
    | false => rfl
  subst hX
  have hq' : ∀ x, x < i + 1 → E.Q x := fun x hx => by
    rcases Nat.lt_or_eq_of_le (Nat.lt_succ_iff.1 hx) with h | rfl
    · exact H.hq x h
    · exact hQ
  have hms := H.ms
  have hstp := H.stp
  have hri := H.ri
  have hir := H.ir
  have hrt0 := H.rt
  cases S with
  | false =>
    have hoffs : offersAt a E.cs true = [] := by
      cases hms with
      | walk h0 h => exact offers_run (h.running (fun _ _ h => StopM.running O h) (O.rmR _)) _ _
      | take h => exact offersAt_parked_recv' _ _ _ _ _
      | hear hxs h => simp at hxs
    have hpns := H.part_nil O (x := E.j) (c := E.cs) (s := true) (.inr hoffs) (.inl rfl)
    cases hms with
    | hear hxs h => simp at hxs
    | @take k' _ a0 _ htake =>
      obtain ⟨_, htop, _, _, _, hval, _⟩ := htake
      have hrt := sel_send_meets (sl := sl) (k := 0) (j := 0) H.hb hs' (show (E.put r)[0]? = some (scase E.ci (E.f r) E.zp) from rfl) (fun m c' hm hc => by rw [put_other hm hc]; exact ways_recv_none hstp hpns) H.items (Ne.symm hj) H.h0
        (by rw [H.part_a O, offersAt_parked_recv]; simp)
      rw [buf_nil, ← buf_nil (E := E) (r + 1)] at hrt
      obtain ⟨rm', hms', har⟩ := MSit.ofMS O (hval (w.setChan E.ci E.room (E.buf (r + 1) (r + 1)) false (r + 1) (r + 1) false) (O.rmI _ _ _ _ _ _ _) hQ) (r + 1) false
      obtain ⟨rp', hps', hbr⟩ := PSit.ofPS O (hnext (w.setChan E.ci E.room (E.buf (r + 1) (r + 1)) false (r + 1) (r + 1) false) (O.rpI _ _ _ _ _ _ _) (by omega)) false (r + 1)
      refine ⟨_, _, hrt, k', k, r + 1, r + 1, false, false, st, false, rm', rp', Conc.served (core a0) (.tuple #[E.f r, .bool true]), Conc.served (core b) (commResult (E.put r) .select (0 : Nat) undef false), _, _, sl, q, rfl, ?_, .inl (by omega)⟩
      exact H.after O ((s_ne hj).trans (s_self hlt0)) (s_self (by simpa using hltj)) (fun y hy hyj => (s_ne (Ne.symm hyj)).trans (s_ne (by omega))) (by simp) (deaf_com hev (by intro op hop; simp at hop; rcases hop with rfl | rfl | rfl | rfl <;> trivial))
        (H.tw.comj hj hes (by intro op hop; simp at hop; rcases hop with rfl | rfl | rfl | rfl <;> trivial)) (heap_setChan_self w H.items _ _ _ _ _ _) (by omega) (by omega) (by omega) hq' ((heap_setChan_ne w _ _ _ _ _ _ O.h1).trans H.stp) ((heap_setChan_ne w _ _ _ _ _ _ O.h2).trans H.don) H.hst (by simp) hms' hps' (.inl har)
    | @walk k' _ _ _ _ _ _ W _ h0 hg =>
      have har : a.status = .running := hg.running (fun _ _ h => StopM.running O h) (O.rmR _)
      have hpni := H.part_nil O (x := E.j) (c := E.ci) (s := false) (.inr (offers_run har _ _)) (.inl rfl)
      rcases Nat.lt_or_ge i (r + E.room) with hroom | hfull
      · have hrt := crowd_sel_send_room (sl := sl) (k := 0) H.hb hs' (show (E.put i)[0]? = some (scase E.ci (E.f i) E.zp) from rfl) (fun m c' hm hc => by rw [put_other hm hc]; exact ways_recv_none hstp hpns) H.items (by rw [buf_size]; omega) hpni
        rw [buf_push hri] at hrt
        obtain ⟨rp', hps', hbr⟩ := PSit.ofPS O (hnext (w.setChan E.ci E.room (E.buf r (i + 1)) false (i + 1) r false) (O.rpI _ _ _ _ _ _ _) (by omega)) false r
        refine ⟨_, _, hrt, k' + 1, k, r, i + 1, false, false, st, false, some (StopM E Fin (MS E Fin k') r false false, a, W), rp', a, Conc.served (core b) (commResult (E.put i) .select (0 : Nat) undef false), _, _, sl, q, rfl, ?_, .inl (by omega)⟩
        exact H.after O ((s_ne hj).trans H.h0) (s_self hltj) (fun y _ hyj => s_ne (Ne.symm hyj)) (by simp) (deaf_com hev (by intro op hop; simp at hop; rcases hop with rfl | rfl <;> trivial))
          (H.tw.comj hj hes (by intro op hop; simp at hop; rcases hop with rfl | rfl <;> trivial)) (heap_setChan_self w H.items _ _ _ _ _ _) (by omega) (by omega) (by omega) hq' ((heap_setChan_ne w _ _ _ _ _ _ O.h1).trans H.stp) ((heap_setChan_ne w _ _ _ _ _ _ O.h2).trans H.don) H.hst (by simp)
          (.walk (O.rmT _ _ _ h0 (O.rmI _ _ _ _ _ _ _)) hg) hps' (.inr hbr)
      · have hrt := crowd_waits (sl := sl) H.hb hs' (fun cc hcc => by
          simp only [Env.put, List.mem_toArray, List.mem_cons, List.not_mem_nil, or_false] at hcc
          rcases hcc with rfl | rfl
          · exact ways_send_none H.items (by rw [buf_size]; omega) hpni
          · exact ways_recv_none hstp hpns)
        refine ⟨_, _, hrt, k' + 1, k + 1, r, i, false, false, st, false, some (StopM E Fin (MS E Fin k') r false false, a, W), none, a, parked (core b) (E.put i) .select, _, _, sl, q, rfl, ?_, .inr ⟨rfl, .inr (.inl ⟨rfl, trivial⟩)⟩⟩
        exact H.after O ((s_ne hj).trans H.h0) (s_self hltj) (fun y _ hyj => s_ne (Ne.symm hyj)) (by simp) (deaf_ev hev) (H.tw.his hj hes) H.items H.ri H.ir H.rt H.hq H.stp H.don H.hst (by simp) (.walk h0 hg) (.park (by omega) hh) (.inl har)
  | true =>
    have hoffs : offersAt a E.cs true = [] ∧ offersAt a E.ci false = [] := by
      cases hms with
      | walk h0 h => exact ⟨offers_run (h.running (fun _ _ h => StopM.running O h) (O.rmR _)) _ _, offers_run (h.running (fun _ _ h => StopM.running O h) (O.rmR _)) _ _⟩
      | hear hxs h => exact ⟨offersAt_parked_recv' _ _ _ _ _, by rw [offersAt_parked_recv, if_neg (Ne.symm O.h2)]⟩
    have hpns := H.part_nil O (x := E.j) (c := E.cs) (s := true) (.inr hoffs.1) (.inl rfl)
    have hpni := H.part_nil O (x := E.j) (c := E.ci) (s := false) (.inr hoffs.2) (.inl rfl)
    rcases Nat.lt_or_ge i (r + E.room) with hroom | hfull
    · obtain ⟨d, hrt⟩ := sel_two (sl := sl) H.hb hs' H.items (by rw [buf_size]; omega) hpni hstp hpns
      have H1 := H.at O d
      rcases hrt with hrt | hrt
      · rw [buf_push hri] at hrt
        obtain ⟨rp', hps', hbr⟩ := PSit.ofPS O (hnext ((w.at d).setChan E.ci E.room (E.buf r (i + 1)) false (i + 1) r false) (O.rpT _ _ _ (O.rpAt w d) (O.rpI _ _ _ _ _ _ _)) (by omega)) true r
        refine ⟨_, _, hrt, km, k, r, i + 1, false, true, st, false, rm, rp', a, Conc.served (core b) (commResult (E.put i) .select (0 : Nat) undef false), _, _, sl, q, rfl, ?_, .inl (by omega)⟩
        have hms' : MSit E Fin km r false true (i + 1) false rm a ((w.at d).setChan E.ci E.room (E.buf r (i + 1)) false (i + 1) r false) := by
          have := H1.ms
          cases this with
          | walk h0 h => exact .walk (O.rmT _ _ _ h0 (O.rmI _ _ _ _ _ _ _)) h
          | hear hxs h => exact .hear hxs (AtHear.rely O h (O.rmI _ _ _ _ _ _ _))
        exact H1.after O ((s_ne hj).trans H.h0) (s_self hltj) (fun y _ hyj => s_ne (Ne.symm hyj)) (by simp) (deaf_com hev (by intro op hop; simp at hop; rcases hop with rfl | rfl <;> trivial))
          (H.tw.comj hj hes (by intro op hop; simp at hop; rcases hop with rfl | rfl <;> trivial)) (heap_setChan_self _ H1.items _ _ _ _ _ _) (by omega) (by omega) (by omega) hq' ((heap_setChan_ne _ _ _ _ _ _ _ O.h1).trans H1.stp) ((heap_setChan_ne _ _ _ _ _ _ _ O.h2).trans H1.don) (by simp) (by simp)
          hms' hps' (.inr hbr)
      · obtain ⟨rp', hps', hbr⟩ := PSit.ofPS O (hyes (w.at d) (O.rpAt w d)) true r
        refine ⟨_, _, hrt, km, k, r, i, false, true, true, false, rm, rp', a, Conc.served (core b) (commResult (E.put i) .select (1 : Nat) E.zs false), _, _, sl, q, rfl, ?_, .inl (by omega)⟩
        exact H1.after O ((s_ne hj).trans H.h0) (s_self hltj) (fun y _ hyj => s_ne (Ne.symm hyj)) (by simp) (deaf_com hev (by intro op hop; simp at hop; subst hop; trivial))
          (H.tw.comj hj hes (by intro op hop; simp at hop; subst hop; trivial)) H1.items H.ri H.ir H.rt H.hq H1.stp H1.don (by simp) (by simp) H1.ms hps' (.inr hbr)
    · have hrt := crowd_sel_recv_closed (sl := sl) (k := 1) H.hb hs' (show (E.put i)[1]? = some (rcase E.cs E.zs) from rfl) (fun m c' hm hc => by rw [put_first hm hc]; exact ways_send_none H.items (by rw [buf_size]; omega) hpni) hstp hpns
      obtain ⟨rp', hps', hbr⟩ := PSit.ofPS O (hyes w (O.rpR w)) true r
      refine ⟨_, _, hrt, km, k, r, i, false, true, true, false, rm, rp', a, Conc.served (core b) (commResult (E.put i) .select (1 : Nat) E.zs false), _, _, sl, q, rfl, ?_, .inl (by omega)⟩
      exact H.after O ((s_ne hj).trans H.h0) (s_self hltj) (fun y _ hyj => s_ne (Ne.symm hyj)) (by simp) (deaf_com hev (by intro op hop; simp at hop; subst hop; trivial))
        (H.tw.comj hj hes (by intro op hop; simp at hop; subst hop; trivial)) H.items H.ri H.ir H.rt H.hq H.stp H.don (by simp) (by simp) H.ms hps' (.inr hbr)

/-- The maker closes ci. -/
theorem A.prodShut {k : Nat} {x : GW × Goroutine × World} (H : A E Fin km (k + 1) r i X S st false rm (some x) a b gs w t q) (h : AtShutI E (PS E k i st true) b w) :
    ∃ m' ops, runT E.P (crowd gs w sl) E.j = (.next m', ops) ∧ NextA E Fin (km + (k + 1)) rm (some x) (sumTo gs.size q) m' (t ++ ops) := by
  obtain ⟨hrun, hwake, b', hb', hstep, hnext⟩ := h
  have hlt := H.ltj O
  have hj := O.hj
  have hj0 : (E.j == 0) = false := by simpa using hj
  have hrunT := runT_crowd_go (P := E.P) (sl := sl) (i := E.j) H.hb (by rw [hj0]; exact hstep _ _ _ H.items)
  have hes := evP_close O
  have hdf : ∀ y, Deaf (t ++ MemOp.ofEvents E.j b.frame.fn b.frame.place (closeEvents E.ci)) y = Deaf t y := fun y => deaf_ev (fun e he => (hes e he).2) y
  have hX : X = false := by
    cases X with
    | true => have := (H.hx rfl).1; cases this
    | false => rfl
  subst hX
  obtain ⟨rp', hps, hbr⟩ := PSit.ofPS O (hnext (w.setChan E.ci E.room (E.buf r i) true i r false) (O.rpI _ _ _ _ _ _ _)) S r
  have hci : (w.setChan E.ci E.room (E.buf r i) true i r false).heap[E.ci]? = some (.chan E.room (E.buf r i) true i r false) := heap_setChan_self w H.items _ _ _ _ _ _
  have hdon : (w.setChan E.ci E.room (E.buf r i) true i r false).heap[E.cd]? = some (.chan 1 #[] false 0 0 false) := (heap_setChan_ne w _ _ _ _ _ _ O.h2).trans H.don
  obtain ⟨rm', a', ha', hms'⟩ : ∃ rm' a', woken E.P b b' (w.setChan E.ci E.room (E.buf r i) true i r false) a = a' ∧ MSit E Fin km r false S i true rm' a' (w.setChan E.ci E.room (E.buf r i) true i r false) := by
    have hms := H.ms
    cases hms with
    | walk h0 hg => exact ⟨_, a, woken_run (hg.running (fun _ _ h => StopM.running O h) (O.rmR _)), .walk (O.rmT _ _ _ h0 (O.rmI _ _ _ _ _ _ _)) hg⟩
    | @take k' _ a0 _ htake =>
      refine ⟨_, tried a0 #[rcase E.ci E.zi] (.recv true), ?_, .walk (O.rmR _) (.stop fun w₁ h₁ => .inl ⟨rfl, rfl, (AtTake.rely O htake (O.rmT _ _ _ (O.rmI _ _ _ _ _ _ _) h₁)).again⟩)⟩
      unfold woken
      rw [if_pos (by simp [hwake, hb'])]
      exact again_recv_closed hci
    | hear hxs h => exact ⟨none, _, woken_recv_open _ _ hdon, .hear hxs (AtHear.rely O h (O.rmI _ _ _ _ _ _ _))⟩
  refine ⟨_, _, hrunT, km, k, r, i, false, S, st, true, rm', rp', a', b', _, _, sl, q, rfl, ?_, .inl (by omega)⟩
  refine ⟨by rw [gms _ _ _ _ hj, H.h0, Option.map_some, ha'], gms_same _ _ _ hlt, old_go O H.old (fun y _ _ => hdf y) (.inr rfl), fun y hy => ?_, H.tw.his hj hes, hci, H.ri, H.ir, H.rt, H.hq,
    (heap_setChan_ne w _ _ _ _ _ _ O.h1).trans H.stp, hdon, H.hst, by simp, hms', hps, .inr hb'⟩
  rw [hdf]
  exact H.above y (by simpa using hy)
end
end Go.Pmp
