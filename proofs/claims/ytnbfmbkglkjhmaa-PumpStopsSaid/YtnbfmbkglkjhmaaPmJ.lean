import Derived.Test.YtnbfmbkglkjhmaaPmI
set_option linter.unusedSimpArgs false
set_option linter.unusedVariables false
set_option linter.unusedSectionVars false
namespace Go.Pmp
open Go.Conc
open Go.ConcN (sumTo upd sumTo_upd upd_ne upd_same)

section
variable {E : Env} {Fin : GW} (O : E.Ok)
include O
variable {km r i m : Nat} {n : World} {X S st : Bool} {e : Value} {a : Goroutine} {gs : Array Goroutine} {w : World} {t : Trace} {q : Nat → Nat} {sl : Option (Nat × Nat)}

theorem B.at (H : B E Fin km r i X S st e n m a gs w t q) (d : Nat) : B E Fin km r i X S st e n m a gs (w.at d) t q :=
  { H with items := H.items, stp := H.stp, don := H.don, en := O.endR _ _ _ _ _ (O.rpAt _ _) H.en, mr := O.rmT _ _ _ H.mr (O.rmAt _ _) }
theorem B.run (H : B E Fin km r i X S st e n m a gs w t q) : a.status = .running := H.ms.running (fun _ _ h => StopM.running O h) (O.rmR _)
theorem B.part (H : B E Fin km r i X S st e n m a gs w t q) (c : Nat) (s : Bool) : partners (gs.setIfInBounds 0 ph) c s = [] := by
  refine partners_nil fun y g hg => ?_
  rcases getElem?_stand gs 0 y g hg with ⟨_, rfl⟩ | ⟨hne, hg'⟩
  · rfl
  · refine offersAt_of_not_blocked ?_ c s
    rcases (H.old y g (by omega) hg').status with h | h <;> rw [h] <;> simp
omit O in
theorem B.lt0 (H : B E Fin km r i X S st e n m a gs w t q) : 0 < gs.size := (Array.getElem?_eq_some_iff.1 H.h0).1

theorem Sent.com0 {Own Still : Loc → Prop} {j c k m : Nat} {t u : Trace} {fn : FuncId} {pos : String} {es : Array Event} (H : Sent Own Still j c k m t) (hj : j ≠ 0) (h : ∀ e ∈ es, EvM Own Still e) (hu : ∀ op ∈ u, IsCom op.act) : Sent Own Still j c k m (t ++ (MemOp.ofEvents 0 fn pos es ++ u)) := by
  rw [← Array.append_assoc]
  exact (H.own hj h).appMute (fun op hop => (hu op hop).touch) (Deaf_quiet fun op hop d => (hu op hop).deaf _ _)

theorem B.after {a' : Goroutine} {gs' : Array Goroutine} {w' : World} {t' : Trace} {km' r' i' : Nat} {n' : World} {X' S' st' : Bool} (H : B E Fin km r i X S st e n m a gs w t q)
    (g0 : gs'[0]? = some a') (go : ∀ y, 0 < y → gs'[y]? = gs[y]?) (hsz : gs'.size = gs.size) (hd : ∀ y, Deaf t' y = Deaf t y) (se : Sent E.Own E.Still E.j E.cd 0 m t')
    (items : w'.heap[E.ci]? = some (.chan E.room (E.buf r' i') true i' r' false)) (ri : r' ≤ i') (ir : i' ≤ r' + E.room) (hq : ∀ x, x < i' → E.Q x) (stp : w'.heap[E.cs]? = some (.chan 0 #[] S' 0 0 false)) (don : w'.heap[E.cd]? = some (.chan 1 #[e] false 1 0 false))
    (hst : st' = true → S' = true) (hx : X' = true → i' = r') (en : E.End i' st' e w') (mr : E.RM n' w') (ms : Ev E.P true E.RM (DM E) (StopM E Fin (MS E Fin km') r' X' S') a' n') :
    B E Fin km' r' i' X' S' st' e n' m a' gs' w' t' q :=
  ⟨g0, by rw [hsz]; exact H.hj, fun y g hy hg => by rw [hd]; exact H.old y g hy (by rw [← go y hy]; exact hg), fun y hy => by rw [hd]; exact H.above y (by omega), se, items, ri, ir, hq, stp, don, hst, hx, en, mr, ms⟩

theorem B.leaver (H : B E Fin km r i X S st e n m a gs w t q) {y : Nat} {g : Goroutine} (hy : 0 < y) (hg : gs[y]? = some g) (hrun : g.status = .running) :
    ∃ m' ops, runT E.P (crowd gs w sl) y = (.next m', ops) ∧ NextB E Fin km (some (StopM E Fin (MS E Fin km) r X S, a, n)) (sumTo gs.size q) m' (t ++ ops) := by
  obtain ⟨gs', es, q', hr, hm, hsz, h0, old, above, hlt⟩ := slip (P := E.P) (w := w) (sl := sl) H.h0 (H.run O) H.old H.above hy hg hrun
  have hgd : gs.getD y default = g := by rw [Array.getD_eq_getD_getElem?, hg]; rfl
  rw [hgd] at old above
  refine ⟨_, _, hr, km, r, i, X, S, st, e, n, m, a, gs', w, sl, q', rfl, { H with h0 := h0, hj := by rw [hsz]; exact H.hj, old := old, above := above, se := ?_, items := H.items }, .inr ⟨rfl, .inr ⟨rfl, by omega⟩⟩⟩
  exact H.se.mute (by omega) hm

theorem B.mainGo {k : Nat} {es : Array Event} {a' : Goroutine} {w' : World} (H : B E Fin k r i X S st e n m a gs w t q) (hgo : stepG E.P true a w = .go a' w' es) (hd : DM E w w' es)
    (hG : Ev E.P true E.RM (DM E) (StopM E Fin (MS E Fin k) r X S) a' w') (hlow : Low E.P true E.RM (some (StopM E Fin (MS E Fin k) r X S, a', w')) (some (StopM E Fin (MS E Fin k) r X S, a, n))) :
    ∃ m' ops, runT E.P (crowd gs w sl) 0 = (.next m', ops) ∧ NextB E Fin k (some (StopM E Fin (MS E Fin k) r X S, a, n)) (sumTo gs.size q) m' (t ++ ops) := by
  obtain ⟨hes, d1, d2, d3, d4⟩ := hd
  have hrunT := runT_crowd_go (P := E.P) (sl := sl) (i := 0) H.h0 (show stepG E.P (0 == 0) a w = _ from hgo)
  have hdf : ∀ y, Deaf (t ++ MemOp.ofEvents 0 a.frame.fn a.frame.place es) y = Deaf t y := fun y => deaf_ev (fun e he => (hes e he).2) y
  refine ⟨_, _, hrunT, k, r, i, X, S, st, e, w', m, a', _, w', sl, q, rfl, ?_, .inr ⟨rfl, .inl hlow⟩⟩
  refine ⟨gms_same _ _ _ H.lt0, by simpa using H.hj, fun y g hy hg => ?_, fun y hy => by rw [hdf]; exact H.above y (by simpa using hy), H.se.own O.hj hes, by rw [d1]; exact H.items, H.ri, H.ir, H.hq,
    by rw [d2]; exact H.stp, by rw [d3]; exact H.don, H.hst, H.hx, O.endR _ _ _ _ _ d4 H.en, O.rmR w', hG⟩
  rw [gms _ _ _ _ (by omega)] at hg
  obtain ⟨g1, hg1, rfl⟩ := Option.map_eq_some_iff.1 hg
  have := H.old y g1 hy hg1
  rw [woken_quitsD this, hdf]
  exact this

theorem B.ofMS {k : Nat} {g : Goroutine} {w : World} (h : MS E Fin k r X S g w) : ∃ k', k = k' + 1 ∧ Ev E.P true E.RM (DM E) (StopM E Fin (MS E Fin k') r X S) g w := by
  cases k with
  | zero => exact h.elim
  | succ k => exact ⟨k, rfl, h⟩

theorem B.mainTake (H : B E Fin km r i false false st e n m a gs w t q) (h : AtTake E r (MS E Fin km (r + 1) false false) (MS E Fin km r true false) a w) (μ : Mu) (s : Nat) :
    ∃ m' ops, runT E.P (crowd gs w sl) 0 = (.next m', ops) ∧ NextB E Fin km μ s m' (t ++ ops) := by
  obtain ⟨hrun, htop, es, hes, hstep, hval, hfin⟩ := h
  have hs' : stepG E.P (0 == 0) a w = .comm (core a) #[rcase E.ci E.zi] true (.recv true) w es := hstep w (O.rmR w)
  have hlt0 := H.lt0
  have hit := H.items
  have hev : ∀ e ∈ es, Ev1 e := fun e he => (hes e he).2
  rcases Nat.lt_or_eq_of_le H.ri with hlt | heq
  · have hrt := crowd_recv_buf (sl := sl) H.h0 hs' hit (by rw [buf_size]; omega) (H.part O _ _)
    rw [buf_head hlt, buf_tail hlt] at hrt
    obtain ⟨k', rfl, hg⟩ := B.ofMS O (hval (w.setChan E.ci E.room (E.buf (r + 1) i) true i (r + 1) false) (O.rmI _ _ _ _ _ _ _) (H.hq r hlt))
    refine ⟨_, _, hrt, k', r + 1, i, false, false, st, e, w.setChan E.ci E.room (E.buf (r + 1) i) true i (r + 1) false, m, Conc.served (core a) (.tuple #[E.f r, .bool true]), _, _, sl, q, rfl, ?_, .inl (by omega)⟩
    exact H.after O (s_self hlt0) (fun y hy => s_ne (by omega)) (by simp) (deaf_com hev (by intro op hop; simp at hop; rcases hop with rfl | rfl <;> trivial))
      (Sent.com0 O H.se O.hj hes (by intro op hop; simp at hop; rcases hop with rfl | rfl <;> trivial)) (heap_setChan_self w hit _ _ _ _ _ _) hlt (by have := H.ir; omega) H.hq ((heap_setChan_ne w _ _ _ _ _ _ O.h1).trans H.stp) ((heap_setChan_ne w _ _ _ _ _ _ O.h2).trans H.don) H.hst (by simp)
      (O.endR _ _ _ _ _ (O.rpI _ _ _ _ _ _ _) H.en) (O.rmR _) hg
  · subst heq
    rw [buf_nil] at hit
    have hrt := crowd_recv_closed (sl := sl) H.h0 hs' hit (H.part O _ _)
    obtain ⟨k', rfl, hg⟩ := B.ofMS O (hfin w (O.rmR w))
    refine ⟨_, _, hrt, k', r, r, true, false, st, e, w, m, Conc.served (core a) (.tuple #[E.zi, .bool false]), _, _, sl, q, rfl, ?_, .inl (by omega)⟩
    exact H.after O (s_self hlt0) (fun y hy => s_ne (by omega)) (by simp) (deaf_com hev (by intro op hop; simp at hop; subst hop; trivial))
      (Sent.com0 O H.se O.hj hes (by intro op hop; simp at hop; subst hop; trivial)) H.items (by omega) (by omega) H.hq H.stp H.don H.hst (fun _ => rfl) H.en (O.rmR _) hg

theorem B.mainShut (H : B E Fin km r i false false st e n m a gs w t q) (h : AtShutS E (MS E Fin km r false true) a w) (μ : Mu) (s : Nat) :
    ∃ m' ops, runT E.P (crowd gs w sl) 0 = (.next m', ops) ∧ NextB E Fin km μ s m' (t ++ ops) := by
  obtain ⟨hrun, hwake, a', ha', hstep, hnext⟩ := h
  have hrunT := runT_crowd_go (P := E.P) (sl := sl) (i := 0) H.h0 (show stepG E.P (0 == 0) a w = _ from hstep H.stp)
  have hes := evM_close O
  have hdf : ∀ y, Deaf (t ++ MemOp.ofEvents 0 a.frame.fn a.frame.place (closeEvents E.cs)) y = Deaf t y := fun y => deaf_ev (fun e he => (hes e he).2) y
  obtain ⟨k', rfl, hg⟩ := B.ofMS O hnext
  refine ⟨_, _, hrunT, k', r, i, false, true, st, e, w.setChan E.cs 0 #[] true 0 0 false, m, a', _, _, sl, q, rfl, ?_, .inl (by omega)⟩
  refine ⟨gms_same _ _ _ H.lt0, by simpa using H.hj, fun y g hy hg => ?_, fun y hy => by rw [hdf]; exact H.above y (by simpa using hy), H.se.own O.hj hes, (heap_setChan_ne w _ _ _ _ _ _ (Ne.symm O.h1)).trans H.items, H.ri, H.ir, H.hq,
    heap_setChan_self w H.stp _ _ _ _ _ _, (heap_setChan_ne w _ _ _ _ _ _ O.h3).trans H.don, fun _ => rfl, by simp, O.endR _ _ _ _ _ (O.rpS _ _ _ _ _ _ _) H.en, O.rmR _, hg⟩
  rw [gms _ _ _ _ (by omega)] at hg
  obtain ⟨g1, hg1, rfl⟩ := Option.map_eq_some_iff.1 hg
  have := H.old y g1 hy hg1
  rw [woken_quitsD this, hdf]
  exact this

theorem B.mainHear (H : B E Fin km r i X S st e n m a gs w t q) (h : AtHear E r X S Fin a w) :
    ∃ m' ops, runT E.P (crowd gs w sl) 0 = (.next m', ops) ∧ NextC E Fin m' (t ++ ops) := by
  obtain ⟨hrun, es, hes, hstep, hfin⟩ := h
  have hs' : stepG E.P (0 == 0) a w = .comm (core a) #[rcase E.cd E.ze] true (.recv false) w es := hstep w (O.rmR w)
  have hev : ∀ e ∈ es, Ev1 e := fun e he => (hes e he).2
  have hrt := crowd_recv_buf (sl := sl) H.h0 hs' H.don (by simp) (H.part O _ _)
  have hdf := deaf_com (t := t) (x := 0) (fn := a.frame.fn) (pos := a.frame.place) (u := #[{ g := 0, fn := (core a).frame.fn, pos := (core a).frame.place, act := .recv E.cd 0 1 }, { g := 0, fn := (core a).frame.fn, pos := (core a).frame.place, act := .recvDone E.cd 0 }]) hev (by intro op hop; simp at hop; rcases hop with rfl | rfl <;> trivial)
  refine ⟨_, _, hrt, Conc.served (core a) e, _, _, sl, q, rfl, ⟨s_self H.lt0, fun y g hy hg => ?_, fun y hy => by rw [hdf]; exact H.above y (by simpa using hy), ?_⟩,
    hfin _ i st e (O.rmD _ _ _ _ _ _ _) H.ri H.ir H.hx (fun hS => ?_) (O.endR _ _ _ _ _ (O.rpD _ _ _ _ _ _ _) H.en)⟩
  · rw [s_ne (by omega)] at hg
    rw [hdf]
    exact H.old y g hy hg
  · rw [← Array.append_assoc]
    exact (H.se.own O.hj hes).take _ _ 1
  · cases hst : st with
    | false => rfl
    | true => rw [H.hst hst] at hS; cases hS

theorem B.step (H : B E Fin km r i X S st e n m a gs w t q) :
    ∃ m' ops, stepT E.P (crowd gs w sl) = (.next m', ops) ∧ (NextB E Fin km (some (StopM E Fin (MS E Fin km) r X S, a, n)) (sumTo gs.size q) m' (t ++ ops) ∨ NextC E Fin m' (t ++ ops)) := by
  obtain ⟨y, g, d, sl', hy, hg, hst⟩ := crowd_pick (P := E.P) (w := w) (sl := sl) (lone_awake H.h0 (H.run O) H.old) ⟨0, a, H.h0, H.run O⟩
  have H1 := H.at O d
  rw [hst]
  by_cases e0 : y = 0
  · subst e0
    obtain rfl : a = g := Option.some.inj (H.h0.symm.trans hy)
    rcases H1.ms.cases H1.mr with hs | ⟨g', w', es, hgo, hd, hG, hlow⟩
    · rcases hs with ⟨rfl, rfl, hs⟩ | ⟨rfl, rfl, hs⟩ | ⟨hxs, hs⟩
      · obtain ⟨m', ops, h1, h2⟩ := H1.mainTake O hs _ _
        exact ⟨m', ops, h1, .inl h2⟩
      · obtain ⟨m', ops, h1, h2⟩ := H1.mainShut O hs _ _
        exact ⟨m', ops, h1, .inl h2⟩
      · obtain ⟨m', ops, h1, h2⟩ := H1.mainHear O hs
        exact ⟨m', ops, h1, .inr h2⟩
    · obtain ⟨m', ops, h1, h2⟩ := H1.mainGo O hgo hd hG hlow
      exact ⟨m', ops, h1, .inl h2⟩
  · obtain ⟨m', ops, h1, h2⟩ := H1.leaver O (by omega) hy hg
    exact ⟨m', ops, h1, .inl h2⟩

theorem B.runs : ∀ (K : Nat) (μ : Mu), Acc (Low E.P true E.RM) μ → ∀ (s : Nat) (x : Machine) (t : Trace), NextB E Fin K μ s x t → ∃ N m' t', runNT E.P N x t = (.next m', t') ∧ NextC E Fin m' t' := by
  intro K
  induction K using Nat.strongRecOn with
  | _ K ihK =>
    intro μ hμ
    induction hμ with
    | intro μ hacc ihμ =>
      intro s
      induction s using Nat.strongRecOn with
      | _ s ihs =>
        rintro x t ⟨km, r, i, X, S, st, e, n, m, a, gs, w, sl, q, rfl, H, hless⟩
        obtain ⟨m', ops, hst, h⟩ := H.step O (sl := sl)
        have key : ∃ N m'' t'', runNT E.P N m' (t ++ ops) = (.next m'', t'') ∧ NextC E Fin m'' t'' := by
          rcases h with h | h
          · rcases hless with hk | ⟨rfl, hl | ⟨rfl, hr⟩⟩
            · exact ihK km hk _ H.ms.acc _ _ _ h
            · exact ihμ _ hl _ _ _ h
            · exact ihs _ hr _ _ h
          · exact ⟨0, m', t ++ ops, rfl, h⟩
        obtain ⟨N, m'', t'', h1, h2⟩ := key
        exact ⟨N + 1, m'', t'', by rw [runNT_succ_next hst]; exact h1, h2⟩

theorem A.runs : ∀ (K : Nat) (μ : Mu), Acc (Low E.P true E.RM) μ → ∀ (ν : Mu), Acc (Low E.P false E.RP) ν → ∀ (s : Nat) (x : Machine) (t : Trace), NextA E Fin K μ ν s x t → ∃ N m' t', runNT E.P N x t = (.next m', t') ∧ NextC E Fin m' t' := by
  intro K
  induction K using Nat.strongRecOn with
  | _ K ihK =>
    intro μ hμ
    induction hμ with
    | intro μ hacc ihμ =>
      intro ν hν
      induction hν with
      | intro ν haccν ihν =>
        intro s
        induction s using Nat.strongRecOn with
        | _ s ihs =>
          rintro x t ⟨km, kp, r, i, X, S, st, XI, rm, rp, a, b, gs, w, sl, q, rfl, H, hless⟩
          obtain ⟨m', ops, hst, h⟩ := H.step O (sl := sl)
          have key : ∃ N m'' t'', runNT E.P N m' (t ++ ops) = (.next m'', t'') ∧ NextC E Fin m'' t'' := by
            rcases h with h | ⟨K', μ', s', h⟩ | h
            · rcases hless with hk | ⟨rfl, ⟨hl, rfl⟩ | ⟨rfl, hl⟩ | ⟨rfl, rfl, hr⟩⟩
              · exact ihK _ hk _ (H.ms.acc O) _ (H.ps.acc O) _ _ _ h
              · exact ihμ _ hl _ (H.ps.acc O) _ _ _ h
              · exact ihν _ hl _ _ _ h
              · exact ihs _ hr _ _ h
            · obtain ⟨km, r, i, X, S, st, e, n, m, a, gs, w, sl, q, rfl, HB, _⟩ := h
              exact B.runs O (km + 1) none low_none 0 _ _ ⟨km, r, i, X, S, st, e, n, m, a, gs, w, sl, q, rfl, HB, .inl (by omega)⟩
            · exact ⟨0, m', t ++ ops, rfl, h⟩
          obtain ⟨N, m'', t'', h1, h2⟩ := key
          exact ⟨N + 1, m'', t'', by rw [runNT_succ_next hst]; exact h1, h2⟩
end

/-- THE PUMP: goroutine 0 stands at the go statement that starts the maker; both follow their scripts: goroutine 0 comes to where it has heard the maker's last word, all others only leaving. -/
theorem pump {E : Env} {Fin : GW} {gs : Array Goroutine} (O : E.Ok) (hj : E.j = gs.size) {km kp : Nat} {a a' child : Goroutine} {w : World} {sl : Option (Nat × Nat)} {t : Trace} {q : Nat → Nat} {es : Array Event}
    (H : Lone E.P a gs t q) (hrun : a.status = .running) (hgo : ∀ d, stepG E.P true a (w.at d) = .spawn a' child (w.at d) es) (hes : ∀ e ∈ es, Ev1 e)
    (hi : w.heap[E.ci]? = some (.chan E.room #[] false 0 0 false)) (hs : w.heap[E.cs]? = some (.chan 0 #[] false 0 0 false)) (hd : w.heap[E.cd]? = some (.chan 1 #[] false 0 0 false))
    (hm : MS E Fin km 0 false false a' w) (hp : PS E kp 0 false false child w) :
    ∃ (N : Nat) (b : Goroutine) (gs' : Array Goroutine) (w' : World) (sl' : Option (Nat × Nat)) (t' : Trace) (q' : Nat → Nat), runNT E.P N (crowd gs w sl) t = (.next (crowd gs' w' sl'), t') ∧ Lone E.P b gs' t' q' ∧ Fin b w' := by
  obtain ⟨N, gs1, d, sl1, t1, q1, h1, h2, h3, h4, h5, h6, h7⟩ := Lone.hire (Own := E.Own) (Still := E.Still) (sl := sl) H hrun hgo hes
  rw [← hj] at h4 h5 h7
  obtain ⟨rm, hms, har⟩ := MSit.ofMS O hm 0 false
  obtain ⟨rp, hps, hbr⟩ := PSit.ofPS O hp false 0
  have HA : A E Fin km kp 0 0 false false false false rm rp a' child gs1 (w.at d) t1 q1 :=
    ⟨h3, h4, h5, h6, h7, by rw [buf_nil]; exact hi, Nat.le_refl _, by omega, Nat.zero_le _, fun x hx => by omega, hs, hd, fun _ => rfl, by simp, hms.rely O (O.rmAt _ _), hps.rely O (O.rpAt _ _), .inl har⟩
  obtain ⟨N', m', t', h8, b, gs', w', sl', q', rfl, h9, h10⟩ := A.runs O (km + kp) rm (hms.acc O) rp (hps.acc O) (sumTo gs1.size q1 + 1) _ t1 ⟨km, kp, 0, 0, false, false, false, false, rm, rp, a', child, gs1, w.at d, sl1, q1, rfl, HA, .inr ⟨rfl, .inr (.inr ⟨rfl, rfl, by omega⟩)⟩⟩
  exact ⟨N + N', b, gs', w', sl', t', q', by rw [runNT_add, h1]; exact h8, h9, h10⟩
#print axioms pump
#print axioms Lone.ends
end Go.Pmp
