import Derived.Test.YtnbfmbkglkjhmaaPmH
set_option linter.unusedSimpArgs false
set_option linter.unusedVariables false
set_option linter.unusedSectionVars false
namespace Go.Pmp
open Go.Conc
open Go.ConcN (sumTo upd sumTo_upd upd_ne upd_same)

/-! Goroutine 0 beside leavers. -/
section
variable {P : Program} {a : Goroutine} {gs : Array Goroutine} {w : World} {t : Trace} {q : Nat → Nat} {sl : Option (Nat × Nat)}

theorem lone_awake (h0 : gs[0]? = some a) (ha : a.status = .running) (old : ∀ y g, 0 < y → gs[y]? = some g → QuitsD P (q y) (Deaf t y) g) : ∀ g ∈ gs, awake g := by
  intro g hg
  obtain ⟨y, hy, rfl⟩ := Array.mem_iff_getElem.1 hg
  have hy' := Array.getElem?_eq_getElem hy
  by_cases e0 : y = 0
  · subst e0
    rw [h0] at hy'
    rw [← Option.some.inj hy']
    exact awake_of (.inl ha)
  · exact awake_of ((old y _ (by omega) hy').status.elim .inl fun x => .inr (.inr x))

/-- A leaver slips: what is left of the others. -/
theorem slip (h0 : gs[0]? = some a) (ha : a.status = .running) (old : ∀ y g, 0 < y → gs[y]? = some g → QuitsD P (q y) (Deaf t y) g) (above : ∀ y, gs.size ≤ y → Deaf t y = 0) {y : Nat} {g : Goroutine} (hy : 0 < y) (hg : gs[y]? = some g) (hrun : g.status = .running) :
    ∃ gs' es q', runT P (crowd gs w sl) y = (.next (crowd gs' w sl), MemOp.ofEvents y g.frame.fn g.frame.place es) ∧ (∀ e ∈ es, e.mute = true) ∧ gs'.size = gs.size ∧ gs'[0]? = some a ∧
      (∀ z g, 0 < z → gs'[z]? = some g → QuitsD P (q' z) (Deaf (t ++ MemOp.ofEvents y (gs.getD y default).frame.fn (gs.getD y default).frame.place es) z) g) ∧
      (∀ z, gs'.size ≤ z → Deaf (t ++ MemOp.ofEvents y (gs.getD y default).frame.fn (gs.getD y default).frame.place es) z = 0) ∧ sumTo gs'.size q' < sumTo gs.size q := by
  have hq := old y g hy hg
  have hlt : y < gs.size := (Array.getElem?_eq_some_iff.1 hg).1
  have hgd : gs.getD y default = g := by rw [Array.getD_eq_getD_getElem?, hg]; rfl
  rw [hgd]
  cases hqy : q y with
  | zero => rw [hqy] at hq; rw [hq.1] at hrun; cases hrun
  | succ k =>
    rw [hqy] at hq
    rcases hq with ⟨hf, _⟩ | ⟨_, g', es, hm, hstp, hq'⟩
    · rw [hf] at hrun; cases hrun
    have hi0 : (y == 0) = false := by simp; omega
    have hrunT := runT_crowd_go (P := P) (sl := sl) (i := y) hg (by rw [hi0]; exact hstp w)
    have hsum : sumTo gs.size (upd q y k) + (k + 1) = sumTo gs.size q + k := by
      have := sumTo_upd q k id hlt
      simpa [hqy] using this
    refine ⟨_, es, upd q y k, hrunT, hm, by simp, ?_, ?_, ?_, by simp only [Array.size_setIfInBounds, Array.size_map]; omega⟩
    · rw [gms _ _ _ _ (by omega), h0, Option.map_some, woken_run ha]
    · intro z g0 hz hg0
      by_cases e : y = z
      · subst e
        rw [gms_same _ _ _ hlt] at hg0
        obtain rfl := Option.some.inj hg0
        rw [upd_same, Deaf_own]
        exact hq'
      · rw [gms _ _ _ _ e] at hg0
        obtain ⟨g1, hg1, rfl⟩ := Option.map_eq_some_iff.1 hg0
        have := old z g1 hz hg1
        rw [woken_quitsD this, upd_ne q k (Ne.symm e), Deaf_other t e _ gOf]
        exact this
    · intro z hz
      simp at hz
      rw [Deaf_other t (by omega) _ gOf]
      exact above z hz

/-- The leavers slip till it is goroutine 0's turn. -/
theorem Lone.pick (ha : a.status = .running) : ∀ (M : Nat) (gs : Array Goroutine) (w : World) (sl : Option (Nat × Nat)) (t : Trace) (q : Nat → Nat), sumTo gs.size q ≤ M → Lone P a gs t q →
    ∃ (N : Nat) (gs' : Array Goroutine) (d d' : Nat) (sl' sl'' : Option (Nat × Nat)) (t' : Trace) (q' : Nat → Nat), runNT P N (crowd gs w sl) t = (.next (crowd gs' (w.at d) sl'), t') ∧
      stepT P (crowd gs' (w.at d) sl') = runT P (crowd gs' (w.at d') sl'') 0 ∧ gs'.size = gs.size ∧ Lone P a gs' t' q' := by
  intro M
  induction M with
  | zero =>
    intro gs w sl t q hM H
    obtain ⟨y, g, d, sl', hy, hg, hst⟩ := crowd_pick (P := P) (w := w) (sl := sl) (lone_awake H.h0 ha H.old) ⟨0, a, H.h0, ha⟩
    by_cases e0 : y = 0
    · subst e0
      exact ⟨0, gs, w.drawn, d, sl, sl', t, q, rfl, hst, rfl, H⟩
    · obtain ⟨_, _, _, _, _, _, _, _, _, hlt⟩ := slip (P := P) (w := w) (sl := sl) H.h0 ha H.old H.above (by omega) hy hg
      omega
  | succ M ih =>
    intro gs w sl t q hM H
    obtain ⟨y, g, d, sl', hy, hg, hst⟩ := crowd_pick (P := P) (w := w) (sl := sl) (lone_awake H.h0 ha H.old) ⟨0, a, H.h0, ha⟩
    by_cases e0 : y = 0
    · subst e0
      exact ⟨0, gs, w.drawn, d, sl, sl', t, q, rfl, hst, rfl, H⟩
    · obtain ⟨gs', es, q', hr, hm, hsz, h0, old, above, hlt⟩ := slip (P := P) (w := w.at d) (sl := sl') H.h0 ha H.old H.above (by omega) hy hg
      have hgd : gs.getD y default = g := by rw [Array.getD_eq_getD_getElem?, hy]; rfl
      rw [hgd] at old above
      obtain ⟨N, gs'', d1, d2, s1, s2, t', q'', h1, h2, h3, h4⟩ := ih gs' (w.at d) sl' _ q' (by omega) ⟨h0, old, above, H.cl.mute e0 hm⟩
      exact ⟨N + 1, gs'', d1, d2, s1, s2, t', q'', by rw [runNT_succ_next (hst.trans hr)]; exact h1, h2, h3.trans hsz, h4⟩

/-- Goroutine 0 takes one step of its own beside leavers. -/
theorem Lone.own (H : Lone P a gs t q) {a' : Goroutine} {w' : World} {es : Array Event} (hgo : stepG P true a w = .go a' w' es) (hes : ∀ e ∈ es, Ev1 e) :
    ∃ gs', runT P (crowd gs w sl) 0 = (.next (crowd gs' w' sl), MemOp.ofEvents 0 a.frame.fn a.frame.place es) ∧ gs'.size = gs.size ∧ Lone P a' gs' (t ++ MemOp.ofEvents 0 a.frame.fn a.frame.place es) q := by
  have hlt : 0 < gs.size := (Array.getElem?_eq_some_iff.1 H.h0).1
  have hrunT := runT_crowd_go (P := P) (sl := sl) (i := 0) H.h0 (show stepG P (0 == 0) a w = _ from hgo)
  refine ⟨_, hrunT, by simp, gms_same _ _ _ hlt, fun y g hy hg => ?_, fun y hy => ?_, H.cl.own hes⟩
  · rw [gms _ _ _ _ (by omega)] at hg
    obtain ⟨g1, hg1, rfl⟩ := Option.map_eq_some_iff.1 hg
    have := H.old y g1 hy hg1
    rw [woken_quitsD this, deaf_ev hes]
    exact this
  · rw [deaf_ev hes]
    exact H.above y (by simpa using hy)

/-- Goroutine 0 walks beside leavers. -/
theorem Lone.walk {D : World → World → Array Event → Prop} {Stop : Goroutine → World → Prop} (hD : ∀ w w' es, D w w' es → ∀ e ∈ es, Ev1 e) (hG : Ev P true AtRel D Stop a w) :
    ∀ (gs : Array Goroutine) (sl : Option (Nat × Nat)) (t : Trace) (q : Nat → Nat), Lone P a gs t q →
      ∃ (N : Nat) (a' : Goroutine) (gs' : Array Goroutine) (w' : World) (sl' : Option (Nat × Nat)) (t' : Trace) (q' : Nat → Nat), runNT P N (crowd gs w sl) t = (.next (crowd gs' w' sl'), t') ∧ gs'.size = gs.size ∧ Lone P a' gs' t' q' ∧ Stop a' w' := by
  induction hG with
  | @stop a w h => exact fun gs sl t q H => ⟨0, a, gs, w, sl, t, q, rfl, rfl, H, h w (atRel_refl w)⟩
  | @step a w hrun h hn ih =>
    intro gs sl t q H
    obtain ⟨N, gs1, d, d', sl1, sl2, t1, q1, h1, h2, h3, H1⟩ := Lone.pick hrun _ gs w sl t q (Nat.le_refl _) H
    obtain ⟨a', w', es, hgo, hd⟩ := h (w.at d') ⟨d', rfl⟩
    obtain ⟨gs2, h4, h5, H2⟩ := H1.own (sl := sl2) hgo (hD _ _ _ hd)
    obtain ⟨N', a'', gs3, w3, sl3, t3, q3, h6, h7, H3, hs⟩ := ih (w.at d') a' w' es ⟨d', rfl⟩ hgo gs2 sl2 _ q1 H2
    refine ⟨N + (1 + N'), a'', gs3, w3, sl3, t3, q3, ?_, h7.trans (h5.trans h3), H3, hs⟩
    rw [runNT_add, h1, Nat.add_comm 1 N']
    show runNT P (N' + 1) _ t1 = _
    rw [runNT_succ_next (h2.trans h4)]
    exact h6

/-- Goroutine 0's next step is the return. -/
def AtDone (P : Program) (Post : Value → World → Prop) (g : Goroutine) (w : World) : Prop :=
  g.status = .running ∧ ∃ v es, stepG P true g w = .ended (.done v) w es ∧ (∀ e ∈ es, Ev1 e) ∧ Post v w

/-- The last walk. -/
theorem Lone.ends {D : World → World → Array Event → Prop} {Post : Value → World → Prop} (hD : ∀ w w' es, D w w' es → ∀ e ∈ es, Ev1 e) (H : Lone P a gs t q) (hG : Ev P true AtRel D (fun g w => ∀ d, AtDone P Post g (w.at d)) a w) :
    ∃ N last o w' t', runNT P (N + 1) (crowd gs w sl) t = (.ended o w', t') ∧ runN P N (crowd gs w sl) = .next last ∧ step P last = .ended o w' ∧ Conc.Good P Post last o w' t' := by
  obtain ⟨N, a1, gs1, w1, sl1, t1, q1, h1, h2, H1, hs⟩ := Lone.walk hD hG gs sl t q H
  obtain ⟨N2, gs2, d, d', sl2, sl3, t2, q2, h4, h5, h6, H2⟩ := Lone.pick (hs 0).1 _ gs1 w1 sl1 t1 q1 (Nat.le_refl _) H1
  obtain ⟨hrun, v, es, hend, hes, hpost⟩ := hs d'
  have hrunT := runT_many_ended (P := P) (sl := sl3) (i := 0) H2.h0 (show stepG P (0 == 0) a1 (w1.at d') = _ from hend)
  have hst := h5.trans hrunT
  have hrN : runNT P (N + N2) (crowd gs w sl) t = (.next (crowd gs2 (w1.at d) sl2), t2) := by
    rw [runNT_add, h1]
    exact h4
  refine ⟨N + N2, crowd gs2 (w1.at d) sl2, .done v, w1.at d', t2 ++ MemOp.ofEvents 0 a1.frame.fn a1.frame.place es, ?_, ?_, by simp [step, hst], v, rfl, hpost, (H2.cl.own hes).clean, (H2.cl.own hes).over, ⟨fun x hx => ?_, rfl⟩, fun j x hx hj => ?_⟩
  · rw [runNT_add, hrN]
    show runNT P 1 _ t2 = _
    simp [runNT, hst]
  · rw [← runNT_fst P _ _ t, hrN]
  · obtain ⟨j, hj⟩ := List.mem_iff_getElem?.1 hx
    rw [List.getElem?_drop] at hj
    exact ⟨_, (H2.old (1 + j) x (by omega) (by simpa [crowd] using hj)).leaves⟩
  · have hq := H2.old j x (by omega) hx
    refine ⟨q2 j, ?_⟩
    have e : (t2 ++ MemOp.ofEvents 0 a1.frame.fn a1.frame.place es).deaf j (t2 ++ MemOp.ofEvents 0 a1.frame.fn a1.frame.place es).size = Deaf t2 j := deaf_ev hes j
    rw [e]
    exact hq.hears _

/-- Goroutine 0 stands at a go statement: its child runs beside it. -/
theorem Lone.hire {Own Still : Loc → Prop} (H : Lone P a gs t q) (hrun : a.status = .running) {a' child : Goroutine} {es : Array Event} (hgo : ∀ d, stepG P true a (w.at d) = .spawn a' child (w.at d) es) (hes : ∀ e ∈ es, Ev1 e) :
    ∃ (N : Nat) (gs' : Array Goroutine) (d : Nat) (sl' : Option (Nat × Nat)) (t' : Trace) (q' : Nat → Nat), runNT P N (crowd gs w sl) t = (.next (crowd gs' (w.at d) sl'), t') ∧ gs'.size = gs.size + 1 ∧ gs'[0]? = some a' ∧ gs'[gs.size]? = some child ∧
      (∀ y g, 0 < y → y ≠ gs.size → gs'[y]? = some g → QuitsD P (q' y) (Deaf t' y) g) ∧ (∀ y, gs'.size ≤ y → Deaf t' y = 0) ∧ Twin Own Still gs.size t' := by
  obtain ⟨N, gs1, d, d', sl1, sl2, t1, q1, h1, h2, h3, H1⟩ := Lone.pick hrun _ gs w sl t q (Nat.le_refl _) H
  have hlt : 0 < gs1.size := (Array.getElem?_eq_some_iff.1 H1.h0).1
  have hrt := runT_crowd_spawn (P := P) (sl := sl2) (i := 0) H1.h0 (show stepG P (0 == 0) a (w.at d') = _ from hgo d')
  have hpush : ((MemOp.ofEvents 0 a.frame.fn a.frame.place es).push { g := 0, fn := a.frame.fn, pos := a.frame.place, act := .go gs1.size } |>.push { g := gs1.size, fn := child.frame.fn, pos := a.frame.place, act := .start }) =
      MemOp.ofEvents 0 a.frame.fn a.frame.place es ++ #[{ g := 0, fn := a.frame.fn, pos := a.frame.place, act := .go gs1.size }, { g := gs1.size, fn := child.frame.fn, pos := a.frame.place, act := .start }] := by
    apply Array.ext'; simp
  rw [hpush] at hrt
  have hdf : ∀ y, Deaf (t1 ++ (MemOp.ofEvents 0 a.frame.fn a.frame.place es ++ #[{ g := 0, fn := a.frame.fn, pos := a.frame.place, act := .go gs1.size }, { g := gs1.size, fn := child.frame.fn, pos := a.frame.place, act := .start }])) y = Deaf t1 y := fun y => by
    rw [← Array.append_assoc, Deaf_quiet (fun op hop d => by
      simp only [List.mem_toArray, List.mem_cons, List.not_mem_nil, or_false] at hop
      rcases hop with rfl | rfl <;> rfl), deaf_ev hes]
  refine ⟨N + 1, (gs1.setIfInBounds 0 a').push child, d', sl2, (t1 ++ (MemOp.ofEvents 0 a.frame.fn a.frame.place es ++ #[{ g := 0, fn := a.frame.fn, pos := a.frame.place, act := .go gs1.size }, { g := gs1.size, fn := child.frame.fn, pos := a.frame.place, act := .start }])), q1, ?_, by simp [h3], ?_, ?_, fun y g hy hyj hg => ?_, fun y hy => ?_, ?_⟩
  · rw [runNT_add, h1]
    show runNT P (0 + 1) _ t1 = _
    rw [runNT_succ_next (h2.trans hrt)]
    rfl
  · rw [Array.getElem?_push, if_neg (by simp only [Array.size_setIfInBounds]; omega), s_self hlt]
  · rw [← h3, Array.getElem?_push, if_pos (by simp)]
  · have hyl : y < gs1.size := by
      have := (Array.getElem?_eq_some_iff.1 hg).1
      simp at this; omega
    rw [Array.getElem?_push, if_neg (by simp only [Array.size_setIfInBounds]; omega), s_ne (by omega)] at hg
    rw [hdf]
    exact H1.old y g hy hg
  · rw [hdf]
    exact H1.above y (by simp at hy; omega)
  · rw [← h3, ← Array.append_assoc]
    exact (H1.cl.own hes).fork (by rw [deaf_ev hes]; exact H1.above _ (Nat.le_refl _)) _ _ _ _
end
end Go.Pmp
