import Derived.Conc.CrowdSel
import Derived.Conc.TokenFlight
set_option linter.unusedSimpArgs false
set_option linter.unusedVariables false
namespace Go.Pmp
open Go.Conc

/-! The trace's side of two goroutines (0 and j) of which one alone touches some places ('Own': j's), and that both only read others ('Still'). -/

/-- Goroutine 0 knows every touch of memory. -/
structure Clear (t : Trace) : Prop where
  clean : ∀ said, ¬ Race said t
  known : ∀ i a, touchAt t i = some a → a.loc.isMemory = true → Knows t 0 i
  hears : Deaf t 0 = 0

theorem Clear.over {t : Trace} (H : Clear t) : t.HandedOver := by
  intro i g hg hne ⟨x, hx, hm, _⟩
  obtain ⟨q, z, hq, hz, hb⟩ := H.known i x hx hm
  rcases hb with rfl | hb
  · rw [g?_of hq, hz] at hg
    exact absurd (Option.some.inj hg).symm hne
  · exact ⟨q, by rw [g?_of hq, hz], hb⟩

/-- Goroutine j runs beside goroutine 0. -/
structure Twin (Own Still : Loc → Prop) (j : Nat) (t : Trace) : Prop where
  clean : ∀ said, ¬ Race said t
  main : ∀ i a, touchAt t i = some a → a.loc.isMemory = true → Knows t 0 i ∨ (t.g? i = some j ∧ (Own a.loc ∨ (a.write = false ∧ Still a.loc)))
  prod : ∀ i a, touchAt t i = some a → a.loc.isMemory = true → (Own a.loc ∨ (a.write = true ∧ Still a.loc)) → Knows t j i
  hears0 : Deaf t 0 = 0
  hearsj : Deaf t j = 0

/-- What of it goroutine 0 needs. -/
structure Half (Own Still : Loc → Prop) (j : Nat) (t : Trace) : Prop where
  clean : ∀ said, ¬ Race said t
  main : ∀ i a, touchAt t i = some a → a.loc.isMemory = true → Knows t 0 i ∨ (t.g? i = some j ∧ (Own a.loc ∨ (a.write = false ∧ Still a.loc)))
  hears0 : Deaf t 0 = 0
theorem Twin.half {Own Still : Loc → Prop} {j : Nat} {t : Trace} (H : Twin Own Still j t) : Half Own Still j t := ⟨H.clean, H.main, H.hears0⟩

/-- Goroutine j has made its last send, the k-th on c, at m; it touches nothing any more. -/
structure Sent (Own Still : Loc → Prop) (j c k m : Nat) (t : Trace) : Prop where
  half : Half Own Still j t
  fin : ∀ i a, touchAt t i = some a → a.loc.isMemory = true → t.g? i = some j → Before t i m
  act : t.act? m = some (.send c k)
  heard : t.heard m

section
variable {Own Still : Loc → Prop} {j c k m : Nat} {t u : Trace}

theorem touchAt_cases {i : Nat} {a : Touch} (ha : touchAt (t ++ u) i = some a) : (i < t.size ∧ touchAt t i = some a) ∨ (∃ x ∈ u, (t ++ u)[i]? = some x ∧ x.act.touch? = some a) := by
  obtain ⟨x, hx, hxa⟩ := touch_of ha
  rcases getElem?_append_cases hx with ⟨hi, hx'⟩ | ⟨_, hxu⟩
  · exact .inl ⟨hi, by rw [touchAt_of hx']; exact hxa⟩
  · exact .inr ⟨x, hxu, hx, hxa⟩

theorem Clear.app0 (H : Clear t) (hu : ∀ op ∈ u, op.g = 0) (hd : Deaf (t ++ u) 0 = Deaf t 0) : Clear (t ++ u) := by
  refine ⟨fun said => noRace_append (H.clean said) hu fun i a ha op hop b hb hc => H.known i a ha hc.2.1, fun i a ha hm => ?_, hd.trans H.hears⟩
  rcases touchAt_cases ha with ⟨_, ha'⟩ | ⟨x, hxu, hx, _⟩
  · exact (H.known i a ha' hm).app u
  · have := knows_own hx
    rwa [hu x hxu] at this

theorem Clear.appMute (H : Clear t) (hn : ∀ op ∈ u, op.act.touch? = none) (hd : Deaf (t ++ u) 0 = Deaf t 0) : Clear (t ++ u) := by
  refine ⟨fun said => noRace_appendMute (H.clean said) hn, fun i a ha hm => ?_, hd.trans H.hears⟩
  rcases touchAt_cases ha with ⟨_, ha'⟩ | ⟨x, hxu, hx, hxa⟩
  · exact (H.known i a ha' hm).app u
  · rw [hn x hxu] at hxa; cases hxa

theorem Twin.appMute (H : Twin Own Still j t) (hn : ∀ op ∈ u, op.act.touch? = none) (hd0 : Deaf (t ++ u) 0 = Deaf t 0) (hdj : Deaf (t ++ u) j = Deaf t j) : Twin Own Still j (t ++ u) := by
  refine ⟨fun said => noRace_appendMute (H.clean said) hn, fun i a ha hm => ?_, fun i a ha hm ho => ?_, hd0.trans H.hears0, hdj.trans H.hearsj⟩
  · rcases touchAt_cases ha with ⟨hi, ha'⟩ | ⟨x, hxu, hx, hxa⟩
    · exact (H.main i a ha' hm).imp (Knows.app u) fun ⟨h1, h2⟩ => ⟨by rw [g?_old hi]; exact h1, h2⟩
    · rw [hn x hxu] at hxa; cases hxa
  · rcases touchAt_cases ha with ⟨hi, ha'⟩ | ⟨x, hxu, hx, hxa⟩
    · exact (H.prod i a ha' hm ho).app u
    · rw [hn x hxu] at hxa; cases hxa

theorem Twin.app0 (H : Twin Own Still j t) (hj : j ≠ 0) (hu : ∀ op ∈ u, op.g = 0) (hs : ∀ op ∈ u, ∀ b, op.act.touch? = some b → ¬ Own b.loc ∧ (Still b.loc → b.write = false)) (hd : Deaf (t ++ u) 0 = Deaf t 0) : Twin Own Still j (t ++ u) := by
  refine ⟨fun said => noRace_append (H.clean said) hu fun i a ha op hop b hb hc => ?_, fun i a ha hm => ?_, fun i a ha hm ho => ?_, hd.trans H.hears0, (Deaf_other t (Ne.symm hj) u hu).trans H.hearsj⟩
  · obtain ⟨h1, h2⟩ := hs op hop b hb
    rcases H.main i a ha hc.2.1 with hk | ⟨_, ho | ⟨hw, hS⟩⟩
    · exact hk
    · exact absurd (hc.1 ▸ ho) h1
    · have hb0 := h2 (hc.1 ▸ hS)
      rcases hc.2.2.1 with x | x
      · rw [hw] at x; cases x
      · rw [hb0] at x; cases x
  · rcases touchAt_cases ha with ⟨hi, ha'⟩ | ⟨x, hxu, hx, hxa⟩
    · exact (H.main i a ha' hm).imp (Knows.app u) fun ⟨h1, h2⟩ => ⟨by rw [g?_old hi]; exact h1, h2⟩
    · have := knows_own hx
      rw [hu x hxu] at this
      exact .inl this
  · rcases touchAt_cases ha with ⟨hi, ha'⟩ | ⟨x, hxu, hx, hxa⟩
    · exact (H.prod i a ha' hm ho).app u
    · obtain ⟨h1, h2⟩ := hs x hxu a hxa
      rcases ho with ho | ⟨hw, hS⟩
      · exact absurd ho h1
      · rw [h2 hS] at hw; cases hw

theorem Twin.appj (H : Twin Own Still j t) (hj : j ≠ 0) (hu : ∀ op ∈ u, op.g = j) (hs : ∀ op ∈ u, ∀ b, op.act.touch? = some b → Own b.loc ∨ (b.write = false ∧ Still b.loc)) (hd : Deaf (t ++ u) j = Deaf t j) : Twin Own Still j (t ++ u) := by
  refine ⟨fun said => noRace_append (H.clean said) hu fun i a ha op hop b hb hc => ?_, fun i a ha hm => ?_, fun i a ha hm ho => ?_, (Deaf_other t hj u hu).trans H.hears0, hd.trans H.hearsj⟩
  · rcases hs op hop b hb with h1 | ⟨h1, h2⟩
    · exact H.prod i a ha hc.2.1 (.inl (hc.1 ▸ h1))
    · rcases hc.2.2.1 with x | x
      · exact H.prod i a ha hc.2.1 (.inr ⟨x, hc.1 ▸ h2⟩)
      · rw [h1] at x; cases x
  · rcases touchAt_cases ha with ⟨hi, ha'⟩ | ⟨x, hxu, hx, hxa⟩
    · exact (H.main i a ha' hm).imp (Knows.app u) fun ⟨h1, h2⟩ => ⟨by rw [g?_old hi]; exact h1, h2⟩
    · exact .inr ⟨by rw [g?_of hx, hu x hxu], hs x hxu a hxa⟩
  · rcases touchAt_cases ha with ⟨hi, ha'⟩ | ⟨x, hxu, hx, hxa⟩
    · exact (H.prod i a ha' hm ho).app u
    · have := knows_own hx
      rwa [hu x hxu] at this

theorem Half.appMute (H : Half Own Still j t) (hn : ∀ op ∈ u, op.act.touch? = none) (hd0 : Deaf (t ++ u) 0 = Deaf t 0) : Half Own Still j (t ++ u) := by
  refine ⟨fun said => noRace_appendMute (H.clean said) hn, fun i a ha hm => ?_, hd0.trans H.hears0⟩
  rcases touchAt_cases ha with ⟨hi, ha'⟩ | ⟨x, hxu, hx, hxa⟩
  · exact (H.main i a ha' hm).imp (Knows.app u) fun ⟨h1, h2⟩ => ⟨by rw [g?_old hi]; exact h1, h2⟩
  · rw [hn x hxu] at hxa; cases hxa

theorem Half.app0 (H : Half Own Still j t) (hu : ∀ op ∈ u, op.g = 0) (hs : ∀ op ∈ u, ∀ b, op.act.touch? = some b → ¬ Own b.loc ∧ (Still b.loc → b.write = false)) (hd : Deaf (t ++ u) 0 = Deaf t 0) : Half Own Still j (t ++ u) := by
  refine ⟨fun said => noRace_append (H.clean said) hu fun i a ha op hop b hb hc => ?_, fun i a ha hm => ?_, hd.trans H.hears0⟩
  · obtain ⟨h1, h2⟩ := hs op hop b hb
    rcases H.main i a ha hc.2.1 with hk | ⟨_, ho | ⟨hw, hS⟩⟩
    · exact hk
    · exact absurd (hc.1 ▸ ho) h1
    · have hb0 := h2 (hc.1 ▸ hS)
      rcases hc.2.2.1 with x | x
      · rw [hw] at x; cases x
      · rw [hb0] at x; cases x
  · rcases touchAt_cases ha with ⟨hi, ha'⟩ | ⟨x, hxu, hx, hxa⟩
    · exact (H.main i a ha' hm).imp (Knows.app u) fun ⟨h1, h2⟩ => ⟨by rw [g?_old hi]; exact h1, h2⟩
    · have := knows_own hx
      rw [hu x hxu] at this
      exact .inl this

theorem Sent.app0 (H : Sent Own Still j c k m t) (hj : j ≠ 0) (hu : ∀ op ∈ u, op.g = 0) (hs : ∀ op ∈ u, ∀ b, op.act.touch? = some b → ¬ Own b.loc ∧ (Still b.loc → b.write = false)) (hd : Deaf (t ++ u) 0 = Deaf t 0) : Sent Own Still j c k m (t ++ u) := by
  obtain ⟨z, hz, _⟩ := Option.map_eq_some_iff.1 (show (t[m]?).map (·.act) = some (.send c k) from H.act)
  have hlt := lt_size_of_getElem? hz
  refine ⟨H.half.app0 hu hs hd, fun i a ha hm hg => ?_, by simpa [Trace.act?, getElem?_append_old hlt] using H.act, (heard_old hlt).2 H.heard⟩
  rcases touchAt_cases ha with ⟨hi, ha'⟩ | ⟨x, hxu, hx, hxa⟩
  · exact (H.fin i a ha' hm (by rw [← g?_old (u := u) hi]; exact hg)).app u
  · rw [g?_of hx, hu x hxu] at hg
    exact absurd (Option.some.inj hg).symm hj

theorem Sent.appMute (H : Sent Own Still j c k m t) (hn : ∀ op ∈ u, op.act.touch? = none) (hd0 : Deaf (t ++ u) 0 = Deaf t 0) : Sent Own Still j c k m (t ++ u) := by
  obtain ⟨z, hz, _⟩ := Option.map_eq_some_iff.1 (show (t[m]?).map (·.act) = some (.send c k) from H.act)
  have hlt := lt_size_of_getElem? hz
  refine ⟨H.half.appMute hn hd0, fun i a ha hm hg => ?_, by simpa [Trace.act?, getElem?_append_old hlt] using H.act, (heard_old hlt).2 H.heard⟩
  rcases touchAt_cases ha with ⟨hi, ha'⟩ | ⟨x, hxu, hx, hxa⟩
  · exact (H.fin i a ha' hm (by rw [← g?_old (u := u) hi]; exact hg)).app u
  · rw [hn x hxu] at hxa; cases hxa

/-- A go statement of goroutine 0's. -/
theorem Clear.fork (H : Clear t) (hj : Deaf t j = 0) (f0 : FuncId) (p0 : String) (fj : FuncId) (pj : String) :
    Twin Own Still j (t ++ #[{ g := 0, fn := f0, pos := p0, act := .go j }, { g := j, fn := fj, pos := pj, act := .start }]) := by
  generalize hu : (#[{ g := 0, fn := f0, pos := p0, act := .go j }, { g := j, fn := fj, pos := pj, act := .start }] : Trace) = u
  have hn : ∀ op ∈ u, op.act.touch? = none := by
    intro op hop
    subst hu
    simp only [List.mem_toArray, List.mem_cons, List.not_mem_nil, or_false] at hop
    rcases hop with rfl | rfl <;> rfl
  have hq : ∀ g, ∀ op ∈ u, ∀ d, deafStep g d op = d := by
    intro g op hop d
    subst hu
    simp only [List.mem_toArray, List.mem_cons, List.not_mem_nil, or_false] at hop
    rcases hop with rfl | rfl <;> rfl
  have e0 : (t ++ u)[t.size]? = some { g := 0, fn := f0, pos := p0, act := .go j } := by subst hu; simp
  have e1 : (t ++ u)[t.size + 1]? = some { g := j, fn := fj, pos := pj, act := .start } := by subst hu; simp
  have edge : HappensBefore (t ++ u) t.size (t.size + 1) :=
    Relation.TransGen.single (.inr ⟨.spawn (act?_of e0) (act?_of e1) (g?_of e1), ⟨0, g?_of e0, by rw [deaf_old (Nat.le_refl _)]; exact H.hears⟩, ⟨j, g?_of e1, by rw [deaf_quiet (hq j) 1 (by subst hu; simp)]; exact hj⟩⟩)
  refine ⟨fun said => noRace_appendMute (H.clean said) hn, fun i a ha hm => ?_, fun i a ha hm _ => ?_, (Deaf_quiet (hq 0)).trans H.hears, (Deaf_quiet (hq j)).trans hj⟩
  · rcases touchAt_cases ha with ⟨hi, ha'⟩ | ⟨x, hxu, hx, hxa⟩
    · exact .inl ((H.known i a ha' hm).app u)
    · rw [hn x hxu] at hxa; cases hxa
  · rcases touchAt_cases ha with ⟨hi, ha'⟩ | ⟨x, hxu, hx, hxa⟩
    · exact ⟨t.size + 1, _, e1, rfl, .inr (((H.known i a ha' hm).hb_new (Nat.le_refl _) e0 rfl).trans edge)⟩
    · rw [hn x hxu] at hxa; cases hxa

/-- Goroutine j's last send, into a buffer. -/
theorem Twin.toSent (H : Twin Own Still j t) (fj : FuncId) (pj : String) :
    Sent Own Still j c k t.size (t ++ #[{ g := j, fn := fj, pos := pj, act := .send c k }, { g := j, fn := fj, pos := pj, act := .sendDone c k }]) := by
  generalize hu : (#[{ g := j, fn := fj, pos := pj, act := .send c k }, { g := j, fn := fj, pos := pj, act := .sendDone c k }] : Trace) = u
  have hn : ∀ op ∈ u, op.act.touch? = none := by
    intro op hop
    subst hu
    simp only [List.mem_toArray, List.mem_cons, List.not_mem_nil, or_false] at hop
    rcases hop with rfl | rfl <;> rfl
  have hq : ∀ g, ∀ op ∈ u, ∀ d, deafStep g d op = d := by
    intro g op hop d
    subst hu
    simp only [List.mem_toArray, List.mem_cons, List.not_mem_nil, or_false] at hop
    rcases hop with rfl | rfl <;> rfl
  have e0 : (t ++ u)[t.size]? = some { g := j, fn := fj, pos := pj, act := .send c k } := by subst hu; simp
  refine ⟨(H.appMute hn (Deaf_quiet (hq 0)) (Deaf_quiet (hq j))).half, fun i a ha hm hg => ?_, act?_of e0, ⟨j, g?_of e0, by rw [deaf_old (Nat.le_refl _)]; exact H.hearsj⟩⟩
  rcases touchAt_cases ha with ⟨hi, ha'⟩ | ⟨x, hxu, hx, hxa⟩
  · rw [g?_old hi] at hg
    obtain ⟨z, hz, hzg⟩ := Option.map_eq_some_iff.1 (show (t[i]?).map (·.g) = some j from hg)
    exact .inr (hb_po hi (by rw [getElem?_append_old hi]; exact hz) e0 hzg)
  · rw [hn x hxu] at hxa; cases hxa

/-- Goroutine 0 takes it out of the buffer. -/
theorem Sent.take (H : Sent Own Still j c k m t) (f0 : FuncId) (p0 : String) (cap : Nat) :
    Clear (t ++ #[{ g := 0, fn := f0, pos := p0, act := .recv c k cap }, { g := 0, fn := f0, pos := p0, act := .recvDone c k }]) := by
  generalize hu : (#[{ g := 0, fn := f0, pos := p0, act := .recv c k cap }, { g := 0, fn := f0, pos := p0, act := .recvDone c k }] : Trace) = u
  obtain ⟨z, hz, _⟩ := Option.map_eq_some_iff.1 (show (t[m]?).map (·.act) = some (.send c k) from H.act)
  have hlt := lt_size_of_getElem? hz
  have hn : ∀ op ∈ u, op.act.touch? = none := by
    intro op hop
    subst hu
    simp only [List.mem_toArray, List.mem_cons, List.not_mem_nil, or_false] at hop
    rcases hop with rfl | rfl <;> rfl
  have hq : ∀ g, ∀ op ∈ u, ∀ d, deafStep g d op = d := by
    intro g op hop d
    subst hu
    simp only [List.mem_toArray, List.mem_cons, List.not_mem_nil, or_false] at hop
    rcases hop with rfl | rfl <;> rfl
  have e1 : (t ++ u)[t.size + 1]? = some { g := 0, fn := f0, pos := p0, act := .recvDone c k } := by subst hu; simp
  have edge : HappensBefore (t ++ u) m (t.size + 1) :=
    Relation.TransGen.single (.inr ⟨.handOver (by simpa [Trace.act?, getElem?_append_old hlt] using H.act) (act?_of e1), (heard_old hlt).2 H.heard, ⟨0, g?_of e1, by rw [deaf_quiet (hq 0) 1 (by subst hu; simp)]; exact H.half.hears0⟩⟩)
  refine ⟨fun said => noRace_appendMute (H.half.clean said) hn, fun i a ha hm => ?_, (Deaf_quiet (hq 0)).trans H.half.hears0⟩
  rcases touchAt_cases ha with ⟨hi, ha'⟩ | ⟨x, hxu, hx, hxa⟩
  · rcases H.half.main i a ha' hm with hk | ⟨hg, _⟩
    · exact hk.app u
    · exact ⟨t.size + 1, _, e1, rfl, .inr (((H.fin i a ha' hm hg).app u).hb edge)⟩
  · rw [hn x hxu] at hxa; cases hxa

/-- Goroutine 0 is met by goroutine j's last send. -/
theorem Twin.meet (H : Twin Own Still j t) (fj : FuncId) (pj : String) (f0 : FuncId) (p0 : String) (cap : Nat) : Clear (t ++ met j 0 fj pj f0 p0 c k cap) := by
  have hn := met_mute j 0 fj pj f0 p0 c k cap
  have hq := met_quiet j 0 fj pj f0 p0 c k cap
  have e0 : (t ++ met j 0 fj pj f0 p0 c k cap)[t.size]? = some { g := j, fn := fj, pos := pj, act := .send c k } := by simp [met]
  have e3 : (t ++ met j 0 fj pj f0 p0 c k cap)[t.size + 3]? = some { g := 0, fn := f0, pos := p0, act := .recvDone c k } := by simp [met]
  have edge : HappensBefore (t ++ met j 0 fj pj f0 p0 c k cap) t.size (t.size + 3) :=
    Relation.TransGen.single (.inr ⟨.handOver (act?_of e0) (act?_of e3), ⟨j, g?_of e0, by rw [deaf_old (Nat.le_refl _)]; exact H.hearsj⟩, ⟨0, g?_of e3, by rw [deaf_quiet (hq 0) 3 (by simp [met])]; exact H.hears0⟩⟩)
  refine ⟨fun said => noRace_appendMute (H.clean said) hn, fun i a ha hm => ?_, (Deaf_quiet (hq 0)).trans H.hears0⟩
  rcases touchAt_cases ha with ⟨hi, ha'⟩ | ⟨x, hxu, hx, hxa⟩
  · rcases H.main i a ha' hm with hk | ⟨hg, _⟩
    · exact hk.app _
    · obtain ⟨z, hz, hzg⟩ := Option.map_eq_some_iff.1 (show (t[i]?).map (·.g) = some j from hg)
      exact ⟨t.size + 3, _, e3, rfl, .inr ((hb_po hi (by rw [getElem?_append_old hi]; exact hz) e0 hzg).trans edge)⟩
  · rw [hn x hxu] at hxa; cases hxa
end

/-- What goroutine 0 may list while it is alone: no word of deafness. -/
def Ev1 (e : Event) : Prop := e.loc ≠ .mark .disable ∧ e.loc ≠ .mark .enable
/-- What goroutine 0 may list beside j. -/
def EvM (Own Still : Loc → Prop) (e : Event) : Prop := (∀ x, (MemAct.ofEvent e).touch? = some x → ¬ Own x.loc ∧ (Still x.loc → x.write = false)) ∧ Ev1 e
/-- What goroutine j may list. -/
def EvP (Own Still : Loc → Prop) (e : Event) : Prop := (∀ x, (MemAct.ofEvent e).touch? = some x → Own x.loc ∨ (x.write = false ∧ Still x.loc)) ∧ Ev1 e

section
variable {Own Still : Loc → Prop} {j c k m : Nat} {t : Trace} {fn : FuncId} {pos : String} {es : Array Event}

theorem deaf_of_ev1 {g : Nat} (h : ∀ e ∈ es, Ev1 e) : Deaf (t ++ MemOp.ofEvents g fn pos es) g = Deaf t g := by
  rw [Deaf_own]
  exact deafBehind_still (fun e he => h e he) _
theorem ofEv {g : Nat} {op : MemOp} (h : op ∈ MemOp.ofEvents g fn pos es) : ∃ e ∈ es, op = { g, fn, pos, act := .ofEvent e } := by
  rw [ofEvents_eq] at h
  obtain ⟨e, he, rfl⟩ := Array.mem_map.1 h
  exact ⟨e, he, rfl⟩
theorem gOf {g : Nat} : ∀ op ∈ MemOp.ofEvents g fn pos es, op.g = g := fun op hop => by obtain ⟨e, _, rfl⟩ := ofEv hop; rfl

theorem Clear.own (H : Clear t) (h : ∀ e ∈ es, Ev1 e) : Clear (t ++ MemOp.ofEvents 0 fn pos es) := H.app0 gOf (deaf_of_ev1 h)
theorem Clear.mute {g : Nat} (H : Clear t) (hg : g ≠ 0) (hm : ∀ e ∈ es, e.mute = true) : Clear (t ++ MemOp.ofEvents g fn pos es) :=
  H.appMute (fun op hop => by obtain ⟨e, he, rfl⟩ := ofEv hop; exact touch_mute (hm e he)) (Deaf_other t hg _ gOf)
theorem Twin.own (H : Twin Own Still j t) (hj : j ≠ 0) (h : ∀ e ∈ es, EvM Own Still e) : Twin Own Still j (t ++ MemOp.ofEvents 0 fn pos es) :=
  H.app0 hj gOf (fun op hop b hb => by obtain ⟨e, he, rfl⟩ := ofEv hop; exact (h e he).1 b hb) (deaf_of_ev1 fun e he => (h e he).2)
theorem Sent.own (H : Sent Own Still j c k m t) (hj : j ≠ 0) (h : ∀ e ∈ es, EvM Own Still e) : Sent Own Still j c k m (t ++ MemOp.ofEvents 0 fn pos es) :=
  H.app0 hj gOf (fun op hop b hb => by obtain ⟨e, he, rfl⟩ := ofEv hop; exact (h e he).1 b hb) (deaf_of_ev1 fun e he => (h e he).2)
theorem Twin.his (H : Twin Own Still j t) (hj : j ≠ 0) (h : ∀ e ∈ es, EvP Own Still e) : Twin Own Still j (t ++ MemOp.ofEvents j fn pos es) :=
  H.appj hj gOf (fun op hop b hb => by obtain ⟨e, he, rfl⟩ := ofEv hop; exact (h e he).1 b hb) (deaf_of_ev1 fun e he => (h e he).2)
theorem Twin.mute {g : Nat} (H : Twin Own Still j t) (hg : g ≠ 0) (hgj : g ≠ j) (hm : ∀ e ∈ es, e.mute = true) : Twin Own Still j (t ++ MemOp.ofEvents g fn pos es) :=
  H.appMute (fun op hop => by obtain ⟨e, he, rfl⟩ := ofEv hop; exact touch_mute (hm e he)) (Deaf_other t hg _ gOf) (Deaf_other t hgj _ gOf)
theorem Sent.mute {g : Nat} (H : Sent Own Still j c k m t) (hg : g ≠ 0) (hm : ∀ e ∈ es, e.mute = true) : Sent Own Still j c k m (t ++ MemOp.ofEvents g fn pos es) :=
  H.appMute (fun op hop => by obtain ⟨e, he, rfl⟩ := ofEv hop; exact touch_mute (hm e he)) (Deaf_other t hg _ gOf)
end
end Go.Pmp
