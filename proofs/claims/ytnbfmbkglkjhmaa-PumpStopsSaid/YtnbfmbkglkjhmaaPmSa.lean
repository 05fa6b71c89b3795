import Derived.Test.YtnbfmbkglkjhmaaPmZl
import Derived.Test.YtnbfmbkglkjhmaaPmZh
set_option linter.unusedSimpArgs false
set_option linter.unusedVariables false
set_option linter.unusedSectionVars false
namespace Go.Proofs.Ytnbfmbkglkjhmaa
open Go.Conc Go.RowKit Go.Pmp
noncomputable def body15 : Code := Try.f15.body.getD .skip
theorem f15_body : Try.f15.body = some body15 := by simp only [body15, Try.f15, Option.getD_some]
theorem args15 (p q r : Value) : (#[p, q, r] ++ Array.replicate (Try.f15.ntmps - (#[p, q, r] : Array Value).size) undef : Array Value) = #[p, q, r, undef, undef, undef, undef, undef, undef, undef, undef, undef, undef, undef] := by rw [Try.ntmps15]; walk_nrm

noncomputable def loop15 : Code := match body15 with | .seq _ (.seq (.block _ (.loop c)) _) => c | c => c
noncomputable def after15 : Code := match body15 with | .seq _ (.seq _ y) => y | c => c
/-- The pump whose maker counts: its blocks from B on; it owns the two counts. -/
noncomputable def stopK (B room n : Nat) : PK where
  pb := B + 2
  ci := B + 3
  cs := B + 4
  cd := B + 5
  room := room
  top := n + 1
  f i := .int .i64 i
  Q _ := True
  End i st v w := v = .int .i64 8 ∧ st = true ∧ w.cell? ⟨B, 0, none⟩ = some (.int .i64 i) ∧ w.cell? ⟨B + 1, 0, none⟩ = some (.int .i64 3)
  Z k := k = B ∨ k = B + 1
  C vb a := (∃ n, n < 4 ∧ a = ⟨B + 2, n, none⟩) ∨ a = ⟨vb, 0, none⟩
  Keep k := B ≤ k ∧ k < B + 6
  Br w := w.cell? ⟨B + 2, 0, none⟩ = some (.func (.func 15) #[] #[.pointer (some ⟨B + 1, 0, none⟩), .pointer (some ⟨B, 0, none⟩)]) ∧ w.cell? ⟨B, 0, none⟩ = some (.int .i64 0) ∧ w.frozen? ⟨B, 0, none⟩ = false ∧ w.cell? ⟨B + 1, 0, none⟩ = some (.int .i64 0) ∧ w.frozen? ⟨B + 1, 0, none⟩ = false

/-- What the maker that counts reads. -/
structure SAt (B vb : Nat) (i q : Nat) (w : World) : Prop where
  p : PumpAt (B + 2) (B + 3) (B + 4) (B + 5) w
  v : w.cell? ⟨vb, 0, none⟩ = some (.pointer (some ⟨B + 2, 0, none⟩))
  vz : w.frozen? ⟨vb, 0, none⟩ = false
  i : w.cell? ⟨B, 0, none⟩ = some (.int .i64 i)
  iz : w.frozen? ⟨B, 0, none⟩ = false
  q : w.cell? ⟨B + 1, 0, none⟩ = some (.int .i64 q)
  qz : w.frozen? ⟨B + 1, 0, none⟩ = false
theorem SAt.rp {B room n vb i q : Nat} {w w₁ : World} (h : SAt B vb i q w) (r : RPx (fun a => (stopK B room n).C vb a ∨ (stopK B room n).Z a.block) w w₁) : SAt B vb i q w₁ := by
  have cp := fun m hm => r.cell ⟨B + 2, m, none⟩ (.inl (.inl ⟨m, hm, rfl⟩))
  have zp := fun m hm => r.froz ⟨B + 2, m, none⟩ (.inl (.inl ⟨m, hm, rfl⟩))
  exact ⟨⟨(cp 1 (by omega)).trans h.p.i, (zp 1 (by omega)).trans h.p.iz, (cp 2 (by omega)).trans h.p.s, (zp 2 (by omega)).trans h.p.sz, (cp 3 (by omega)).trans h.p.d, (zp 3 (by omega)).trans h.p.dz⟩,
    (r.cell _ (.inl (.inr rfl))).trans h.v, (r.froz _ (.inl (.inr rfl))).trans h.vz, (r.cell _ (.inr (.inl rfl))).trans h.i, (r.froz _ (.inr (.inl rfl))).trans h.iz, (r.cell _ (.inr (.inr rfl))).trans h.q, (r.froz _ (.inr (.inr rfl))).trans h.qz⟩
theorem SAt.setI {B vb i q : Nat} {w : World} (h : SAt B vb i q w) (hv : B + 6 ≤ vb) (x : Nat) : SAt B vb x q (w.setCell ⟨B, 0, none⟩ (.int .i64 x)) := by
  have o := fun (a : Addr) (ha : B ≠ a.block) => (⟨cell_of_block (heap_setCell w ⟨B, 0, none⟩ (.int .i64 x) ha), froz_of_block (heap_setCell w ⟨B, 0, none⟩ (.int .i64 x) ha)⟩ : _ ∧ _)
  have op := fun m => o ⟨B + 2, m, none⟩ (by simp)
  exact ⟨⟨(op 1).1.trans h.p.i, (op 1).2.trans h.p.iz, (op 2).1.trans h.p.s, (op 2).2.trans h.p.sz, (op 3).1.trans h.p.d, (op 3).2.trans h.p.dz⟩, (o _ (by simp only; omega)).1.trans h.v, (o _ (by simp only; omega)).2.trans h.vz,
    World.cell?_setCell_same _ _ _ h.i, by rw [World.frozen?_setCell]; exact h.iz, (o _ (by simp)).1.trans h.q, (o _ (by simp)).2.trans h.qz⟩
theorem SAt.setQ {B vb i q : Nat} {w : World} (h : SAt B vb i q w) (hv : B + 6 ≤ vb) (x : Nat) : SAt B vb i x (w.setCell ⟨B + 1, 0, none⟩ (.int .i64 x)) := by
  have o := fun (a : Addr) (ha : B + 1 ≠ a.block) => (⟨cell_of_block (heap_setCell w ⟨B + 1, 0, none⟩ (.int .i64 x) ha), froz_of_block (heap_setCell w ⟨B + 1, 0, none⟩ (.int .i64 x) ha)⟩ : _ ∧ _)
  have op := fun m => o ⟨B + 2, m, none⟩ (by simp)
  exact ⟨⟨(op 1).1.trans h.p.i, (op 1).2.trans h.p.iz, (op 2).1.trans h.p.s, (op 2).2.trans h.p.sz, (op 3).1.trans h.p.d, (op 3).2.trans h.p.dz⟩, (o _ (by simp only; omega)).1.trans h.v, (o _ (by simp only; omega)).2.trans h.vz,
    (o _ (by simp)).1.trans h.i, (o _ (by simp)).2.trans h.iz, World.cell?_setCell_same _ _ _ h.q, by rw [World.frozen?_setCell]; exact h.qz⟩
theorem evP_own {B room n vb j : Nat} {a : Addr} (wr : Bool) (h : a.block = B ∨ a.block = B + 1) : EvP ((stopK B room n).env j vb).Own ((stopK B room n).env j vb).Still ⟨.cell a, wr, false⟩ :=
  ⟨fun x hx => by simp [MemAct.ofEvent, MemAct.touch?] at hx; subst hx; exact .inl (.inr ⟨a, h, rfl⟩), by simp [Ev1]⟩
theorem dp_own {B room n vb j : Nat} (w : World) {a : Addr} (v : Value) (h : a.block = B ∨ a.block = B + 1) {es : Array Event} (hes : ∀ e ∈ es, EvP ((stopK B room n).env j vb).Own ((stopK B room n).env j vb).Still e) : DP ((stopK B room n).env j vb) w (w.setCell a v) es :=
  ⟨hes, heap_setCell _ _ _ (by simp only [stopK]; omega), heap_setCell _ _ _ (by simp only [stopK]; omega), heap_setCell _ _ _ (by simp only [stopK]; omega), ⟨rfl, rfl, rfl, by simp [World.setCell], fun k _ _ hz => heap_setCell _ _ _ (fun e => hz (e ▸ h))⟩⟩

section
variable {B room n vb j : Nat} (O : ((stopK B room n).env j vb).Ok)
include O
set_option maxRecDepth 100000 in
set_option maxHeartbeats 4000000 in
theorem loop15_ps (hv : B + 6 ≤ vb) (htr : n + 1 + room ≤ 1000) (c1 c2 c3 c4 c5 c6 c7 : Value) :
    ∀ (μ i q : Nat) (st : Bool) (w : World), n + 1 + room - i + (3 - q) ≤ μ → i ≤ n + 1 + room → q ≤ 3 → (0 < q → st = true) → SAt B vb i q w → ∀ (j5 j6 j7 j8 j9 j10 j11 j12 j13 : Value),
    PS ((stopK B room n).env j vb) (3 * μ + 2) i st false (G ((base 15).at ⟨#[.func (.func 23) #[.pointer (some ⟨B + 2, 0, none⟩)] #[], .pointer (some ⟨B + 1, 0, none⟩), .pointer (some ⟨B, 0, none⟩), undef, .int .i64 0, j5, j6, j7, j8, j9, j10, j11, j12, j13], []⟩
      [.code loop15, .inLoop loop15, .inBlock 0, .code after15]) [(baseD 22).at ⟨#[.pointer (some ⟨vb, 0, none⟩), c1, c2, c3, c4, c5, c6, c7, undef, undef, undef, undef, undef, undef, undef, undef, undef, undef], []⟩ [.inRegion ops22 [6, 7], .code rest22], bot]) w := by
  have T := O.quietP
  have hS : ∀ m, m < 4 → ((stopK B room n).env j vb).Still (.cell ⟨B + 2, m, none⟩) := fun m hm => ⟨_, .inl ⟨m, hm, rfl⟩, rfl⟩
  have hV : ((stopK B room n).env j vb).Still (.cell ⟨vb, 0, none⟩) := ⟨_, .inr rfl, rfl⟩
  have hend : ∀ (μ i : Nat) (st : Bool) (w : World), st = true → i ≤ n + 1 + room → SAt B vb i 3 w → ∀ (j5 j6 j7 j8 j9 j10 j11 j12 j13 : Value),
    PS ((stopK B room n).env j vb) (3 * μ + 2) i st false (G ((base 15).at ⟨#[.func (.func 23) #[.pointer (some ⟨B + 2, 0, none⟩)] #[], .pointer (some ⟨B + 1, 0, none⟩), .pointer (some ⟨B, 0, none⟩), undef, .int .i64 0, j5, j6, j7, j8, j9, j10, j11, j12, j13], []⟩
      [.code loop15, .inLoop loop15, .inBlock 0, .code after15]) [(baseD 22).at ⟨#[.pointer (some ⟨vb, 0, none⟩), c1, c2, c3, c4, c5, c6, c7, undef, undef, undef, undef, undef, undef, undef, undef, undef, undef], []⟩ [.inRegion ops22 [6, 7], .code rest22], bot]) w := by
    intro μ i st w hst hi hA j5 j6 j7 j8 j9 j10 j11 j12 j13
    have hw := fun w₁ (r : ((stopK B room n).env j vb).RP w w₁) => hA.rp r
    refine PS_Ev (k := 3 * μ + 1) ?_
    simp only [loop15, after15, body15, Try.f15, Option.getD_some]
    refine Ev.seq T ?_
    refine Ev.seq T ?_
    refine Ev.region T ?_
    simp only [List.size_toArray, List.length_cons, List.length_nil, Nat.reduceAdd, Nat.zero_add, List.range, List.range.loop]
    refine Ev.still T rfl rfl (by decide) (fun w₁ h₁ K' hK' => ?_)
    have hf0 := (hw w₁ h₁).q
    go_simp
    refine hK' _ (T.read _ _ (fun e he => by have hm := mem_listed he; simp [go_sem, *] at hm; subst hm; exact evP_own false (.inr rfl))) ?_
    clear hK' K' hf0 h₁ w₁
    try walk_nrm
    refine Ev.still T rfl rfl (by decide) (fun w₁ h₁ K' hK' => ?_)
    go_simp
    refine hK' _ (T.read _ _ (fun e he => by have hm := mem_listed he; simp [go_sem] at hm)) ?_
    clear hK' K' h₁ w₁
    try walk_nrm
    refine Ev.regionEnd T ?_
    refine Ev.cond T false (by simp [Act.eval]) ?_
    simp only [if_true, if_false, Bool.false_eq_true, ↓reduceIte]
    refine Ev.exit T rfl ?_
    refine Ev.seq T ?_
    refine Ev.region T ?_
    simp only [List.size_toArray, List.length_cons, List.length_nil, Nat.reduceAdd, Nat.zero_add, List.range, List.range.loop]
    refine Ev.still T rfl rfl (by decide) (fun w₁ h₁ K' hK' => ?_)
    go_simp
    refine hK' _ (T.read _ _ (fun e he => by have hm := mem_listed he; simp [go_sem] at hm)) ?_
    clear hK' K' h₁ w₁
    try walk_nrm
    refine Ev.regionEnd T ?_
    refine Ev.ret T ?_
    refine Ev.leave1 T (fn := Try.f15) rfl rfl Try.func15 rfl ?_
    try walk_nrm
    simp only [ops22, body22, Try.f22, Option.getD_some]
    try walk_nrm
    have hfin := PS.le (k' := 3 * μ + 2) (fin_ps (i := i) (st := st) (e := .int .i64 8) O hS hV (w := w) (fun w₁ h => ⟨(hw w₁ h).p, (hw w₁ h).v, (hw w₁ h).vz, ⟨rfl, hst, (hw w₁ h).i, (hw w₁ h).q⟩⟩) c1 c2 c3 c4 c5 c6 c7) (by omega)
    simp only [ops22, body22, Try.f22, Option.getD_some] at hfin
    exact hfin
  intro μ
  induction μ with
  | zero =>
    intro i q st w hμ hi hq hst hA j5 j6 j7 j8 j9 j10 j11 j12 j13
    obtain rfl : q = 3 := by omega
    exact hend 0 i st w (hst (by omega)) hi hA j5 j6 j7 j8 j9 j10 j11 j12 j13
  | succ μ ih =>
    intro i q st w hμ hi hq hst hA j5 j6 j7 j8 j9 j10 j11 j12 j13
    by_cases hq3 : q = 3
    · subst hq3
      exact hend (μ + 1) i st w (hst (by omega)) hi hA j5 j6 j7 j8 j9 j10 j11 j12 j13
    have hw := fun w₁ (r : ((stopK B room n).env j vb).RP w w₁) => hA.rp r
    have hqlt : (q : Int) < 3 := by omega
    refine PS_Ev (k := 3 * μ + 4) ?_
    simp only [loop15, after15, body15, Try.f15, Option.getD_some] at ih ⊢
    refine Ev.seq T ?_
    refine Ev.seq T ?_
    refine Ev.region T ?_
    simp only [List.size_toArray, List.length_cons, List.length_nil, Nat.reduceAdd, Nat.zero_add, List.range, List.range.loop]
    refine Ev.still T rfl rfl (by decide) (fun w₁ h₁ K' hK' => ?_)
    have hf0 := (hw w₁ h₁).q
    go_simp
    refine hK' _ (T.read _ _ (fun e he => by have hm := mem_listed he; simp [go_sem, *] at hm; subst hm; exact evP_own false (.inr rfl))) ?_
    clear hK' K' hf0 h₁ w₁
    try walk_nrm
    refine Ev.still T rfl rfl (by decide) (fun w₁ h₁ K' hK' => ?_)
    go_simp
    refine hK' _ (T.read _ _ (fun e he => by have hm := mem_listed he; simp [go_sem] at hm)) ?_
    clear hK' K' h₁ w₁
    try walk_nrm
    refine Ev.regionEnd T ?_
    refine Ev.cond T true (by simp [Act.eval, hqlt]) ?_
    simp only [if_true, if_false, Bool.false_eq_true, ↓reduceIte]
    refine Ev.skip T ?_
    refine Ev.block T ?_
    refine Ev.seq T ?_
    refine Ev.region T ?_
    simp only [List.size_toArray, List.length_cons, List.length_nil, Nat.reduceAdd, Nat.zero_add, List.range, List.range.loop]
    refine Ev.still T rfl rfl (by decide) (fun w₁ h₁ K' hK' => ?_)
    go_simp
    refine hK' _ (T.read _ _ (fun e he => by have hm := mem_listed he; simp [go_sem] at hm)) ?_
    clear hK' K' h₁ w₁
    try walk_nrm
    refine Ev.still T rfl rfl (by decide) (fun w₁ h₁ K' hK' => ?_)
    have hf0 := (hw w₁ h₁).i
    go_simp
    refine hK' _ (T.read _ _ (fun e he => by have hm := mem_listed he; simp [go_sem, *] at hm; subst hm; exact evP_own false (.inl rfl))) ?_
    clear hK' K' hf0 h₁ w₁
    try walk_nrm
    refine Ev.callv T (f := 23) (fn := Try.f23) (vs := #[.pointer (some ⟨B + 2, 0, none⟩), .int .i64 i]) rfl rfl (by decide) (fun w => by simp [go_sem, execOp, Act.eval, resolve, Deferred.ofValue, invoke, callFunc, Try.func23, Try.f23]) (fun w => by simp [go_sem, execOp, Act.eval, resolve, Deferred.ofValue, invoke, callFunc, Try.func23, Try.f23]) Try.func23 f23_body ?_
    rw [args23]
    refine PS_of (E := (stopK B room n).env j vb) (k := 3 * μ + 4) ?_
    refine put_ps (k := 3 * μ + 2) (i := i) (st := st) (x := (i : Int)) O trivial rfl hS (w := w) (fun w₁ h => (hw w₁ h).p) ?_ ?_
    · intro w₁ r₁ hb
      have hbb : i < n + 1 + room := hb
      have hA1 := hw w₁ r₁
      have hw1 := fun w₂ (r : ((stopK B room n).env j vb).RP w₁ w₂) => hA1.rp r
      refine PS_Ev (k := 3 * μ + 1) ?_
      try walk_nrm
      refine Ev.regionEnd T ?_
      refine Ev.cond T true rfl ?_
      simp only [if_true, if_false, Bool.false_eq_true, ↓reduceIte]
      refine Ev.region T ?_
      simp only [List.size_toArray, List.length_cons, List.length_nil, Nat.reduceAdd, Nat.zero_add, List.range, List.range.loop]
      refine Ev.still T rfl rfl (by decide) (fun w₂ h₂ K' hK' => ?_)
      have hf0 := (hw1 w₂ h₂).i
      go_simp
      refine hK' _ (T.read _ _ (fun e he => by have hm := mem_listed he; simp [go_sem, *] at hm; subst hm; exact evP_own false (.inl rfl))) ?_
      clear hK' K' hf0 h₂ w₂
      try walk_nrm
      refine Ev.still T rfl rfl (by decide) (fun w₁ h₁ K' hK' => ?_)
      go_simp
      refine hK' _ (T.read _ _ (fun e he => by have hm := mem_listed he; simp [go_sem] at hm)) ?_
      clear hK' K' h₁ w₁
      try walk_nrm
      rw [show IntKind.wrap .i64 ((i : Int) + 1) = ((i + 1 : Nat) : Int) from by rw [IntWalk.i64_in _ (by omega)]; omega]
      refine Ev.turn rfl rfl (by decide) (fun w₂ h₂ K' hK' => ?_)
      have hA2 := hw1 w₂ h₂
      have hf0 := hA2.i
      have hf1 := hA2.iz
      have hes := fun es => events_store Try.prog w₂ es ⟨B, 0, none⟩ (.int .i64 ((i + 1 : Nat) : Int)) .plain rfl
      go_simp
      have hA3 := hA2.setI hv (i + 1)
      refine hK' _ _ (dp_own w₂ (a := ⟨B, 0, none⟩) (.int .i64 ((i + 1 : Nat) : Int)) (.inl rfl) (fun e he => by have hm := mem_listed he; simp [go_sem, hes, storedEv, hf0, hf1] at hm; subst hm; exact evP_own true (.inl rfl))) ?_
      clear hK' K' hf0 hf1 hes
      try walk_nrm
      refine Ev.regionEnd T ?_
      refine Ev.inBlock T ?_
      refine Ev.inLoop T ?_
      exact ih (i + 1) q st _ (by omega) (by omega) hq hst (by simpa using hA3) _ _ _ _ _ _ _ _ _
    · intro w₁ r₁
      have hA1 := hw w₁ r₁
      have hw1 := fun w₂ (r : ((stopK B room n).env j vb).RP w₁ w₂) => hA1.rp r
      refine PS_Ev (k := 3 * μ + 1) ?_
      try walk_nrm
      refine Ev.regionEnd T ?_
      refine Ev.cond T false rfl ?_
      simp only [if_true, if_false, Bool.false_eq_true, ↓reduceIte]
      refine Ev.region T ?_
      simp only [List.size_toArray, List.length_cons, List.length_nil, Nat.reduceAdd, Nat.zero_add, List.range, List.range.loop]
      refine Ev.still T rfl rfl (by decide) (fun w₂ h₂ K' hK' => ?_)
      have hf0 := (hw1 w₂ h₂).q
      go_simp
      refine hK' _ (T.read _ _ (fun e he => by have hm := mem_listed he; simp [go_sem, *] at hm; subst hm; exact evP_own false (.inr rfl))) ?_
      clear hK' K' hf0 h₂ w₂
      try walk_nrm
      refine Ev.still T rfl rfl (by decide) (fun w₁ h₁ K' hK' => ?_)
      go_simp
      refine hK' _ (T.read _ _ (fun e he => by have hm := mem_listed he; simp [go_sem] at hm)) ?_
      clear hK' K' h₁ w₁
      try walk_nrm
      rw [show IntKind.wrap .i64 ((q : Int) + 1) = ((q + 1 : Nat) : Int) from by rw [IntWalk.i64_in _ (by omega)]; omega]
      refine Ev.turn rfl rfl (by decide) (fun w₂ h₂ K' hK' => ?_)
      have hA2 := hw1 w₂ h₂
      have hf0 := hA2.q
      have hf1 := hA2.qz
      have hes := fun es => events_store Try.prog w₂ es ⟨B + 1, 0, none⟩ (.int .i64 ((q + 1 : Nat) : Int)) .plain rfl
      go_simp
      have hA3 := hA2.setQ hv (q + 1)
      refine hK' _ _ (dp_own w₂ (a := ⟨B + 1, 0, none⟩) (.int .i64 ((q + 1 : Nat) : Int)) (.inr rfl) (fun e he => by have hm := mem_listed he; simp [go_sem, hes, storedEv, hf0, hf1] at hm; subst hm; exact evP_own true (.inr rfl))) ?_
      clear hK' K' hf0 hf1 hes
      try walk_nrm
      refine Ev.regionEnd T ?_
      refine Ev.inBlock T ?_
      refine Ev.inLoop T ?_
      exact ih i (q + 1) true _ (by omega) hi (by omega) (fun _ => rfl) (by simpa using hA3) _ _ _ _ _ _ _ _ _
set_option maxRecDepth 100000 in
set_option maxHeartbeats 4000000 in
/-- The maker that counts, from its birth. -/
theorem born15_ps (hv : B + 6 ≤ vb) (htr : n + 1 + room ≤ 1000) (w : World)
    (hw : ∀ w₁, ((stopK B room n).env j vb).RP w w₁ → SAt B vb 0 0 w₁ ∧ w₁.cell? ⟨B + 2, 0, none⟩ = some (.func (.func 15) #[] #[.pointer (some ⟨B + 1, 0, none⟩), .pointer (some ⟨B, 0, none⟩)]) ∧ w₁.frozen? ⟨B + 2, 0, none⟩ = false) :
    PS ((stopK B room n).env j vb) (3 * (n + 1 + room + 3) + 2) 0 false false (born Try.prog (call22 vb)) w := by
  have hS : ∀ m, m < 4 → ((stopK B room n).env j vb).Still (.cell ⟨B + 2, m, none⟩) := fun m hm => ⟨_, .inl ⟨m, hm, rfl⟩, rfl⟩
  have hV : ((stopK B room n).env j vb).Still (.cell ⟨vb, 0, none⟩) := ⟨_, .inr rfl, rfl⟩
  have T := O.quietP
  refine PS_Ev (k := 3 * (n + 1 + room + 3) + 1) ?_
  refine Ev.ctl T rfl (fun w => born_step vb w) ?_
  have hnext : ∀ c1 : Value, Ev Try.prog false ((stopK B room n).env j vb).RP (DP ((stopK B room n).env j vb)) (StopP ((stopK B room n).env j vb) (PS ((stopK B room n).env j vb) (3 * (n + 1 + room + 3) + 1)) 0 false false)
      (G ((baseD 22).at ⟨#[.pointer (some ⟨vb, 0, none⟩), c1, .pointer (some ⟨B + 2, 0, none⟩), .pointer (some ⟨B + 2, 0, none⟩), .pointer (some ⟨B + 2, 0, none⟩), .func (.func 15) #[] #[.pointer (some ⟨B + 1, 0, none⟩), .pointer (some ⟨B, 0, none⟩)], .pointer (some ⟨B + 2, 0, none⟩), .func (.func 23) #[.pointer (some ⟨B + 2, 0, none⟩)] #[], undef, undef, undef, undef, undef, undef, undef, undef, undef, undef], []⟩ [.inRegion ops22 [6, 7], .code rest22]) [bot]) w := by
    intro c1
    simp only [ops22, rest22, body22, Try.f22, Option.getD_some]
    refine Ev.callv T (f := 15) (fn := Try.f15) (vs := #[.func (.func 23) #[.pointer (some ⟨B + 2, 0, none⟩)] #[], .pointer (some ⟨B + 1, 0, none⟩), .pointer (some ⟨B, 0, none⟩)]) rfl rfl (by decide) (fun w => by simp [go_sem, execOp, Act.eval, resolve, Deferred.ofValue, invoke, callFunc, Try.func15, Try.f15]) (fun w => by simp [go_sem, execOp, Act.eval, resolve, Deferred.ofValue, invoke, callFunc, Try.func15, Try.f15]) Try.func15 f15_body ?_
    rw [args15]
    simp only [body15, Try.f15, Option.getD_some]
    refine Ev.seq T ?_
    refine Ev.region T ?_
    simp only [List.size_toArray, List.length_cons, List.length_nil, Nat.reduceAdd, Nat.zero_add, List.range, List.range.loop]
    refine Ev.still T rfl rfl (by decide) (fun w₁ h₁ K' hK' => ?_)
    go_simp
    refine hK' _ (T.read _ _ (fun e he => by have hm := mem_listed he; simp [go_sem] at hm)) ?_
    clear hK' K' h₁ w₁
    try walk_nrm
    refine Ev.regionEnd T ?_
    refine Ev.seq T ?_
    refine Ev.block T ?_
    refine Ev.loop T ?_
    have hx := loop15_ps O hv htr c1 (.pointer (some ⟨B + 2, 0, none⟩)) (.pointer (some ⟨B + 2, 0, none⟩)) (.pointer (some ⟨B + 2, 0, none⟩)) (.func (.func 15) #[] #[.pointer (some ⟨B + 1, 0, none⟩), .pointer (some ⟨B, 0, none⟩)]) (.pointer (some ⟨B + 2, 0, none⟩)) (.func (.func 23) #[.pointer (some ⟨B + 2, 0, none⟩)] #[]) (n + 1 + room + 3) 0 0 false w (by omega) (by omega) (by omega) (fun h => by omega) (hw w (O.rpAt w w.drawn)).1
    simp only [loop15, after15, body15, Try.f15, ops22, rest22, body22, Try.f22, Option.getD_some] at hx
    exact hx _ _ _ _ _ _ _ _ _
  simp only [body22, Try.f22, Option.getD_some]
  refine Ev.seq T ?_
  refine Ev.draw T (fun w d => ⟨by simp, rfl, rfl, rfl, O.rmAt w d⟩) O.rpAt (fun t => ?_)
  have ho := ord22 (Try.prog.follows .mixedOrders) t
  have hn := hnext undef
  simp only [ops22, rest22, body22, Try.f22, Option.getD_some] at ho hn
  generalize Region.schedule (Try.prog.follows .mixedOrders) _ t = ord at ho ⊢
  simp only [ords22, List.mem_cons, List.not_mem_nil, or_false] at ho
  clear hnext
  rcases ho with rfl | rfl | rfl | rfl | rfl | rfl | rfl | rfl | rfl | rfl | rfl | rfl | rfl | rfl | rfl
  · refine Ev.still T rfl rfl (by decide) (fun w₁ h₁ K' hK' => ?_)
    have hf0 := (hw w₁ h₁).1.v
    have hf1 := (hw w₁ h₁).1.vz
    go_simp
    refine hK' _ (T.read _ _ (fun e he => by have hm := mem_listed he; simp [go_sem, *] at hm; subst hm; exact evP_read (.inr hV))) ?_
    clear hK' K' hf0 hf1 h₁ w₁
    try walk_nrm
    refine Ev.still T rfl rfl (by decide) (fun w₁ h₁ K' hK' => ?_)
    go_simp
    refine hK' _ (T.read _ _ (fun e he => by have hm := mem_listed he; simp [go_sem] at hm)) ?_
    clear hK' K' h₁ w₁
    try walk_nrm
    refine Ev.still T rfl rfl (by decide) (fun w₁ h₁ K' hK' => ?_)
    have hf0 := (hw w₁ h₁).1.v
    have hf1 := (hw w₁ h₁).1.vz
    go_simp
    refine hK' _ (T.read _ _ (fun e he => by have hm := mem_listed he; simp [go_sem, *] at hm; subst hm; exact evP_read (.inr hV))) ?_
    clear hK' K' hf0 hf1 h₁ w₁
    try walk_nrm
    refine Ev.still T rfl rfl (by decide) (fun w₁ h₁ K' hK' => ?_)
    go_simp
    refine hK' _ (T.read _ _ (fun e he => by have hm := mem_listed he; simp [go_sem] at hm)) ?_
    clear hK' K' h₁ w₁
    try walk_nrm
    refine Ev.still T rfl rfl (by decide) (fun w₁ h₁ K' hK' => ?_)
    go_simp
    refine hK' _ (T.read _ _ (fun e he => by have hm := mem_listed he; simp [go_sem] at hm)) ?_
    clear hK' K' h₁ w₁
    try walk_nrm
    refine Ev.still T rfl rfl (by decide) (fun w₁ h₁ K' hK' => ?_)
    have hf0 := (hw w₁ h₁).2.1
    have hf1 := (hw w₁ h₁).2.2
    go_simp
    refine hK' _ (T.read _ _ (fun e he => by have hm := mem_listed he; simp [go_sem, *] at hm; subst hm; exact evP_read (.inr (hS 0 (by omega))))) ?_
    clear hK' K' hf0 hf1 h₁ w₁
    try walk_nrm
    exact hn
  · refine Ev.still T rfl rfl (by decide) (fun w₁ h₁ K' hK' => ?_)
    have hf0 := (hw w₁ h₁).1.v
    have hf1 := (hw w₁ h₁).1.vz
    go_simp
    refine hK' _ (T.read _ _ (fun e he => by have hm := mem_listed he; simp [go_sem, *] at hm; subst hm; exact evP_read (.inr hV))) ?_
    clear hK' K' hf0 hf1 h₁ w₁
    try walk_nrm
    refine Ev.still T rfl rfl (by decide) (fun w₁ h₁ K' hK' => ?_)
    have hf0 := (hw w₁ h₁).1.v
    have hf1 := (hw w₁ h₁).1.vz
    go_simp
    refine hK' _ (T.read _ _ (fun e he => by have hm := mem_listed he; simp [go_sem, *] at hm; subst hm; exact evP_read (.inr hV))) ?_
    clear hK' K' hf0 hf1 h₁ w₁
    try walk_nrm
    refine Ev.still T rfl rfl (by decide) (fun w₁ h₁ K' hK' => ?_)
    go_simp
    refine hK' _ (T.read _ _ (fun e he => by have hm := mem_listed he; simp [go_sem] at hm)) ?_
    clear hK' K' h₁ w₁
    try walk_nrm
    refine Ev.still T rfl rfl (by decide) (fun w₁ h₁ K' hK' => ?_)
    go_simp
    refine hK' _ (T.read _ _ (fun e he => by have hm := mem_listed he; simp [go_sem] at hm)) ?_
    clear hK' K' h₁ w₁
    try walk_nrm
    refine Ev.still T rfl rfl (by decide) (fun w₁ h₁ K' hK' => ?_)
    go_simp
    refine hK' _ (T.read _ _ (fun e he => by have hm := mem_listed he; simp [go_sem] at hm)) ?_
    clear hK' K' h₁ w₁
    try walk_nrm
    refine Ev.still T rfl rfl (by decide) (fun w₁ h₁ K' hK' => ?_)
    have hf0 := (hw w₁ h₁).2.1
    have hf1 := (hw w₁ h₁).2.2
    go_simp
    refine hK' _ (T.read _ _ (fun e he => by have hm := mem_listed he; simp [go_sem, *] at hm; subst hm; exact evP_read (.inr (hS 0 (by omega))))) ?_
    clear hK' K' hf0 hf1 h₁ w₁
    try walk_nrm
    exact hn
  · refine Ev.still T rfl rfl (by decide) (fun w₁ h₁ K' hK' => ?_)
    have hf0 := (hw w₁ h₁).1.v
    have hf1 := (hw w₁ h₁).1.vz
    go_simp
    refine hK' _ (T.read _ _ (fun e he => by have hm := mem_listed he; simp [go_sem, *] at hm; subst hm; exact evP_read (.inr hV))) ?_
    clear hK' K' hf0 hf1 h₁ w₁
    try walk_nrm
    refine Ev.still T rfl rfl (by decide) (fun w₁ h₁ K' hK' => ?_)
    have hf0 := (hw w₁ h₁).1.v
    have hf1 := (hw w₁ h₁).1.vz
    go_simp
    refine hK' _ (T.read _ _ (fun e he => by have hm := mem_listed he; simp [go_sem, *] at hm; subst hm; exact evP_read (.inr hV))) ?_
    clear hK' K' hf0 hf1 h₁ w₁
    try walk_nrm
    refine Ev.still T rfl rfl (by decide) (fun w₁ h₁ K' hK' => ?_)
    go_simp
    refine hK' _ (T.read _ _ (fun e he => by have hm := mem_listed he; simp [go_sem] at hm)) ?_
    clear hK' K' h₁ w₁
    try walk_nrm
    refine Ev.still T rfl rfl (by decide) (fun w₁ h₁ K' hK' => ?_)
    go_simp
    refine hK' _ (T.read _ _ (fun e he => by have hm := mem_listed he; simp [go_sem] at hm)) ?_
    clear hK' K' h₁ w₁
    try walk_nrm
    refine Ev.still T rfl rfl (by decide) (fun w₁ h₁ K' hK' => ?_)
    go_simp
    refine hK' _ (T.read _ _ (fun e he => by have hm := mem_listed he; simp [go_sem] at hm)) ?_
    clear hK' K' h₁ w₁
    try walk_nrm
    refine Ev.still T rfl rfl (by decide) (fun w₁ h₁ K' hK' => ?_)
    have hf0 := (hw w₁ h₁).2.1
    have hf1 := (hw w₁ h₁).2.2
    go_simp
    refine hK' _ (T.read _ _ (fun e he => by have hm := mem_listed he; simp [go_sem, *] at hm; subst hm; exact evP_read (.inr (hS 0 (by omega))))) ?_
    clear hK' K' hf0 hf1 h₁ w₁
    try walk_nrm
    exact hn
  · refine Ev.still T rfl rfl (by decide) (fun w₁ h₁ K' hK' => ?_)
    have hf0 := (hw w₁ h₁).1.v
    have hf1 := (hw w₁ h₁).1.vz
    go_simp
    refine hK' _ (T.read _ _ (fun e he => by have hm := mem_listed he; simp [go_sem, *] at hm; subst hm; exact evP_read (.inr hV))) ?_
    clear hK' K' hf0 hf1 h₁ w₁
    try walk_nrm
    refine Ev.still T rfl rfl (by decide) (fun w₁ h₁ K' hK' => ?_)
    have hf0 := (hw w₁ h₁).1.v
    have hf1 := (hw w₁ h₁).1.vz
    go_simp
    refine hK' _ (T.read _ _ (fun e he => by have hm := mem_listed he; simp [go_sem, *] at hm; subst hm; exact evP_read (.inr hV))) ?_
    clear hK' K' hf0 hf1 h₁ w₁
    try walk_nrm
    refine Ev.still T rfl rfl (by decide) (fun w₁ h₁ K' hK' => ?_)
    go_simp
    refine hK' _ (T.read _ _ (fun e he => by have hm := mem_listed he; simp [go_sem] at hm)) ?_
    clear hK' K' h₁ w₁
    try walk_nrm
    refine Ev.still T rfl rfl (by decide) (fun w₁ h₁ K' hK' => ?_)
    go_simp
    refine hK' _ (T.read _ _ (fun e he => by have hm := mem_listed he; simp [go_sem] at hm)) ?_
    clear hK' K' h₁ w₁
    try walk_nrm
    refine Ev.still T rfl rfl (by decide) (fun w₁ h₁ K' hK' => ?_)
    go_simp
    refine hK' _ (T.read _ _ (fun e he => by have hm := mem_listed he; simp [go_sem] at hm)) ?_
    clear hK' K' h₁ w₁
    try walk_nrm
    refine Ev.still T rfl rfl (by decide) (fun w₁ h₁ K' hK' => ?_)
    have hf0 := (hw w₁ h₁).2.1
    have hf1 := (hw w₁ h₁).2.2
    go_simp
    refine hK' _ (T.read _ _ (fun e he => by have hm := mem_listed he; simp [go_sem, *] at hm; subst hm; exact evP_read (.inr (hS 0 (by omega))))) ?_
    clear hK' K' hf0 hf1 h₁ w₁
    try walk_nrm
    exact hn
  · refine Ev.still T rfl rfl (by decide) (fun w₁ h₁ K' hK' => ?_)
    have hf0 := (hw w₁ h₁).1.v
    have hf1 := (hw w₁ h₁).1.vz
    go_simp
    refine hK' _ (T.read _ _ (fun e he => by have hm := mem_listed he; simp [go_sem, *] at hm; subst hm; exact evP_read (.inr hV))) ?_
    clear hK' K' hf0 hf1 h₁ w₁
    try walk_nrm
    refine Ev.still T rfl rfl (by decide) (fun w₁ h₁ K' hK' => ?_)
    have hf0 := (hw w₁ h₁).1.v
    have hf1 := (hw w₁ h₁).1.vz
    go_simp
    refine hK' _ (T.read _ _ (fun e he => by have hm := mem_listed he; simp [go_sem, *] at hm; subst hm; exact evP_read (.inr hV))) ?_
    clear hK' K' hf0 hf1 h₁ w₁
    try walk_nrm
    refine Ev.still T rfl rfl (by decide) (fun w₁ h₁ K' hK' => ?_)
    go_simp
    refine hK' _ (T.read _ _ (fun e he => by have hm := mem_listed he; simp [go_sem] at hm)) ?_
    clear hK' K' h₁ w₁
    try walk_nrm
    refine Ev.still T rfl rfl (by decide) (fun w₁ h₁ K' hK' => ?_)
    go_simp
    refine hK' _ (T.read _ _ (fun e he => by have hm := mem_listed he; simp [go_sem] at hm)) ?_
    clear hK' K' h₁ w₁
    try walk_nrm
    refine Ev.still T rfl rfl (by decide) (fun w₁ h₁ K' hK' => ?_)
    have hf0 := (hw w₁ h₁).2.1
    have hf1 := (hw w₁ h₁).2.2
    go_simp
    refine hK' _ (T.read _ _ (fun e he => by have hm := mem_listed he; simp [go_sem, *] at hm; subst hm; exact evP_read (.inr (hS 0 (by omega))))) ?_
    clear hK' K' hf0 hf1 h₁ w₁
    try walk_nrm
    refine Ev.still T rfl rfl (by decide) (fun w₁ h₁ K' hK' => ?_)
    go_simp
    refine hK' _ (T.read _ _ (fun e he => by have hm := mem_listed he; simp [go_sem] at hm)) ?_
    clear hK' K' h₁ w₁
    try walk_nrm
    exact hn
  · refine Ev.still T rfl rfl (by decide) (fun w₁ h₁ K' hK' => ?_)
    have hf0 := (hw w₁ h₁).1.v
    have hf1 := (hw w₁ h₁).1.vz
    go_simp
    refine hK' _ (T.read _ _ (fun e he => by have hm := mem_listed he; simp [go_sem, *] at hm; subst hm; exact evP_read (.inr hV))) ?_
    clear hK' K' hf0 hf1 h₁ w₁
    try walk_nrm
    refine Ev.still T rfl rfl (by decide) (fun w₁ h₁ K' hK' => ?_)
    have hf0 := (hw w₁ h₁).1.v
    have hf1 := (hw w₁ h₁).1.vz
    go_simp
    refine hK' _ (T.read _ _ (fun e he => by have hm := mem_listed he; simp [go_sem, *] at hm; subst hm; exact evP_read (.inr hV))) ?_
    clear hK' K' hf0 hf1 h₁ w₁
    try walk_nrm
    refine Ev.still T rfl rfl (by decide) (fun w₁ h₁ K' hK' => ?_)
    go_simp
    refine hK' _ (T.read _ _ (fun e he => by have hm := mem_listed he; simp [go_sem] at hm)) ?_
    clear hK' K' h₁ w₁
    try walk_nrm
    refine Ev.still T rfl rfl (by decide) (fun w₁ h₁ K' hK' => ?_)
    go_simp
    refine hK' _ (T.read _ _ (fun e he => by have hm := mem_listed he; simp [go_sem] at hm)) ?_
    clear hK' K' h₁ w₁
    try walk_nrm
    refine Ev.still T rfl rfl (by decide) (fun w₁ h₁ K' hK' => ?_)
    go_simp
    refine hK' _ (T.read _ _ (fun e he => by have hm := mem_listed he; simp [go_sem] at hm)) ?_
    clear hK' K' h₁ w₁
    try walk_nrm
    refine Ev.still T rfl rfl (by decide) (fun w₁ h₁ K' hK' => ?_)
    have hf0 := (hw w₁ h₁).2.1
    have hf1 := (hw w₁ h₁).2.2
    go_simp
    refine hK' _ (T.read _ _ (fun e he => by have hm := mem_listed he; simp [go_sem, *] at hm; subst hm; exact evP_read (.inr (hS 0 (by omega))))) ?_
    clear hK' K' hf0 hf1 h₁ w₁
    try walk_nrm
    exact hn
  · refine Ev.still T rfl rfl (by decide) (fun w₁ h₁ K' hK' => ?_)
    have hf0 := (hw w₁ h₁).1.v
    have hf1 := (hw w₁ h₁).1.vz
    go_simp
    refine hK' _ (T.read _ _ (fun e he => by have hm := mem_listed he; simp [go_sem, *] at hm; subst hm; exact evP_read (.inr hV))) ?_
    clear hK' K' hf0 hf1 h₁ w₁
    try walk_nrm
    refine Ev.still T rfl rfl (by decide) (fun w₁ h₁ K' hK' => ?_)
    have hf0 := (hw w₁ h₁).1.v
    have hf1 := (hw w₁ h₁).1.vz
    go_simp
    refine hK' _ (T.read _ _ (fun e he => by have hm := mem_listed he; simp [go_sem, *] at hm; subst hm; exact evP_read (.inr hV))) ?_
    clear hK' K' hf0 hf1 h₁ w₁
    try walk_nrm
    refine Ev.still T rfl rfl (by decide) (fun w₁ h₁ K' hK' => ?_)
    go_simp
    refine hK' _ (T.read _ _ (fun e he => by have hm := mem_listed he; simp [go_sem] at hm)) ?_
    clear hK' K' h₁ w₁
    try walk_nrm
    refine Ev.still T rfl rfl (by decide) (fun w₁ h₁ K' hK' => ?_)
    go_simp
    refine hK' _ (T.read _ _ (fun e he => by have hm := mem_listed he; simp [go_sem] at hm)) ?_
    clear hK' K' h₁ w₁
    try walk_nrm
    refine Ev.still T rfl rfl (by decide) (fun w₁ h₁ K' hK' => ?_)
    go_simp
    refine hK' _ (T.read _ _ (fun e he => by have hm := mem_listed he; simp [go_sem] at hm)) ?_
    clear hK' K' h₁ w₁
    try walk_nrm
    refine Ev.still T rfl rfl (by decide) (fun w₁ h₁ K' hK' => ?_)
    have hf0 := (hw w₁ h₁).2.1
    have hf1 := (hw w₁ h₁).2.2
    go_simp
    refine hK' _ (T.read _ _ (fun e he => by have hm := mem_listed he; simp [go_sem, *] at hm; subst hm; exact evP_read (.inr (hS 0 (by omega))))) ?_
    clear hK' K' hf0 hf1 h₁ w₁
    try walk_nrm
    exact hn
  · refine Ev.still T rfl rfl (by decide) (fun w₁ h₁ K' hK' => ?_)
    have hf0 := (hw w₁ h₁).1.v
    have hf1 := (hw w₁ h₁).1.vz
    go_simp
    refine hK' _ (T.read _ _ (fun e he => by have hm := mem_listed he; simp [go_sem, *] at hm; subst hm; exact evP_read (.inr hV))) ?_
    clear hK' K' hf0 hf1 h₁ w₁
    try walk_nrm
    refine Ev.still T rfl rfl (by decide) (fun w₁ h₁ K' hK' => ?_)
    have hf0 := (hw w₁ h₁).1.v
    have hf1 := (hw w₁ h₁).1.vz
    go_simp
    refine hK' _ (T.read _ _ (fun e he => by have hm := mem_listed he; simp [go_sem, *] at hm; subst hm; exact evP_read (.inr hV))) ?_
    clear hK' K' hf0 hf1 h₁ w₁
    try walk_nrm
    refine Ev.still T rfl rfl (by decide) (fun w₁ h₁ K' hK' => ?_)
    go_simp
    refine hK' _ (T.read _ _ (fun e he => by have hm := mem_listed he; simp [go_sem] at hm)) ?_
    clear hK' K' h₁ w₁
    try walk_nrm
    refine Ev.still T rfl rfl (by decide) (fun w₁ h₁ K' hK' => ?_)
    go_simp
    refine hK' _ (T.read _ _ (fun e he => by have hm := mem_listed he; simp [go_sem] at hm)) ?_
    clear hK' K' h₁ w₁
    try walk_nrm
    refine Ev.still T rfl rfl (by decide) (fun w₁ h₁ K' hK' => ?_)
    go_simp
    refine hK' _ (T.read _ _ (fun e he => by have hm := mem_listed he; simp [go_sem] at hm)) ?_
    clear hK' K' h₁ w₁
    try walk_nrm
    refine Ev.still T rfl rfl (by decide) (fun w₁ h₁ K' hK' => ?_)
    have hf0 := (hw w₁ h₁).2.1
    have hf1 := (hw w₁ h₁).2.2
    go_simp
    refine hK' _ (T.read _ _ (fun e he => by have hm := mem_listed he; simp [go_sem, *] at hm; subst hm; exact evP_read (.inr (hS 0 (by omega))))) ?_
    clear hK' K' hf0 hf1 h₁ w₁
    try walk_nrm
    exact hn
  · refine Ev.still T rfl rfl (by decide) (fun w₁ h₁ K' hK' => ?_)
    have hf0 := (hw w₁ h₁).1.v
    have hf1 := (hw w₁ h₁).1.vz
    go_simp
    refine hK' _ (T.read _ _ (fun e he => by have hm := mem_listed he; simp [go_sem, *] at hm; subst hm; exact evP_read (.inr hV))) ?_
    clear hK' K' hf0 hf1 h₁ w₁
    try walk_nrm
    refine Ev.still T rfl rfl (by decide) (fun w₁ h₁ K' hK' => ?_)
    have hf0 := (hw w₁ h₁).1.v
    have hf1 := (hw w₁ h₁).1.vz
    go_simp
    refine hK' _ (T.read _ _ (fun e he => by have hm := mem_listed he; simp [go_sem, *] at hm; subst hm; exact evP_read (.inr hV))) ?_
    clear hK' K' hf0 hf1 h₁ w₁
    try walk_nrm
    refine Ev.still T rfl rfl (by decide) (fun w₁ h₁ K' hK' => ?_)
    go_simp
    refine hK' _ (T.read _ _ (fun e he => by have hm := mem_listed he; simp [go_sem] at hm)) ?_
    clear hK' K' h₁ w₁
    try walk_nrm
    refine Ev.still T rfl rfl (by decide) (fun w₁ h₁ K' hK' => ?_)
    go_simp
    refine hK' _ (T.read _ _ (fun e he => by have hm := mem_listed he; simp [go_sem] at hm)) ?_
    clear hK' K' h₁ w₁
    try walk_nrm
    refine Ev.still T rfl rfl (by decide) (fun w₁ h₁ K' hK' => ?_)
    have hf0 := (hw w₁ h₁).2.1
    have hf1 := (hw w₁ h₁).2.2
    go_simp
    refine hK' _ (T.read _ _ (fun e he => by have hm := mem_listed he; simp [go_sem, *] at hm; subst hm; exact evP_read (.inr (hS 0 (by omega))))) ?_
    clear hK' K' hf0 hf1 h₁ w₁
    try walk_nrm
    refine Ev.still T rfl rfl (by decide) (fun w₁ h₁ K' hK' => ?_)
    go_simp
    refine hK' _ (T.read _ _ (fun e he => by have hm := mem_listed he; simp [go_sem] at hm)) ?_
    clear hK' K' h₁ w₁
    try walk_nrm
    exact hn
  · refine Ev.still T rfl rfl (by decide) (fun w₁ h₁ K' hK' => ?_)
    have hf0 := (hw w₁ h₁).1.v
    have hf1 := (hw w₁ h₁).1.vz
    go_simp
    refine hK' _ (T.read _ _ (fun e he => by have hm := mem_listed he; simp [go_sem, *] at hm; subst hm; exact evP_read (.inr hV))) ?_
    clear hK' K' hf0 hf1 h₁ w₁
    try walk_nrm
    refine Ev.still T rfl rfl (by decide) (fun w₁ h₁ K' hK' => ?_)
    go_simp
    refine hK' _ (T.read _ _ (fun e he => by have hm := mem_listed he; simp [go_sem] at hm)) ?_
    clear hK' K' h₁ w₁
    try walk_nrm
    refine Ev.still T rfl rfl (by decide) (fun w₁ h₁ K' hK' => ?_)
    have hf0 := (hw w₁ h₁).1.v
    have hf1 := (hw w₁ h₁).1.vz
    go_simp
    refine hK' _ (T.read _ _ (fun e he => by have hm := mem_listed he; simp [go_sem, *] at hm; subst hm; exact evP_read (.inr hV))) ?_
    clear hK' K' hf0 hf1 h₁ w₁
    try walk_nrm
    refine Ev.still T rfl rfl (by decide) (fun w₁ h₁ K' hK' => ?_)
    go_simp
    refine hK' _ (T.read _ _ (fun e he => by have hm := mem_listed he; simp [go_sem] at hm)) ?_
    clear hK' K' h₁ w₁
    try walk_nrm
    refine Ev.still T rfl rfl (by decide) (fun w₁ h₁ K' hK' => ?_)
    go_simp
    refine hK' _ (T.read _ _ (fun e he => by have hm := mem_listed he; simp [go_sem] at hm)) ?_
    clear hK' K' h₁ w₁
    try walk_nrm
    refine Ev.still T rfl rfl (by decide) (fun w₁ h₁ K' hK' => ?_)
    have hf0 := (hw w₁ h₁).2.1
    have hf1 := (hw w₁ h₁).2.2
    go_simp
    refine hK' _ (T.read _ _ (fun e he => by have hm := mem_listed he; simp [go_sem, *] at hm; subst hm; exact evP_read (.inr (hS 0 (by omega))))) ?_
    clear hK' K' hf0 hf1 h₁ w₁
    try walk_nrm
    exact hn
  · refine Ev.still T rfl rfl (by decide) (fun w₁ h₁ K' hK' => ?_)
    have hf0 := (hw w₁ h₁).1.v
    have hf1 := (hw w₁ h₁).1.vz
    go_simp
    refine hK' _ (T.read _ _ (fun e he => by have hm := mem_listed he; simp [go_sem, *] at hm; subst hm; exact evP_read (.inr hV))) ?_
    clear hK' K' hf0 hf1 h₁ w₁
    try walk_nrm
    refine Ev.still T rfl rfl (by decide) (fun w₁ h₁ K' hK' => ?_)
    go_simp
    refine hK' _ (T.read _ _ (fun e he => by have hm := mem_listed he; simp [go_sem] at hm)) ?_
    clear hK' K' h₁ w₁
    try walk_nrm
    refine Ev.still T rfl rfl (by decide) (fun w₁ h₁ K' hK' => ?_)
    have hf0 := (hw w₁ h₁).1.v
    have hf1 := (hw w₁ h₁).1.vz
    go_simp
    refine hK' _ (T.read _ _ (fun e he => by have hm := mem_listed he; simp [go_sem, *] at hm; subst hm; exact evP_read (.inr hV))) ?_
    clear hK' K' hf0 hf1 h₁ w₁
    try walk_nrm
    refine Ev.still T rfl rfl (by decide) (fun w₁ h₁ K' hK' => ?_)
    go_simp
    refine hK' _ (T.read _ _ (fun e he => by have hm := mem_listed he; simp [go_sem] at hm)) ?_
    clear hK' K' h₁ w₁
    try walk_nrm
    refine Ev.still T rfl rfl (by decide) (fun w₁ h₁ K' hK' => ?_)
    go_simp
    refine hK' _ (T.read _ _ (fun e he => by have hm := mem_listed he; simp [go_sem] at hm)) ?_
    clear hK' K' h₁ w₁
    try walk_nrm
    refine Ev.still T rfl rfl (by decide) (fun w₁ h₁ K' hK' => ?_)
    have hf0 := (hw w₁ h₁).2.1
    have hf1 := (hw w₁ h₁).2.2
    go_simp
    refine hK' _ (T.read _ _ (fun e he => by have hm := mem_listed he; simp [go_sem, *] at hm; subst hm; exact evP_read (.inr (hS 0 (by omega))))) ?_
    clear hK' K' hf0 hf1 h₁ w₁
    try walk_nrm
    exact hn
  · refine Ev.still T rfl rfl (by decide) (fun w₁ h₁ K' hK' => ?_)
    have hf0 := (hw w₁ h₁).1.v
    have hf1 := (hw w₁ h₁).1.vz
    go_simp
    refine hK' _ (T.read _ _ (fun e he => by have hm := mem_listed he; simp [go_sem, *] at hm; subst hm; exact evP_read (.inr hV))) ?_
    clear hK' K' hf0 hf1 h₁ w₁
    try walk_nrm
    refine Ev.still T rfl rfl (by decide) (fun w₁ h₁ K' hK' => ?_)
    go_simp
    refine hK' _ (T.read _ _ (fun e he => by have hm := mem_listed he; simp [go_sem] at hm)) ?_
    clear hK' K' h₁ w₁
    try walk_nrm
    refine Ev.still T rfl rfl (by decide) (fun w₁ h₁ K' hK' => ?_)
    have hf0 := (hw w₁ h₁).1.v
    have hf1 := (hw w₁ h₁).1.vz
    go_simp
    refine hK' _ (T.read _ _ (fun e he => by have hm := mem_listed he; simp [go_sem, *] at hm; subst hm; exact evP_read (.inr hV))) ?_
    clear hK' K' hf0 hf1 h₁ w₁
    try walk_nrm
    refine Ev.still T rfl rfl (by decide) (fun w₁ h₁ K' hK' => ?_)
    go_simp
    refine hK' _ (T.read _ _ (fun e he => by have hm := mem_listed he; simp [go_sem] at hm)) ?_
    clear hK' K' h₁ w₁
    try walk_nrm
    refine Ev.still T rfl rfl (by decide) (fun w₁ h₁ K' hK' => ?_)
    have hf0 := (hw w₁ h₁).2.1
    have hf1 := (hw w₁ h₁).2.2
    go_simp
    refine hK' _ (T.read _ _ (fun e he => by have hm := mem_listed he; simp [go_sem, *] at hm; subst hm; exact evP_read (.inr (hS 0 (by omega))))) ?_
    clear hK' K' hf0 hf1 h₁ w₁
    try walk_nrm
    refine Ev.still T rfl rfl (by decide) (fun w₁ h₁ K' hK' => ?_)
    go_simp
    refine hK' _ (T.read _ _ (fun e he => by have hm := mem_listed he; simp [go_sem] at hm)) ?_
    clear hK' K' h₁ w₁
    try walk_nrm
    exact hn
  · refine Ev.still T rfl rfl (by decide) (fun w₁ h₁ K' hK' => ?_)
    have hf0 := (hw w₁ h₁).1.v
    have hf1 := (hw w₁ h₁).1.vz
    go_simp
    refine hK' _ (T.read _ _ (fun e he => by have hm := mem_listed he; simp [go_sem, *] at hm; subst hm; exact evP_read (.inr hV))) ?_
    clear hK' K' hf0 hf1 h₁ w₁
    try walk_nrm
    refine Ev.still T rfl rfl (by decide) (fun w₁ h₁ K' hK' => ?_)
    go_simp
    refine hK' _ (T.read _ _ (fun e he => by have hm := mem_listed he; simp [go_sem] at hm)) ?_
    clear hK' K' h₁ w₁
    try walk_nrm
    refine Ev.still T rfl rfl (by decide) (fun w₁ h₁ K' hK' => ?_)
    go_simp
    refine hK' _ (T.read _ _ (fun e he => by have hm := mem_listed he; simp [go_sem] at hm)) ?_
    clear hK' K' h₁ w₁
    try walk_nrm
    refine Ev.still T rfl rfl (by decide) (fun w₁ h₁ K' hK' => ?_)
    have hf0 := (hw w₁ h₁).1.v
    have hf1 := (hw w₁ h₁).1.vz
    go_simp
    refine hK' _ (T.read _ _ (fun e he => by have hm := mem_listed he; simp [go_sem, *] at hm; subst hm; exact evP_read (.inr hV))) ?_
    clear hK' K' hf0 hf1 h₁ w₁
    try walk_nrm
    refine Ev.still T rfl rfl (by decide) (fun w₁ h₁ K' hK' => ?_)
    go_simp
    refine hK' _ (T.read _ _ (fun e he => by have hm := mem_listed he; simp [go_sem] at hm)) ?_
    clear hK' K' h₁ w₁
    try walk_nrm
    refine Ev.still T rfl rfl (by decide) (fun w₁ h₁ K' hK' => ?_)
    have hf0 := (hw w₁ h₁).2.1
    have hf1 := (hw w₁ h₁).2.2
    go_simp
    refine hK' _ (T.read _ _ (fun e he => by have hm := mem_listed he; simp [go_sem, *] at hm; subst hm; exact evP_read (.inr (hS 0 (by omega))))) ?_
    clear hK' K' hf0 hf1 h₁ w₁
    try walk_nrm
    exact hn
  · refine Ev.still T rfl rfl (by decide) (fun w₁ h₁ K' hK' => ?_)
    have hf0 := (hw w₁ h₁).1.v
    have hf1 := (hw w₁ h₁).1.vz
    go_simp
    refine hK' _ (T.read _ _ (fun e he => by have hm := mem_listed he; simp [go_sem, *] at hm; subst hm; exact evP_read (.inr hV))) ?_
    clear hK' K' hf0 hf1 h₁ w₁
    try walk_nrm
    refine Ev.still T rfl rfl (by decide) (fun w₁ h₁ K' hK' => ?_)
    go_simp
    refine hK' _ (T.read _ _ (fun e he => by have hm := mem_listed he; simp [go_sem] at hm)) ?_
    clear hK' K' h₁ w₁
    try walk_nrm
    refine Ev.still T rfl rfl (by decide) (fun w₁ h₁ K' hK' => ?_)
    go_simp
    refine hK' _ (T.read _ _ (fun e he => by have hm := mem_listed he; simp [go_sem] at hm)) ?_
    clear hK' K' h₁ w₁
    try walk_nrm
    refine Ev.still T rfl rfl (by decide) (fun w₁ h₁ K' hK' => ?_)
    have hf0 := (hw w₁ h₁).1.v
    have hf1 := (hw w₁ h₁).1.vz
    go_simp
    refine hK' _ (T.read _ _ (fun e he => by have hm := mem_listed he; simp [go_sem, *] at hm; subst hm; exact evP_read (.inr hV))) ?_
    clear hK' K' hf0 hf1 h₁ w₁
    try walk_nrm
    refine Ev.still T rfl rfl (by decide) (fun w₁ h₁ K' hK' => ?_)
    have hf0 := (hw w₁ h₁).2.1
    have hf1 := (hw w₁ h₁).2.2
    go_simp
    refine hK' _ (T.read _ _ (fun e he => by have hm := mem_listed he; simp [go_sem, *] at hm; subst hm; exact evP_read (.inr (hS 0 (by omega))))) ?_
    clear hK' K' hf0 hf1 h₁ w₁
    try walk_nrm
    refine Ev.still T rfl rfl (by decide) (fun w₁ h₁ K' hK' => ?_)
    go_simp
    refine hK' _ (T.read _ _ (fun e he => by have hm := mem_listed he; simp [go_sem] at hm)) ?_
    clear hK' K' h₁ w₁
    try walk_nrm
    exact hn
  · refine Ev.still T rfl rfl (by decide) (fun w₁ h₁ K' hK' => ?_)
    have hf0 := (hw w₁ h₁).1.v
    have hf1 := (hw w₁ h₁).1.vz
    go_simp
    refine hK' _ (T.read _ _ (fun e he => by have hm := mem_listed he; simp [go_sem, *] at hm; subst hm; exact evP_read (.inr hV))) ?_
    clear hK' K' hf0 hf1 h₁ w₁
    try walk_nrm
    refine Ev.still T rfl rfl (by decide) (fun w₁ h₁ K' hK' => ?_)
    go_simp
    refine hK' _ (T.read _ _ (fun e he => by have hm := mem_listed he; simp [go_sem] at hm)) ?_
    clear hK' K' h₁ w₁
    try walk_nrm
    refine Ev.still T rfl rfl (by decide) (fun w₁ h₁ K' hK' => ?_)
    go_simp
    refine hK' _ (T.read _ _ (fun e he => by have hm := mem_listed he; simp [go_sem] at hm)) ?_
    clear hK' K' h₁ w₁
    try walk_nrm
    refine Ev.still T rfl rfl (by decide) (fun w₁ h₁ K' hK' => ?_)
    have hf0 := (hw w₁ h₁).2.1
    have hf1 := (hw w₁ h₁).2.2
    go_simp
    refine hK' _ (T.read _ _ (fun e he => by have hm := mem_listed he; simp [go_sem, *] at hm; subst hm; exact evP_read (.inr (hS 0 (by omega))))) ?_
    clear hK' K' hf0 hf1 h₁ w₁
    try walk_nrm
    refine Ev.still T rfl rfl (by decide) (fun w₁ h₁ K' hK' => ?_)
    have hf0 := (hw w₁ h₁).1.v
    have hf1 := (hw w₁ h₁).1.vz
    go_simp
    refine hK' _ (T.read _ _ (fun e he => by have hm := mem_listed he; simp [go_sem, *] at hm; subst hm; exact evP_read (.inr hV))) ?_
    clear hK' K' hf0 hf1 h₁ w₁
    try walk_nrm
    refine Ev.still T rfl rfl (by decide) (fun w₁ h₁ K' hK' => ?_)
    go_simp
    refine hK' _ (T.read _ _ (fun e he => by have hm := mem_listed he; simp [go_sem] at hm)) ?_
    clear hK' K' h₁ w₁
    try walk_nrm
    exact hn
end
end Go.Proofs.Ytnbfmbkglkjhmaa
