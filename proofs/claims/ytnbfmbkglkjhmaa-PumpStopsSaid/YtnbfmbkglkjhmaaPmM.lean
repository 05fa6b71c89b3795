import Derived.Test.YtnbfmbkglkjhmaaPmL
set_option linter.unusedSimpArgs false
set_option linter.unusedVariables false
namespace Go.Proofs.Ytnbfmbkglkjhmaa
open Go.Conc Go.RowKit Go.Pmp

noncomputable def body18 : Code := Try.f18.body.getD .skip
noncomputable def loop18 : Code := match body18 with | .seq _ (.seq (.seq _ (.block _ (.loop c))) _) => c | c => c
noncomputable def after18 : Code := match body18 with | .seq _ (.seq _ y) => y | c => c

section
variable {top j ci cs cd room : Nat} {f : Nat → Value} {Q : Nat → Prop} {End : Nat → Bool → Value → World → Prop} {Own Still : Loc → Prop} {RM RP : World → World → Prop}

/-- What the maker of a row reads. -/
structure RowAt (pb vb lb eb : Nat) (sp : Option Addr) (ad : Addr) (len cap : Nat) (ci cs cd : Nat) (L : Nat → Int) (e : Int) (w : World) : Prop where
  p : PumpAt pb ci cs cd w
  v : w.cell? ⟨vb, 0, none⟩ = some (.pointer (some ⟨pb, 0, none⟩))
  vz : w.frozen? ⟨vb, 0, none⟩ = false
  l : w.cell? ⟨lb, 0, none⟩ = some (.slice sp len cap)
  lz : w.frozen? ⟨lb, 0, none⟩ = false
  e : w.cell? ⟨eb, 0, none⟩ = some (.int .i64 e)
  ez : w.frozen? ⟨eb, 0, none⟩ = false
  x : ∀ i, i < len → w.cell? (ad.add i) = some (.int .i64 (L i))

theorem PS_of {E : Env} {k i : Nat} {st X : Bool} {g : Goroutine} {w : World} (h : PS E (k + 1) i st X g w) : Ev E.P false E.RP (DP E) (StopP E (PS E k) i st X) g w := h
theorem f23_body : Try.f23.body = some body23 := by simp only [body23, Try.f23, Option.getD_some]
theorem args23 (p x : Value) : (#[p, x] ++ Array.replicate (Try.f23.ntmps - (#[p, x] : Array Value).size) undef : Array Value) = #[p, x, undef, undef, undef, undef, undef, undef, undef, undef, undef, undef, undef, undef, undef, undef, undef, undef, undef, undef, undef, undef, undef, undef, undef] := by rw [Try.ntmps23]; walk_nrm

set_option maxRecDepth 100000 in
set_option maxHeartbeats 4000000 in
theorem loop_ps (O : (env top j ci cs cd room f Q End Own Still RM RP).Ok) {pb vb lb eb : Nat} {sp : Option Addr} {ad : Addr} {len cap : Nat} {L : Nat → Int} {e : Int} (hlen : len ≤ 1000) (hsp : 0 < len → sp = some ad) (hQ : ∀ i, i < len → Q i) (hf : ∀ i, i < len → f i = .int .i64 (L i))
    (hS : ∀ n, n < 4 → Still (.cell ⟨pb, n, none⟩)) (hV : Still (.cell ⟨vb, 0, none⟩)) (hL : Still (.cell ⟨lb, 0, none⟩)) (hEb : Still (.cell ⟨eb, 0, none⟩)) (hX : ∀ i, i < len → Still (.cell (ad.add i)))
    (hE1 : ∀ w, End len false (.int .i64 e) w) (hE2 : ∀ i w, i < len → End i true (.int .i64 10) w) (c1 c2 c3 c4 c5 c6 c7 : Value) :
    ∀ (d i : Nat) (w : World), i + d = len → (∀ w₁, RP w w₁ → RowAt pb vb lb eb sp ad len cap ci cs cd L e w₁) → ∀ (j6 j7 j8 j9 j10 j11 j12 j13 j14 j15 j16 j17 j18 : Value),
    PS (env top j ci cs cd room f Q End Own Still RM RP) (3 * d + 2) i false false (G ((base 18).at ⟨#[.func (.func 23) #[.pointer (some ⟨pb, 0, none⟩)] #[], .pointer (some ⟨lb, 0, none⟩), .pointer (some ⟨eb, 0, none⟩), undef, .int .i64 0, .int .i64 i, j6, j7, j8, j9, j10, j11, j12, j13, j14, j15, j16, j17, j18, undef], []⟩
      [.code loop18, .inLoop loop18, .inBlock 0, .code after18]) [(baseD 22).at ⟨#[.pointer (some ⟨vb, 0, none⟩), c1, c2, c3, c4, c5, c6, c7, undef, undef, undef, undef, undef, undef, undef, undef, undef, undef], []⟩ [.inRegion ops22 [6, 7], .code rest22], bot]) w := by
  have T := O.quietP
  intro d
  induction d with
  | zero =>
    intro i w hid hw j6 j7 j8 j9 j10 j11 j12 j13 j14 j15 j16 j17 j18
    obtain rfl : i = len := by omega
    refine PS_Ev ?_
    simp only [loop18, after18, body18, Try.f18, Option.getD_some]
    refine Ev.seq T ?_
    refine Ev.seq T ?_
    refine Ev.region T ?_
    simp only [List.size_toArray, List.length_cons, List.length_nil, Nat.reduceAdd, Nat.zero_add, List.range, List.range.loop]
    refine Ev.still T rfl rfl (by decide) (fun w₁ h₁ K' hK' => ?_)
    go_simp
    refine hK' _ (T.read _ _ (fun e he => by have hm := mem_listed he; simp [go_sem] at hm)) ?_
    clear hK' K' h₁ w₁
    try walk_nrm
    refine Ev.still T rfl rfl (by decide) (fun w₁ h₁ K' hK' => ?_)
    have hf0 := (hw w₁ h₁).l
    have hf1 := (hw w₁ h₁).lz
    go_simp
    refine hK' _ (T.read _ _ (fun e he => by have hm := mem_listed he; simp [go_sem, *] at hm; subst hm; exact evP_read (.inr hL))) ?_
    clear hK' K' hf0 hf1 h₁ w₁
    try walk_nrm
    refine Ev.still T rfl rfl (by decide) (fun w₁ h₁ K' hK' => ?_)
    go_simp
    refine hK' _ (T.read _ _ (fun e he => by have hm := mem_listed he; simp [go_sem] at hm)) ?_
    clear hK' K' h₁ w₁
    try walk_nrm
    refine Ev.still T rfl rfl (by decide) (fun w₁ h₁ K' hK' => ?_)
    go_simp
    refine hK' _ (T.read _ _ (fun e he => by have hm := mem_listed he; simp [go_sem] at hm)) ?_
    clear hK' K' h₁ w₁
    try walk_nrm
    refine Ev.regionEnd T ?_
    refine Ev.cond T false (by simp [Act.eval]) ?_
    simp only [if_true, if_false, Bool.false_eq_true, ↓reduceIte]
    refine Ev.exit T rfl ?_
    refine Ev.seq T ?_
    refine Ev.region T ?_
    simp only [List.size_toArray, List.length_cons, List.length_nil, Nat.reduceAdd, Nat.zero_add, List.range, List.range.loop]
    refine Ev.still T rfl rfl (by decide) (fun w₁ h₁ K' hK' => ?_)
    have hf0 := (hw w₁ h₁).e
    have hf1 := (hw w₁ h₁).ez
    go_simp
    refine hK' _ (T.read _ _ (fun e he => by have hm := mem_listed he; simp [go_sem, *] at hm; subst hm; exact evP_read (.inr hEb))) ?_
    clear hK' K' hf0 hf1 h₁ w₁
    try walk_nrm
    refine Ev.still T rfl rfl (by decide) (fun w₁ h₁ K' hK' => ?_)
    go_simp
    refine hK' _ (T.read _ _ (fun e he => by have hm := mem_listed he; simp [go_sem] at hm)) ?_
    clear hK' K' h₁ w₁
    try walk_nrm
    refine Ev.regionEnd T ?_
    refine Ev.ret T ?_
    refine Ev.leave1 T (fn := Try.f18) rfl rfl Try.func18 rfl ?_
    try walk_nrm
    simp only [ops22, body22, Try.f22, Option.getD_some]
    try walk_nrm
    have hfin := fin_ps (i := i) (st := false) (e := .int .i64 e) O hS hV (w := w) (fun w₁ h => ⟨(hw w₁ h).p, (hw w₁ h).v, (hw w₁ h).vz, hE1 w₁⟩) c1 c2 c3 c4 c5 c6 c7
    simp only [ops22, body22, Try.f22, Option.getD_some] at hfin
    exact hfin
  | succ d ih =>
    intro i w hid hw j6 j7 j8 j9 j10 j11 j12 j13 j14 j15 j16 j17 j18
    have hil : i < len := by omega
    obtain rfl := hsp (by omega)
    have hlt : (i : Int) < (len : Int) := by omega
    refine PS_Ev (k := 3 * d + 4) ?_
    simp only [loop18, after18, body18, Try.f18, Option.getD_some]
    refine Ev.seq T ?_
    refine Ev.seq T ?_
    refine Ev.region T ?_
    simp only [List.size_toArray, List.length_cons, List.length_nil, Nat.reduceAdd, Nat.zero_add, List.range, List.range.loop]
    refine Ev.still T rfl rfl (by decide) (fun w₁ h₁ K' hK' => ?_)
    go_simp
    refine hK' _ (T.read _ _ (fun e he => by have hm := mem_listed he; simp [go_sem] at hm)) ?_
    clear hK' K' h₁ w₁
    try walk_nrm
    refine Ev.still T rfl rfl (by decide) (fun w₁ h₁ K' hK' => ?_)
    have hf0 := (hw w₁ h₁).l
    have hf1 := (hw w₁ h₁).lz
    go_simp
    refine hK' _ (T.read _ _ (fun e he => by have hm := mem_listed he; simp [go_sem, *] at hm; subst hm; exact evP_read (.inr hL))) ?_
    clear hK' K' hf0 hf1 h₁ w₁
    try walk_nrm
    refine Ev.still T rfl rfl (by decide) (fun w₁ h₁ K' hK' => ?_)
    go_simp
    refine hK' _ (T.read _ _ (fun e he => by have hm := mem_listed he; simp [go_sem] at hm)) ?_
    clear hK' K' h₁ w₁
    try walk_nrm
    refine Ev.still T rfl rfl (by decide) (fun w₁ h₁ K' hK' => ?_)
    go_simp
    refine hK' _ (T.read _ _ (fun e he => by have hm := mem_listed he; simp [go_sem] at hm)) ?_
    clear hK' K' h₁ w₁
    try walk_nrm
    refine Ev.regionEnd T ?_
    refine Ev.cond T true rfl ?_
    simp only [if_true, if_false, Bool.false_eq_true, ↓reduceIte]
    refine Ev.skip T ?_
    refine Ev.seq T ?_
    refine Ev.block T ?_
    refine Ev.seq T ?_
    refine Ev.region T ?_
    simp only [List.size_toArray, List.length_cons, List.length_nil, Nat.reduceAdd, Nat.zero_add, List.range, List.range.loop]
    refine Ev.still T rfl rfl (by decide) (fun w₁ h₁ K' hK' => ?_)
    go_simp
    refine hK' _ (T.read _ _ (fun e he => by have hm := mem_listed he; simp [go_sem] at hm)) ?_
    clear hK' K' h₁ w₁
    try walk_nrm
    refine Ev.still T rfl rfl (by decide) (fun w₁ h₁ K' hK' => ?_)
    have hf0 := (hw w₁ h₁).l
    have hf1 := (hw w₁ h₁).lz
    go_simp
    refine hK' _ (T.read _ _ (fun e he => by have hm := mem_listed he; simp [go_sem, *] at hm; subst hm; exact evP_read (.inr hL))) ?_
    clear hK' K' hf0 hf1 h₁ w₁
    try walk_nrm
    refine Ev.still T rfl rfl (by decide) (fun w₁ h₁ K' hK' => ?_)
    go_simp
    refine hK' _ (T.read _ _ (fun e he => by have hm := mem_listed he; simp [go_sem] at hm)) ?_
    clear hK' K' h₁ w₁
    try walk_nrm
    refine Ev.still T rfl rfl (by decide) (fun w₁ h₁ K' hK' => ?_)
    go_simp
    refine hK' _ (T.read _ _ (fun e he => by have hm := mem_listed he; simp [go_sem, *] at hm)) ?_
    clear hK' K' h₁ w₁
    try walk_nrm
    refine Ev.still T rfl rfl (by decide) (fun w₁ h₁ K' hK' => ?_)
    have hf0 := (hw w₁ h₁).x i hil
    go_simp
    refine hK' _ (T.read _ _ (fun e he => by have hm := mem_listed he; simp [go_sem, *] at hm; subst hm; exact evP_read (.inr (hX i hil)))) ?_
    clear hK' K' hf0 h₁ w₁
    try walk_nrm
    refine Ev.callv T (f := 23) (fn := Try.f23) (vs := #[.pointer (some ⟨pb, 0, none⟩), .int .i64 (L i)]) rfl rfl (by decide) (fun w => by simp [go_sem, execOp, Act.eval, resolve, Deferred.ofValue, invoke, callFunc, Try.func23, Try.f23]) (fun w => by simp [go_sem, execOp, Act.eval, resolve, Deferred.ofValue, invoke, callFunc, Try.func23, Try.f23]) Try.func23 f23_body ?_
    rw [args23]
    refine PS_of (E := env top j ci cs cd room f Q End Own Still RM RP) (k := 3 * d + 4) ?_
    refine put_ps (k := 3 * d + 2) (i := i) (st := false) (x := L i) O (hQ i hil) (hf i hil) hS (w := w) (fun w₁ h => (hw w₁ h).p) ?_ ?_
    · intro w₁ r₁ _
      have hw' := fun w₂ h => hw w₂ (O.rpT _ _ _ r₁ h)
      refine PS_Ev (k := 3 * d + 1) ?_
      try walk_nrm
      refine Ev.still T rfl rfl (by decide) (fun w₁ h₁ K' hK' => ?_)
      go_simp
      refine hK' _ (T.read _ _ (fun e he => by have hm := mem_listed he; simp [go_sem] at hm)) ?_
      clear hK' K' h₁ w₁
      try walk_nrm
      refine Ev.regionEnd T ?_
      refine Ev.cond T false rfl ?_
      simp only [if_true, if_false, Bool.false_eq_true, ↓reduceIte]
      refine Ev.skip T ?_
      refine Ev.inBlock T ?_
      refine Ev.region T ?_
      simp only [List.size_toArray, List.length_cons, List.length_nil, Nat.reduceAdd, Nat.zero_add, List.range, List.range.loop]
      refine Ev.still T rfl rfl (by decide) (fun w₁ h₁ K' hK' => ?_)
      go_simp
      refine hK' _ (T.read _ _ (fun e he => by have hm := mem_listed he; simp [go_sem] at hm)) ?_
      clear hK' K' h₁ w₁
      try walk_nrm
      refine Ev.still T rfl rfl (by decide) (fun w₁ h₁ K' hK' => ?_)
      go_simp
      refine hK' _ (T.read _ _ (fun e he => by have hm := mem_listed he; simp [go_sem] at hm)) ?_
      clear hK' K' h₁ w₁
      try walk_nrm
      refine Ev.still T rfl rfl (by decide) (fun w₁ h₁ K' hK' => ?_)
      go_simp
      refine hK' _ (T.read _ _ (fun e he => by have hm := mem_listed he; simp [go_sem] at hm)) ?_
      clear hK' K' h₁ w₁
      try walk_nrm
      refine Ev.regionEnd T ?_
      refine Ev.inLoop T ?_
      have hwr : IntKind.wrap .i64 ((i : Int) + 1) = ((i + 1 : Nat) : Int) := by rw [IntWalk.i64_in _ (by omega)]; omega
      rw [hwr]
      have hx := ih (i + 1) w₁ (by omega) hw'
      simp only [loop18, after18, body18, Try.f18, Option.getD_some] at hx
      exact hx _ _ _ _ _ _ _ _ _ _ _ _ _
    · intro w₁ r₁
      have hw' := fun w₂ h => hw w₂ (O.rpT _ _ _ r₁ h)
      refine PS_Ev (k := 3 * d + 1) ?_
      try walk_nrm
      refine Ev.still T rfl rfl (by decide) (fun w₁ h₁ K' hK' => ?_)
      go_simp
      refine hK' _ (T.read _ _ (fun e he => by have hm := mem_listed he; simp [go_sem] at hm)) ?_
      clear hK' K' h₁ w₁
      try walk_nrm
      refine Ev.regionEnd T ?_
      refine Ev.cond T true rfl ?_
      simp only [if_true, if_false, Bool.false_eq_true, ↓reduceIte]
      refine Ev.seq T ?_
      refine Ev.region T ?_
      simp only [List.size_toArray, List.length_cons, List.length_nil, Nat.reduceAdd, Nat.zero_add, List.range, List.range.loop]
      refine Ev.still T rfl rfl (by decide) (fun w₁ h₁ K' hK' => ?_)
      go_simp
      refine hK' _ (T.read _ _ (fun e he => by have hm := mem_listed he; simp [go_sem] at hm)) ?_
      clear hK' K' h₁ w₁
      try walk_nrm
      refine Ev.regionEnd T ?_
      refine Ev.ret T ?_
      refine Ev.leave1 T (fn := Try.f18) rfl rfl Try.func18 rfl ?_
      try walk_nrm
      simp only [ops22, body22, Try.f22, Option.getD_some]
      try walk_nrm
      have hfin := PS.le (k' := 3 * d + 2) (fin_ps (i := i) (st := true) (e := .int .i64 10) O hS hV (w := w₁) (fun w₂ h => ⟨(hw' w₂ h).p, (hw' w₂ h).v, (hw' w₂ h).vz, hE2 i w₂ hil⟩) c1 c2 c3 c4 c5 c6 c7) (by omega)
      simp only [ops22, body22, Try.f22, Option.getD_some] at hfin
      exact hfin
end
end Go.Proofs.Ytnbfmbkglkjhmaa
