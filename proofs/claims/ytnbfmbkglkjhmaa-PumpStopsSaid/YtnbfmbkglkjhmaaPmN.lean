import Derived.Test.YtnbfmbkglkjhmaaPmM
set_option linter.unusedSimpArgs false
set_option linter.unusedVariables false
namespace Go.Pmp
open Go.Conc
/-- Every order that the tape can pick. -/
def allOrd (m : Region.Mode) (ops : Array Oper) (K : List Nat → Bool) : Nat → Array Bool → List Nat → Bool
  | 0, _, acc => K acc.reverse
  | fuel + 1, listed, acc =>
    let rs := (List.range ops.size).filter fun i => !listed.getD i true && ((ops[i]?).map (·.after.all fun e => !Region.binds m e || listed.getD e.on false)).getD false
    (!rs.isEmpty || K acc.reverse) && rs.all fun i => allOrd m ops K fuel (listed.setIfInBounds i true) (i :: acc)
theorem allOrd_sound (m : Region.Mode) (ops : Array Oper) (K : List Nat → Bool) : ∀ (fuel t : Nat) (listed : Array Bool) (acc : List Nat), allOrd m ops K fuel listed acc = true → K (Region.linearise.go m ops fuel t listed acc) = true
  | 0, t, listed, acc, h => by simpa [Region.linearise.go, allOrd] using h
  | fuel + 1, t, listed, acc, h => by
    unfold allOrd at h
    unfold Region.linearise.go
    generalize hrs : ((List.range ops.size).filter fun i => !listed.getD i true && ((ops[i]?).map (·.after.all fun e => !Region.binds m e || listed.getD e.on false)).getD false) = rs at h ⊢
    simp only [Bool.and_eq_true, Bool.or_eq_true, List.all_eq_true] at h
    obtain ⟨h1, h2⟩ := h
    simp only []
    cases hi : rs[t % rs.length]? with
    | some i => exact allOrd_sound m ops K fuel _ _ _ (h2 i (List.mem_of_getElem? hi))
    | none =>
      cases rs with
      | nil => simpa using h1
      | cons x xs =>
        have hlt : t % (x :: xs).length < (x :: xs).length := Nat.mod_lt _ (by simp)
        rw [List.getElem?_eq_none_iff] at hi
        omega
theorem sched_all {ops : Array Oper} {K : List Nat → Bool} (h : ∀ m, allOrd m ops K ops.size (Array.replicate ops.size false) [] = true) (mixed : Bool) (t : Nat) : K (Region.schedule mixed ops t) = true := by
  unfold Region.schedule Region.linearise
  split
  · exact allOrd_sound _ _ _ _ _ _ _ (h _)
  · exact allOrd_sound _ _ _ _ _ _ _ (h _)

/-- A region that asks the tape for its order. -/
theorem Ev.draw {P : Program} {main : Bool} {R : World → World → Prop} {D : World → World → Array Event → Prop} {Ok : Event → Prop} {Stop : GW} (T : Quiet R D Ok) (hd : ∀ w d, D w (w.at d) #[]) (hR : ∀ w d, R w (w.at d)) {b : Frame} {a : Act} {k : List Item} {cs : List Frame} {w : World} {id : Nat} {ops : Array Oper}
    (h : ∀ t, Ev P main R D Stop (G (b.at a (.inRegion ops (Region.schedule (P.follows .mixedOrders) ops t) :: k)) cs) w) : Ev P main R D Stop (G (b.at a (.code (.region id ops true) :: k)) cs) w :=
  .go rfl fun w₁ h₁ => by
    rw [stepG_region_draw]
    exact ⟨hd w₁ (w₁.drawn + 1), (h _).rely T.trans (T.trans _ _ _ h₁ (hR w₁ (w₁.drawn + 1)))⟩
end Go.Pmp

namespace Go.Proofs.Ytnbfmbkglkjhmaa
open Go.Conc Go.RowKit Go.Pmp

def ords22 : List (List Nat) := [[4, 5, 0, 1, 2, 3, 6, 7], [4, 0, 5, 1, 2, 3, 6, 7], [4, 0, 1, 5, 2, 3, 6, 7], [4, 0, 1, 2, 5, 3, 6, 7], [4, 0, 1, 2, 3, 5, 6, 7], [0, 4, 5, 1, 2, 3, 6, 7], [0, 4, 1, 5, 2, 3, 6, 7], [0, 4, 1, 2, 5, 3, 6, 7], [0, 4, 1, 2, 3, 5, 6, 7], [0, 1, 4, 5, 2, 3, 6, 7], [0, 1, 4, 2, 5, 3, 6, 7], [0, 1, 4, 2, 3, 5, 6, 7], [0, 1, 2, 4, 5, 3, 6, 7], [0, 1, 2, 4, 3, 5, 6, 7], [0, 1, 2, 3, 4, 5, 6, 7]]
theorem ord22 (mixed : Bool) (t : Nat) : Region.schedule mixed ops22 t ∈ ords22 := by
  have h : ∀ m, allOrd m ops22 (fun l => ords22.contains l) ops22.size (Array.replicate ops22.size false) [] = true := by
    intro m
    cases m <;> kernel_rfl
  have := sched_all h mixed t
  simpa using this

def call22 (vb : Nat) : Deferred := { target := .fn (.func 22) #[.pointer (some ⟨vb, 0, none⟩)], args := #[] }
theorem born_step (vb : Nat) (w : World) : stepG Try.prog false (born Try.prog (call22 vb)) w =
    .go (G ((baseD 22).at ⟨#[.pointer (some ⟨vb, 0, none⟩), undef, undef, undef, undef, undef, undef, undef, undef, undef, undef, undef, undef, undef, undef, undef, undef, undef], []⟩ [.code body22]) [bot]) w #[] := by
  simp [born, call22, stepG, unwind, callDeferred, invoke, callFunc, Try.func22, Try.f22, seen, GStep.after, G, Frame.enter, Frame.at, baseD, bot, body22]

theorem f18_body : Try.f18.body = some body18 := by simp only [body18, Try.f18, Option.getD_some]
theorem args18 (p x y : Value) : (#[p, x, y] ++ Array.replicate (Try.f18.ntmps - (#[p, x, y] : Array Value).size) undef : Array Value) = #[p, x, y, undef, undef, undef, undef, undef, undef, undef, undef, undef, undef, undef, undef, undef, undef, undef, undef, undef] := by rw [Try.ntmps18]; walk_nrm

section
variable {top j ci cs cd room : Nat} {f : Nat → Value} {Q : Nat → Prop} {End : Nat → Bool → Value → World → Prop} {Own Still : Loc → Prop} {RM RP : World → World → Prop}
set_option maxRecDepth 100000 in
set_option maxHeartbeats 4000000 in
/-- THE MAKER OF A ROW, FROM ITS BIRTH. -/
theorem born_ps (O : (env top j ci cs cd room f Q End Own Still RM RP).Ok) {pb vb lb eb : Nat} {sp : Option Addr} {ad : Addr} {len cap : Nat} {L : Nat → Int} {e : Int} (hlen : len ≤ 1000) (hsp : 0 < len → sp = some ad) (hQ : ∀ i, i < len → Q i) (hf : ∀ i, i < len → f i = .int .i64 (L i))
    (hS : ∀ n, n < 4 → Still (.cell ⟨pb, n, none⟩)) (hV : Still (.cell ⟨vb, 0, none⟩)) (hL : Still (.cell ⟨lb, 0, none⟩)) (hEb : Still (.cell ⟨eb, 0, none⟩)) (hX : ∀ i, i < len → Still (.cell (ad.add i)))
    (hE1 : ∀ w, End len false (.int .i64 e) w) (hE2 : ∀ i w, i < len → End i true (.int .i64 10) w) (w : World)
    (hw : ∀ w₁, RP w w₁ → RowAt pb vb lb eb sp ad len cap ci cs cd L e w₁ ∧ w₁.cell? ⟨pb, 0, none⟩ = some (.func (.func 18) #[] #[.pointer (some ⟨lb, 0, none⟩), .pointer (some ⟨eb, 0, none⟩)]) ∧ w₁.frozen? ⟨pb, 0, none⟩ = false) :
    PS (env top j ci cs cd room f Q End Own Still RM RP) (3 * len + 2) 0 false false (born Try.prog (call22 vb)) w := by
  have T := O.quietP
  refine PS_Ev (k := 3 * len + 1) ?_
  refine Ev.ctl T rfl (fun w => born_step vb w) ?_
  have hnext : ∀ c1 : Value, Ev Try.prog false RP (DP (env top j ci cs cd room f Q End Own Still RM RP)) (StopP (env top j ci cs cd room f Q End Own Still RM RP) (PS (env top j ci cs cd room f Q End Own Still RM RP) (3 * len + 1)) 0 false false)
      (G ((baseD 22).at ⟨#[.pointer (some ⟨vb, 0, none⟩), c1, .pointer (some ⟨pb, 0, none⟩), .pointer (some ⟨pb, 0, none⟩), .pointer (some ⟨pb, 0, none⟩), .func (.func 18) #[] #[.pointer (some ⟨lb, 0, none⟩), .pointer (some ⟨eb, 0, none⟩)], .pointer (some ⟨pb, 0, none⟩), .func (.func 23) #[.pointer (some ⟨pb, 0, none⟩)] #[], undef, undef, undef, undef, undef, undef, undef, undef, undef, undef], []⟩ [.inRegion ops22 [6, 7], .code rest22]) [bot]) w := by
    intro c1
    simp only [ops22, rest22, body22, Try.f22, Option.getD_some]
    refine Ev.callv T (f := 18) (fn := Try.f18) (vs := #[.func (.func 23) #[.pointer (some ⟨pb, 0, none⟩)] #[], .pointer (some ⟨lb, 0, none⟩), .pointer (some ⟨eb, 0, none⟩)]) rfl rfl (by decide) (fun w => by simp [go_sem, execOp, Act.eval, resolve, Deferred.ofValue, invoke, callFunc, Try.func18, Try.f18]) (fun w => by simp [go_sem, execOp, Act.eval, resolve, Deferred.ofValue, invoke, callFunc, Try.func18, Try.f18]) Try.func18 f18_body ?_
    rw [args18]
    simp only [body18, Try.f18, Option.getD_some]
    refine Ev.seq T ?_
    refine Ev.region T ?_
    simp only [List.size_toArray, List.length_cons, List.length_nil, Nat.reduceAdd, Nat.zero_add, List.range, List.range.loop]
    refine Ev.still T rfl rfl (by decide) (fun w₁ h₁ K' hK' => ?_)
    go_simp
    refine hK' _ (T.read _ _ (fun e he => by have hm := mem_listed he; simp [go_sem] at hm)) ?_
    clear hK' K' h₁ w₁
    try walk_nrm
    refine Ev.regionEnd T ?_
    refine Ev.seq T ?_
    refine Ev.seq T ?_
    refine Ev.region T ?_
    simp only [List.size_toArray, List.length_cons, List.length_nil, Nat.reduceAdd, Nat.zero_add, List.range, List.range.loop]
    refine Ev.still T rfl rfl (by decide) (fun w₁ h₁ K' hK' => ?_)
    go_simp
    refine hK' _ (T.read _ _ (fun e he => by have hm := mem_listed he; simp [go_sem] at hm)) ?_
    clear hK' K' h₁ w₁
    try walk_nrm
    refine Ev.regionEnd T ?_
    refine Ev.block T ?_
    refine Ev.loop T ?_
    have hx := loop_ps (i := 0) O hlen hsp hQ hf hS hV hL hEb hX hE1 hE2 c1 (.pointer (some ⟨pb, 0, none⟩)) (.pointer (some ⟨pb, 0, none⟩)) (.pointer (some ⟨pb, 0, none⟩)) (.func (.func 18) #[] #[.pointer (some ⟨lb, 0, none⟩), .pointer (some ⟨eb, 0, none⟩)]) (.pointer (some ⟨pb, 0, none⟩)) (.func (.func 23) #[.pointer (some ⟨pb, 0, none⟩)] #[]) len w (by omega) (fun w₁ h => (hw w₁ h).1)
    simp only [loop18, after18, body18, Try.f18, ops22, rest22, body22, Try.f22, Option.getD_some] at hx
    exact hx _ _ _ _ _ _ _ _ _ _ _ _ _
  simp only [body22, Try.f22, Option.getD_some]
  refine Ev.seq T ?_
  refine Ev.draw T (fun w d => ⟨by simp, rfl, rfl, rfl, O.rmAt w d⟩) O.rpAt (fun t => ?_)
  have ho := ord22 (Try.prog.follows .mixedOrders) t
  have hn := hnext undef
  simp only [ops22, rest22, body22, Try.f22, Option.getD_some] at ho hn
  generalize Region.schedule (Try.prog.follows .mixedOrders) _ t = ord at ho ⊢
  simp only [ords22, List.mem_cons, List.not_mem_nil, or_false] at ho
  clear hnext
  rcases ho with rfl | rfl | rfl | rfl | rfl | rfl | rfl | rfl | rfl | rfl | rfl | rfl | rfl | rfl | rfl
  · refine Ev.still T rfl rfl (by decide) (fun w₁ h₁ K' hK' => ?_)
    have hf0 := (hw w₁ h₁).1.v
    have hf1 := (hw w₁ h₁).1.vz
    go_simp
    refine hK' _ (T.read _ _ (fun e he => by have hm := mem_listed he; simp [go_sem, *] at hm; subst hm; exact evP_read (.inr hV))) ?_
    clear hK' K' hf0 hf1 h₁ w₁
    try walk_nrm
    refine Ev.still T rfl rfl (by decide) (fun w₁ h₁ K' hK' => ?_)
    go_simp
    refine hK' _ (T.read _ _ (fun e he => by have hm := mem_listed he; simp [go_sem] at hm)) ?_
    clear hK' K' h₁ w₁
    try walk_nrm
    refine Ev.still T rfl rfl (by decide) (fun w₁ h₁ K' hK' => ?_)
    have hf0 := (hw w₁ h₁).1.v
    have hf1 := (hw w₁ h₁).1.vz
    go_simp
    refine hK' _ (T.read _ _ (fun e he => by have hm := mem_listed he; simp [go_sem, *] at hm; subst hm; exact evP_read (.inr hV))) ?_
    clear hK' K' hf0 hf1 h₁ w₁
    try walk_nrm
    refine Ev.still T rfl rfl (by decide) (fun w₁ h₁ K' hK' => ?_)
    go_simp
    refine hK' _ (T.read _ _ (fun e he => by have hm := mem_listed he; simp [go_sem] at hm)) ?_
    clear hK' K' h₁ w₁
    try walk_nrm
    refine Ev.still T rfl rfl (by decide) (fun w₁ h₁ K' hK' => ?_)
    go_simp
    refine hK' _ (T.read _ _ (fun e he => by have hm := mem_listed he; simp [go_sem] at hm)) ?_
    clear hK' K' h₁ w₁
    try walk_nrm
    refine Ev.still T rfl rfl (by decide) (fun w₁ h₁ K' hK' => ?_)
    have hf0 := (hw w₁ h₁).2.1
    have hf1 := (hw w₁ h₁).2.2
    go_simp
    refine hK' _ (T.read _ _ (fun e he => by have hm := mem_listed he; simp [go_sem, *] at hm; subst hm; exact evP_read (.inr (hS 0 (by omega))))) ?_
    clear hK' K' hf0 hf1 h₁ w₁
    try walk_nrm
    exact hn
  · refine Ev.still T rfl rfl (by decide) (fun w₁ h₁ K' hK' => ?_)
    have hf0 := (hw w₁ h₁).1.v
    have hf1 := (hw w₁ h₁).1.vz
    go_simp
    refine hK' _ (T.read _ _ (fun e he => by have hm := mem_listed he; simp [go_sem, *] at hm; subst hm; exact evP_read (.inr hV))) ?_
    clear hK' K' hf0 hf1 h₁ w₁
    try walk_nrm
    refine Ev.still T rfl rfl (by decide) (fun w₁ h₁ K' hK' => ?_)
    have hf0 := (hw w₁ h₁).1.v
    have hf1 := (hw w₁ h₁).1.vz
    go_simp
    refine hK' _ (T.read _ _ (fun e he => by have hm := mem_listed he; simp [go_sem, *] at hm; subst hm; exact evP_read (.inr hV))) ?_
    clear hK' K' hf0 hf1 h₁ w₁
    try walk_nrm
    refine Ev.still T rfl rfl (by decide) (fun w₁ h₁ K' hK' => ?_)
    go_simp
    refine hK' _ (T.read _ _ (fun e he => by have hm := mem_listed he; simp [go_sem] at hm)) ?_
    clear hK' K' h₁ w₁
    try walk_nrm
    refine Ev.still T rfl rfl (by decide) (fun w₁ h₁ K' hK' => ?_)
    go_simp
    refine hK' _ (T.read _ _ (fun e he => by have hm := mem_listed he; simp [go_sem] at hm)) ?_
    clear hK' K' h₁ w₁
    try walk_nrm
    refine Ev.still T rfl rfl (by decide) (fun w₁ h₁ K' hK' => ?_)
    go_simp
    refine hK' _ (T.read _ _ (fun e he => by have hm := mem_listed he; simp [go_sem] at hm)) ?_
    clear hK' K' h₁ w₁
    try walk_nrm
    refine Ev.still T rfl rfl (by decide) (fun w₁ h₁ K' hK' => ?_)
    have hf0 := (hw w₁ h₁).2.1
    have hf1 := (hw w₁ h₁).2.2
    go_simp
    refine hK' _ (T.read _ _ (fun e he => by have hm := mem_listed he; simp [go_sem, *] at hm; subst hm; exact evP_read (.inr (hS 0 (by omega))))) ?_
    clear hK' K' hf0 hf1 h₁ w₁
    try walk_nrm
    exact hn
  · refine Ev.still T rfl rfl (by decide) (fun w₁ h₁ K' hK' => ?_)
    have hf0 := (hw w₁ h₁).1.v
    have hf1 := (hw w₁ h₁).1.vz
    go_simp
    refine hK' _ (T.read _ _ (fun e he => by have hm := mem_listed he; simp [go_sem, *] at hm; subst hm; exact evP_read (.inr hV))) ?_
    clear hK' K' hf0 hf1 h₁ w₁
    try walk_nrm
    refine Ev.still T rfl rfl (by decide) (fun w₁ h₁ K' hK' => ?_)
    have hf0 := (hw w₁ h₁).1.v
    have hf1 := (hw w₁ h₁).1.vz
    go_simp
    refine hK' _ (T.read _ _ (fun e he => by have hm := mem_listed he; simp [go_sem, *] at hm; subst hm; exact evP_read (.inr hV))) ?_
    clear hK' K' hf0 hf1 h₁ w₁
    try walk_nrm
    refine Ev.still T rfl rfl (by decide) (fun w₁ h₁ K' hK' => ?_)
    go_simp
    refine hK' _ (T.read _ _ (fun e he => by have hm := mem_listed he; simp [go_sem] at hm)) ?_
    clear hK' K' h₁ w₁
    try walk_nrm
    refine Ev.still T rfl rfl (by decide) (fun w₁ h₁ K' hK' => ?_)
    go_simp
    refine hK' _ (T.read _ _ (fun e he => by have hm := mem_listed he; simp [go_sem] at hm)) ?_
    clear hK' K' h₁ w₁
    try walk_nrm
    refine Ev.still T rfl rfl (by decide) (fun w₁ h₁ K' hK' => ?_)
    go_simp
    refine hK' _ (T.read _ _ (fun e he => by have hm := mem_listed he; simp [go_sem] at hm)) ?_
    clear hK' K' h₁ w₁
    try walk_nrm
    refine Ev.still T rfl rfl (by decide) (fun w₁ h₁ K' hK' => ?_)
    have hf0 := (hw w₁ h₁).2.1
    have hf1 := (hw w₁ h₁).2.2
    go_simp
    refine hK' _ (T.read _ _ (fun e he => by have hm := mem_listed he; simp [go_sem, *] at hm; subst hm; exact evP_read (.inr (hS 0 (by omega))))) ?_
    clear hK' K' hf0 hf1 h₁ w₁
    try walk_nrm
    exact hn
  · refine Ev.still T rfl rfl (by decide) (fun w₁ h₁ K' hK' => ?_)
    have hf0 := (hw w₁ h₁).1.v
    have hf1 := (hw w₁ h₁).1.vz
    go_simp
    refine hK' _ (T.read _ _ (fun e he => by have hm := mem_listed he; simp [go_sem, *] at hm; subst hm; exact evP_read (.inr hV))) ?_
    clear hK' K' hf0 hf1 h₁ w₁
    try walk_nrm
    refine Ev.still T rfl rfl (by decide) (fun w₁ h₁ K' hK' => ?_)
    have hf0 := (hw w₁ h₁).1.v
    have hf1 := (hw w₁ h₁).1.vz
    go_simp
    refine hK' _ (T.read _ _ (fun e he => by have hm := mem_listed he; simp [go_sem, *] at hm; subst hm; exact evP_read (.inr hV))) ?_
    clear hK' K' hf0 hf1 h₁ w₁
    try walk_nrm
    refine Ev.still T rfl rfl (by decide) (fun w₁ h₁ K' hK' => ?_)
    go_simp
    refine hK' _ (T.read _ _ (fun e he => by have hm := mem_listed he; simp [go_sem] at hm)) ?_
    clear hK' K' h₁ w₁
    try walk_nrm
    refine Ev.still T rfl rfl (by decide) (fun w₁ h₁ K' hK' => ?_)
    go_simp
    refine hK' _ (T.read _ _ (fun e he => by have hm := mem_listed he; simp [go_sem] at hm)) ?_
    clear hK' K' h₁ w₁
    try walk_nrm
    refine Ev.still T rfl rfl (by decide) (fun w₁ h₁ K' hK' => ?_)
    go_simp
    refine hK' _ (T.read _ _ (fun e he => by have hm := mem_listed he; simp [go_sem] at hm)) ?_
    clear hK' K' h₁ w₁
    try walk_nrm
    refine Ev.still T rfl rfl (by decide) (fun w₁ h₁ K' hK' => ?_)
    have hf0 := (hw w₁ h₁).2.1
    have hf1 := (hw w₁ h₁).2.2
    go_simp
    refine hK' _ (T.read _ _ (fun e he => by have hm := mem_listed he; simp [go_sem, *] at hm; subst hm; exact evP_read (.inr (hS 0 (by omega))))) ?_
    clear hK' K' hf0 hf1 h₁ w₁
    try walk_nrm
    exact hn
  · refine Ev.still T rfl rfl (by decide) (fun w₁ h₁ K' hK' => ?_)
    have hf0 := (hw w₁ h₁).1.v
    have hf1 := (hw w₁ h₁).1.vz
    go_simp
    refine hK' _ (T.read _ _ (fun e he => by have hm := mem_listed he; simp [go_sem, *] at hm; subst hm; exact evP_read (.inr hV))) ?_
    clear hK' K' hf0 hf1 h₁ w₁
    try walk_nrm
    refine Ev.still T rfl rfl (by decide) (fun w₁ h₁ K' hK' => ?_)
    have hf0 := (hw w₁ h₁).1.v
    have hf1 := (hw w₁ h₁).1.vz
    go_simp
    refine hK' _ (T.read _ _ (fun e he => by have hm := mem_listed he; simp [go_sem, *] at hm; subst hm; exact evP_read (.inr hV))) ?_
    clear hK' K' hf0 hf1 h₁ w₁
    try walk_nrm
    refine Ev.still T rfl rfl (by decide) (fun w₁ h₁ K' hK' => ?_)
    go_simp
    refine hK' _ (T.read _ _ (fun e he => by have hm := mem_listed he; simp [go_sem] at hm)) ?_
    clear hK' K' h₁ w₁
    try walk_nrm
    refine Ev.still T rfl rfl (by decide) (fun w₁ h₁ K' hK' => ?_)
    go_simp
    refine hK' _ (T.read _ _ (fun e he => by have hm := mem_listed he; simp [go_sem] at hm)) ?_
    clear hK' K' h₁ w₁
    try walk_nrm
    refine Ev.still T rfl rfl (by decide) (fun w₁ h₁ K' hK' => ?_)
    have hf0 := (hw w₁ h₁).2.1
    have hf1 := (hw w₁ h₁).2.2
    go_simp
    refine hK' _ (T.read _ _ (fun e he => by have hm := mem_listed he; simp [go_sem, *] at hm; subst hm; exact evP_read (.inr (hS 0 (by omega))))) ?_
    clear hK' K' hf0 hf1 h₁ w₁
    try walk_nrm
    refine Ev.still T rfl rfl (by decide) (fun w₁ h₁ K' hK' => ?_)
    go_simp
    refine hK' _ (T.read _ _ (fun e he => by have hm := mem_listed he; simp [go_sem] at hm)) ?_
    clear hK' K' h₁ w₁
    try walk_nrm
    exact hn
  · refine Ev.still T rfl rfl (by decide) (fun w₁ h₁ K' hK' => ?_)
    have hf0 := (hw w₁ h₁).1.v
    have hf1 := (hw w₁ h₁).1.vz
    go_simp
    refine hK' _ (T.read _ _ (fun e he => by have hm := mem_listed he; simp [go_sem, *] at hm; subst hm; exact evP_read (.inr hV))) ?_
    clear hK' K' hf0 hf1 h₁ w₁
    try walk_nrm
    refine Ev.still T rfl rfl (by decide) (fun w₁ h₁ K' hK' => ?_)
    have hf0 := (hw w₁ h₁).1.v
    have hf1 := (hw w₁ h₁).1.vz
    go_simp
    refine hK' _ (T.read _ _ (fun e he => by have hm := mem_listed he; simp [go_sem, *] at hm; subst hm; exact evP_read (.inr hV))) ?_
    clear hK' K' hf0 hf1 h₁ w₁
    try walk_nrm
    refine Ev.still T rfl rfl (by decide) (fun w₁ h₁ K' hK' => ?_)
    go_simp
    refine hK' _ (T.read _ _ (fun e he => by have hm := mem_listed he; simp [go_sem] at hm)) ?_
    clear hK' K' h₁ w₁
    try walk_nrm
    refine Ev.still T rfl rfl (by decide) (fun w₁ h₁ K' hK' => ?_)
    go_simp
    refine hK' _ (T.read _ _ (fun e he => by have hm := mem_listed he; simp [go_sem] at hm)) ?_
    clear hK' K' h₁ w₁
    try walk_nrm
    refine Ev.still T rfl rfl (by decide) (fun w₁ h₁ K' hK' => ?_)
    go_simp
    refine hK' _ (T.read _ _ (fun e he => by have hm := mem_listed he; simp [go_sem] at hm)) ?_
    clear hK' K' h₁ w₁
    try walk_nrm
    refine Ev.still T rfl rfl (by decide) (fun w₁ h₁ K' hK' => ?_)
    have hf0 := (hw w₁ h₁).2.1
    have hf1 := (hw w₁ h₁).2.2
    go_simp
    refine hK' _ (T.read _ _ (fun e he => by have hm := mem_listed he; simp [go_sem, *] at hm; subst hm; exact evP_read (.inr (hS 0 (by omega))))) ?_
    clear hK' K' hf0 hf1 h₁ w₁
    try walk_nrm
    exact hn
  · refine Ev.still T rfl rfl (by decide) (fun w₁ h₁ K' hK' => ?_)
    have hf0 := (hw w₁ h₁).1.v
    have hf1 := (hw w₁ h₁).1.vz
    go_simp
    refine hK' _ (T.read _ _ (fun e he => by have hm := mem_listed he; simp [go_sem, *] at hm; subst hm; exact evP_read (.inr hV))) ?_
    clear hK' K' hf0 hf1 h₁ w₁
    try walk_nrm
    refine Ev.still T rfl rfl (by decide) (fun w₁ h₁ K' hK' => ?_)
    have hf0 := (hw w₁ h₁).1.v
    have hf1 := (hw w₁ h₁).1.vz
    go_simp
    refine hK' _ (T.read _ _ (fun e he => by have hm := mem_listed he; simp [go_sem, *] at hm; subst hm; exact evP_read (.inr hV))) ?_
    clear hK' K' hf0 hf1 h₁ w₁
    try walk_nrm
    refine Ev.still T rfl rfl (by decide) (fun w₁ h₁ K' hK' => ?_)
    go_simp
    refine hK' _ (T.read _ _ (fun e he => by have hm := mem_listed he; simp [go_sem] at hm)) ?_
    clear hK' K' h₁ w₁
    try walk_nrm
    refine Ev.still T rfl rfl (by decide) (fun w₁ h₁ K' hK' => ?_)
    go_simp
    refine hK' _ (T.read _ _ (fun e he => by have hm := mem_listed he; simp [go_sem] at hm)) ?_
    clear hK' K' h₁ w₁
    try walk_nrm
    refine Ev.still T rfl rfl (by decide) (fun w₁ h₁ K' hK' => ?_)
    go_simp
    refine hK' _ (T.read _ _ (fun e he => by have hm := mem_listed he; simp [go_sem] at hm)) ?_
    clear hK' K' h₁ w₁
    try walk_nrm
    refine Ev.still T rfl rfl (by decide) (fun w₁ h₁ K' hK' => ?_)
    have hf0 := (hw w₁ h₁).2.1
    have hf1 := (hw w₁ h₁).2.2
    go_simp
    refine hK' _ (T.read _ _ (fun e he => by have hm := mem_listed he; simp [go_sem, *] at hm; subst hm; exact evP_read (.inr (hS 0 (by omega))))) ?_
    clear hK' K' hf0 hf1 h₁ w₁
    try walk_nrm
    exact hn
  · refine Ev.still T rfl rfl (by decide) (fun w₁ h₁ K' hK' => ?_)
    have hf0 := (hw w₁ h₁).1.v
    have hf1 := (hw w₁ h₁).1.vz
    go_simp
    refine hK' _ (T.read _ _ (fun e he => by have hm := mem_listed he; simp [go_sem, *] at hm; subst hm; exact evP_read (.inr hV))) ?_
    clear hK' K' hf0 hf1 h₁ w₁
    try walk_nrm
    refine Ev.still T rfl rfl (by decide) (fun w₁ h₁ K' hK' => ?_)
    have hf0 := (hw w₁ h₁).1.v
    have hf1 := (hw w₁ h₁).1.vz
    go_simp
    refine hK' _ (T.read _ _ (fun e he => by have hm := mem_listed he; simp [go_sem, *] at hm; subst hm; exact evP_read (.inr hV))) ?_
    clear hK' K' hf0 hf1 h₁ w₁
    try walk_nrm
    refine Ev.still T rfl rfl (by decide) (fun w₁ h₁ K' hK' => ?_)
    go_simp
    refine hK' _ (T.read _ _ (fun e he => by have hm := mem_listed he; simp [go_sem] at hm)) ?_
    clear hK' K' h₁ w₁
    try walk_nrm
    refine Ev.still T rfl rfl (by decide) (fun w₁ h₁ K' hK' => ?_)
    go_simp
    refine hK' _ (T.read _ _ (fun e he => by have hm := mem_listed he; simp [go_sem] at hm)) ?_
    clear hK' K' h₁ w₁
    try walk_nrm
    refine Ev.still T rfl rfl (by decide) (fun w₁ h₁ K' hK' => ?_)
    go_simp
    refine hK' _ (T.read _ _ (fun e he => by have hm := mem_listed he; simp [go_sem] at hm)) ?_
    clear hK' K' h₁ w₁
    try walk_nrm
    refine Ev.still T rfl rfl (by decide) (fun w₁ h₁ K' hK' => ?_)
    have hf0 := (hw w₁ h₁).2.1
    have hf1 := (hw w₁ h₁).2.2
    go_simp
    refine hK' _ (T.read _ _ (fun e he => by have hm := mem_listed he; simp [go_sem, *] at hm; subst hm; exact evP_read (.inr (hS 0 (by omega))))) ?_
    clear hK' K' hf0 hf1 h₁ w₁
    try walk_nrm
    exact hn
  · refine Ev.still T rfl rfl (by decide) (fun w₁ h₁ K' hK' => ?_)
    have hf0 := (hw w₁ h₁).1.v
    have hf1 := (hw w₁ h₁).1.vz
    go_simp
    refine hK' _ (T.read _ _ (fun e he => by have hm := mem_listed he; simp [go_sem, *] at hm; subst hm; exact evP_read (.inr hV))) ?_
    clear hK' K' hf0 hf1 h₁ w₁
    try walk_nrm
    refine Ev.still T rfl rfl (by decide) (fun w₁ h₁ K' hK' => ?_)
    have hf0 := (hw w₁ h₁).1.v
    have hf1 := (hw w₁ h₁).1.vz
    go_simp
    refine hK' _ (T.read _ _ (fun e he => by have hm := mem_listed he; simp [go_sem, *] at hm; subst hm; exact evP_read (.inr hV))) ?_
    clear hK' K' hf0 hf1 h₁ w₁
    try walk_nrm
    refine Ev.still T rfl rfl (by decide) (fun w₁ h₁ K' hK' => ?_)
    go_simp
    refine hK' _ (T.read _ _ (fun e he => by have hm := mem_listed he; simp [go_sem] at hm)) ?_
    clear hK' K' h₁ w₁
    try walk_nrm
    refine Ev.still T rfl rfl (by decide) (fun w₁ h₁ K' hK' => ?_)
    go_simp
    refine hK' _ (T.read _ _ (fun e he => by have hm := mem_listed he; simp [go_sem] at hm)) ?_
    clear hK' K' h₁ w₁
    try walk_nrm
    refine Ev.still T rfl rfl (by decide) (fun w₁ h₁ K' hK' => ?_)
    have hf0 := (hw w₁ h₁).2.1
    have hf1 := (hw w₁ h₁).2.2
    go_simp
    refine hK' _ (T.read _ _ (fun e he => by have hm := mem_listed he; simp [go_sem, *] at hm; subst hm; exact evP_read (.inr (hS 0 (by omega))))) ?_
    clear hK' K' hf0 hf1 h₁ w₁
    try walk_nrm
    refine Ev.still T rfl rfl (by decide) (fun w₁ h₁ K' hK' => ?_)
    go_simp
    refine hK' _ (T.read _ _ (fun e he => by have hm := mem_listed he; simp [go_sem] at hm)) ?_
    clear hK' K' h₁ w₁
    try walk_nrm
    exact hn
  · refine Ev.still T rfl rfl (by decide) (fun w₁ h₁ K' hK' => ?_)
    have hf0 := (hw w₁ h₁).1.v
    have hf1 := (hw w₁ h₁).1.vz
    go_simp
    refine hK' _ (T.read _ _ (fun e he => by have hm := mem_listed he; simp [go_sem, *] at hm; subst hm; exact evP_read (.inr hV))) ?_
    clear hK' K' hf0 hf1 h₁ w₁
    try walk_nrm
    refine Ev.still T rfl rfl (by decide) (fun w₁ h₁ K' hK' => ?_)
    go_simp
    refine hK' _ (T.read _ _ (fun e he => by have hm := mem_listed he; simp [go_sem] at hm)) ?_
    clear hK' K' h₁ w₁
    try walk_nrm
    refine Ev.still T rfl rfl (by decide) (fun w₁ h₁ K' hK' => ?_)
    have hf0 := (hw w₁ h₁).1.v
    have hf1 := (hw w₁ h₁).1.vz
    go_simp
    refine hK' _ (T.read _ _ (fun e he => by have hm := mem_listed he; simp [go_sem, *] at hm; subst hm; exact evP_read (.inr hV))) ?_
    clear hK' K' hf0 hf1 h₁ w₁
    try walk_nrm
    refine Ev.still T rfl rfl (by decide) (fun w₁ h₁ K' hK' => ?_)
    go_simp
    refine hK' _ (T.read _ _ (fun e he => by have hm := mem_listed he; simp [go_sem] at hm)) ?_
    clear hK' K' h₁ w₁
    try walk_nrm
    refine Ev.still T rfl rfl (by decide) (fun w₁ h₁ K' hK' => ?_)
    go_simp
    refine hK' _ (T.read _ _ (fun e he => by have hm := mem_listed he; simp [go_sem] at hm)) ?_
    clear hK' K' h₁ w₁
    try walk_nrm
    refine Ev.still T rfl rfl (by decide) (fun w₁ h₁ K' hK' => ?_)
    have hf0 := (hw w₁ h₁).2.1
    have hf1 := (hw w₁ h₁).2.2
    go_simp
    refine hK' _ (T.read _ _ (fun e he => by have hm := mem_listed he; simp [go_sem, *] at hm; subst hm; exact evP_read (.inr (hS 0 (by omega))))) ?_
    clear hK' K' hf0 hf1 h₁ w₁
    try walk_nrm
    exact hn
  · refine Ev.still T rfl rfl (by decide) (fun w₁ h₁ K' hK' => ?_)
    have hf0 := (hw w₁ h₁).1.v
    have hf1 := (hw w₁ h₁).1.vz
    go_simp
    refine hK' _ (T.read _ _ (fun e he => by have hm := mem_listed he; simp [go_sem, *] at hm; subst hm; exact evP_read (.inr hV))) ?_
    clear hK' K' hf0 hf1 h₁ w₁
    try walk_nrm
    refine Ev.still T rfl rfl (by decide) (fun w₁ h₁ K' hK' => ?_)
    go_simp
    refine hK' _ (T.read _ _ (fun e he => by have hm := mem_listed he; simp [go_sem] at hm)) ?_
    clear hK' K' h₁ w₁
    try walk_nrm
    refine Ev.still T rfl rfl (by decide) (fun w₁ h₁ K' hK' => ?_)
    have hf0 := (hw w₁ h₁).1.v
    have hf1 := (hw w₁ h₁).1.vz
    go_simp
    refine hK' _ (T.read _ _ (fun e he => by have hm := mem_listed he; simp [go_sem, *] at hm; subst hm; exact evP_read (.inr hV))) ?_
    clear hK' K' hf0 hf1 h₁ w₁
    try walk_nrm
    refine Ev.still T rfl rfl (by decide) (fun w₁ h₁ K' hK' => ?_)
    go_simp
    refine hK' _ (T.read _ _ (fun e he => by have hm := mem_listed he; simp [go_sem] at hm)) ?_
    clear hK' K' h₁ w₁
    try walk_nrm
    refine Ev.still T rfl rfl (by decide) (fun w₁ h₁ K' hK' => ?_)
    go_simp
    refine hK' _ (T.read _ _ (fun e he => by have hm := mem_listed he; simp [go_sem] at hm)) ?_
    clear hK' K' h₁ w₁
    try walk_nrm
    refine Ev.still T rfl rfl (by decide) (fun w₁ h₁ K' hK' => ?_)
    have hf0 := (hw w₁ h₁).2.1
    have hf1 := (hw w₁ h₁).2.2
    go_simp
    refine hK' _ (T.read _ _ (fun e he => by have hm := mem_listed he; simp [go_sem, *] at hm; subst hm; exact evP_read (.inr (hS 0 (by omega))))) ?_
    clear hK' K' hf0 hf1 h₁ w₁
    try walk_nrm
    exact hn
  · refine Ev.still T rfl rfl (by decide) (fun w₁ h₁ K' hK' => ?_)
    have hf0 := (hw w₁ h₁).1.v
    have hf1 := (hw w₁ h₁).1.vz
    go_simp
    refine hK' _ (T.read _ _ (fun e he => by have hm := mem_listed he; simp [go_sem, *] at hm; subst hm; exact evP_read (.inr hV))) ?_
    clear hK' K' hf0 hf1 h₁ w₁
    try walk_nrm
    refine Ev.still T rfl rfl (by decide) (fun w₁ h₁ K' hK' => ?_)
    go_simp
    refine hK' _ (T.read _ _ (fun e he => by have hm := mem_listed he; simp [go_sem] at hm)) ?_
    clear hK' K' h₁ w₁
    try walk_nrm
    refine Ev.still T rfl rfl (by decide) (fun w₁ h₁ K' hK' => ?_)
    have hf0 := (hw w₁ h₁).1.v
    have hf1 := (hw w₁ h₁).1.vz
    go_simp
    refine hK' _ (T.read _ _ (fun e he => by have hm := mem_listed he; simp [go_sem, *] at hm; subst hm; exact evP_read (.inr hV))) ?_
    clear hK' K' hf0 hf1 h₁ w₁
    try walk_nrm
    refine Ev.still T rfl rfl (by decide) (fun w₁ h₁ K' hK' => ?_)
    go_simp
    refine hK' _ (T.read _ _ (fun e he => by have hm := mem_listed he; simp [go_sem] at hm)) ?_
    clear hK' K' h₁ w₁
    try walk_nrm
    refine Ev.still T rfl rfl (by decide) (fun w₁ h₁ K' hK' => ?_)
    have hf0 := (hw w₁ h₁).2.1
    have hf1 := (hw w₁ h₁).2.2
    go_simp
    refine hK' _ (T.read _ _ (fun e he => by have hm := mem_listed he; simp [go_sem, *] at hm; subst hm; exact evP_read (.inr (hS 0 (by omega))))) ?_
    clear hK' K' hf0 hf1 h₁ w₁
    try walk_nrm
    refine Ev.still T rfl rfl (by decide) (fun w₁ h₁ K' hK' => ?_)
    go_simp
    refine hK' _ (T.read _ _ (fun e he => by have hm := mem_listed he; simp [go_sem] at hm)) ?_
    clear hK' K' h₁ w₁
    try walk_nrm
    exact hn
  · refine Ev.still T rfl rfl (by decide) (fun w₁ h₁ K' hK' => ?_)
    have hf0 := (hw w₁ h₁).1.v
    have hf1 := (hw w₁ h₁).1.vz
    go_simp
    refine hK' _ (T.read _ _ (fun e he => by have hm := mem_listed he; simp [go_sem, *] at hm; subst hm; exact evP_read (.inr hV))) ?_
    clear hK' K' hf0 hf1 h₁ w₁
    try walk_nrm
    refine Ev.still T rfl rfl (by decide) (fun w₁ h₁ K' hK' => ?_)
    go_simp
    refine hK' _ (T.read _ _ (fun e he => by have hm := mem_listed he; simp [go_sem] at hm)) ?_
    clear hK' K' h₁ w₁
    try walk_nrm
    refine Ev.still T rfl rfl (by decide) (fun w₁ h₁ K' hK' => ?_)
    go_simp
    refine hK' _ (T.read _ _ (fun e he => by have hm := mem_listed he; simp [go_sem] at hm)) ?_
    clear hK' K' h₁ w₁
    try walk_nrm
    refine Ev.still T rfl rfl (by decide) (fun w₁ h₁ K' hK' => ?_)
    have hf0 := (hw w₁ h₁).1.v
    have hf1 := (hw w₁ h₁).1.vz
    go_simp
    refine hK' _ (T.read _ _ (fun e he => by have hm := mem_listed he; simp [go_sem, *] at hm; subst hm; exact evP_read (.inr hV))) ?_
    clear hK' K' hf0 hf1 h₁ w₁
    try walk_nrm
    refine Ev.still T rfl rfl (by decide) (fun w₁ h₁ K' hK' => ?_)
    go_simp
    refine hK' _ (T.read _ _ (fun e he => by have hm := mem_listed he; simp [go_sem] at hm)) ?_
    clear hK' K' h₁ w₁
    try walk_nrm
    refine Ev.still T rfl rfl (by decide) (fun w₁ h₁ K' hK' => ?_)
    have hf0 := (hw w₁ h₁).2.1
    have hf1 := (hw w₁ h₁).2.2
    go_simp
    refine hK' _ (T.read _ _ (fun e he => by have hm := mem_listed he; simp [go_sem, *] at hm; subst hm; exact evP_read (.inr (hS 0 (by omega))))) ?_
    clear hK' K' hf0 hf1 h₁ w₁
    try walk_nrm
    exact hn
  · refine Ev.still T rfl rfl (by decide) (fun w₁ h₁ K' hK' => ?_)
    have hf0 := (hw w₁ h₁).1.v
    have hf1 := (hw w₁ h₁).1.vz
    go_simp
    refine hK' _ (T.read _ _ (fun e he => by have hm := mem_listed he; simp [go_sem, *] at hm; subst hm; exact evP_read (.inr hV))) ?_
    clear hK' K' hf0 hf1 h₁ w₁
    try walk_nrm
    refine Ev.still T rfl rfl (by decide) (fun w₁ h₁ K' hK' => ?_)
    go_simp
    refine hK' _ (T.read _ _ (fun e he => by have hm := mem_listed he; simp [go_sem] at hm)) ?_
    clear hK' K' h₁ w₁
    try walk_nrm
    refine Ev.still T rfl rfl (by decide) (fun w₁ h₁ K' hK' => ?_)
    go_simp
    refine hK' _ (T.read _ _ (fun e he => by have hm := mem_listed he; simp [go_sem] at hm)) ?_
    clear hK' K' h₁ w₁
    try walk_nrm
    refine Ev.still T rfl rfl (by decide) (fun w₁ h₁ K' hK' => ?_)
    have hf0 := (hw w₁ h₁).1.v
    have hf1 := (hw w₁ h₁).1.vz
    go_simp
    refine hK' _ (T.read _ _ (fun e he => by have hm := mem_listed he; simp [go_sem, *] at hm; subst hm; exact evP_read (.inr hV))) ?_
    clear hK' K' hf0 hf1 h₁ w₁
    try walk_nrm
    refine Ev.still T rfl rfl (by decide) (fun w₁ h₁ K' hK' => ?_)
    have hf0 := (hw w₁ h₁).2.1
    have hf1 := (hw w₁ h₁).2.2
    go_simp
    refine hK' _ (T.read _ _ (fun e he => by have hm := mem_listed he; simp [go_sem, *] at hm; subst hm; exact evP_read (.inr (hS 0 (by omega))))) ?_
    clear hK' K' hf0 hf1 h₁ w₁
    try walk_nrm
    refine Ev.still T rfl rfl (by decide) (fun w₁ h₁ K' hK' => ?_)
    go_simp
    refine hK' _ (T.read _ _ (fun e he => by have hm := mem_listed he; simp [go_sem] at hm)) ?_
    clear hK' K' h₁ w₁
    try walk_nrm
    exact hn
  · refine Ev.still T rfl rfl (by decide) (fun w₁ h₁ K' hK' => ?_)
    have hf0 := (hw w₁ h₁).1.v
    have hf1 := (hw w₁ h₁).1.vz
    go_simp
    refine hK' _ (T.read _ _ (fun e he => by have hm := mem_listed he; simp [go_sem, *] at hm; subst hm; exact evP_read (.inr hV))) ?_
    clear hK' K' hf0 hf1 h₁ w₁
    try walk_nrm
    refine Ev.still T rfl rfl (by decide) (fun w₁ h₁ K' hK' => ?_)
    go_simp
    refine hK' _ (T.read _ _ (fun e he => by have hm := mem_listed he; simp [go_sem] at hm)) ?_
    clear hK' K' h₁ w₁
    try walk_nrm
    refine Ev.still T rfl rfl (by decide) (fun w₁ h₁ K' hK' => ?_)
    go_simp
    refine hK' _ (T.read _ _ (fun e he => by have hm := mem_listed he; simp [go_sem] at hm)) ?_
    clear hK' K' h₁ w₁
    try walk_nrm
    refine Ev.still T rfl rfl (by decide) (fun w₁ h₁ K' hK' => ?_)
    have hf0 := (hw w₁ h₁).2.1
    have hf1 := (hw w₁ h₁).2.2
    go_simp
    refine hK' _ (T.read _ _ (fun e he => by have hm := mem_listed he; simp [go_sem, *] at hm; subst hm; exact evP_read (.inr (hS 0 (by omega))))) ?_
    clear hK' K' hf0 hf1 h₁ w₁
    try walk_nrm
    refine Ev.still T rfl rfl (by decide) (fun w₁ h₁ K' hK' => ?_)
    have hf0 := (hw w₁ h₁).1.v
    have hf1 := (hw w₁ h₁).1.vz
    go_simp
    refine hK' _ (T.read _ _ (fun e he => by have hm := mem_listed he; simp [go_sem, *] at hm; subst hm; exact evP_read (.inr hV))) ?_
    clear hK' K' hf0 hf1 h₁ w₁
    try walk_nrm
    refine Ev.still T rfl rfl (by decide) (fun w₁ h₁ K' hK' => ?_)
    go_simp
    refine hK' _ (T.read _ _ (fun e he => by have hm := mem_listed he; simp [go_sem] at hm)) ?_
    clear hK' K' h₁ w₁
    try walk_nrm
    exact hn
end
end Go.Proofs.Ytnbfmbkglkjhmaa
