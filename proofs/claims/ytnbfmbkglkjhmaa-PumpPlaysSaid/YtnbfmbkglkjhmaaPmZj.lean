import Derived.Test.YtnbfmbkglkjhmaaPmZi
set_option linter.unusedSimpArgs false
set_option linter.unusedVariables false
set_option linter.unusedSectionVars false
namespace Go.Proofs.Ytnbfmbkglkjhmaa
open Go.Conc Go.RowKit Go.Pmp
noncomputable def body17 : Code := Try.f17.body.getD .skip
theorem f17_body : Try.f17.body = some body17 := by simp only [body17, Try.f17, Option.getD_some]
theorem args17 (p q : Value) : (#[p, q] ++ Array.replicate (Try.f17.ntmps - (#[p, q] : Array Value).size) undef : Array Value) = #[p, q, undef, undef, undef, undef, undef, undef, undef, undef, undef, undef, undef, undef, undef, undef, undef, undef, undef, undef, undef, undef, undef, undef, undef, undef] := by rw [Try.ntmps17]; walk_nrm

noncomputable def loop17 : Code := match body17 with | .seq _ (.seq _ (.seq (.seq _ (.block _ (.loop c))) _)) => c | c => c
noncomputable def draw17 : Code := match loop17 with | .seq _ (.seq (.block _ c) _) => c | c => c
noncomputable def after17 : Code := match body17 with | .seq _ (.seq _ (.seq _ y)) => y | c => c
section
variable {Z : Nat → Prop} {ci cs cd N : Nat} {C : Addr → Prop} {R : World → World → Prop} {D : World → World → Array Event → Prop} {Ok : Event → Prop} {Stop : GW} (M : MainD Z ci cs cd N C R D Ok) {b : Frame} {a : Act} {ops : Array Oper} {ii : Nat} {rest : List Nat} {kk : List Item} {cs0 : List Frame}
include M
set_option maxRecDepth 100000 in
set_option maxHeartbeats 4000000 in
theorem ints_loop {n ca cb : Nat} {pa pq : Option Addr} {xa xb : Addr} {z : Nat → Int} (hn : n ≤ 4000000000000000000) (hpa : 0 < n → pa = some xa) (hpb : 0 < n → pq = some xb) (hza : ¬ Z xa.block) (hzb : ¬ Z xb.block) :
    ∀ (d i : Nat) (w : World) (j11 j12 j13 j14 j15 j16 j17 j18 j19 j20 j21 j22 j23 j24 j25 : Value), i + d = n → (∀ w₁, R w w₁ → ∀ i, i < n → w₁.cell? (xa.add i) = some (.int .i64 (z i)) ∧ w₁.cell? (xb.add i) = some (.int .i64 (z i))) →
      (∀ w', R w w' → Ev Try.prog true R D Stop (G (b.at (a.put ((ops[ii]?).bind (·.dst)) (.bool true)) (.inRegion ops rest :: kk)) cs0) w') →
      Ev Try.prog true R D Stop (G ((base 17).at ⟨#[.slice pa n ca, .slice pq n cb, undef, undef, .bool false, .int .i64 i, .slice pa n ca, .int .i64 n, .slice pq n cb, .int .i64 n, .bool false, j11, j12, j13, j14, j15, j16, j17, j18, j19, j20, j21, j22, j23, j24, j25], []⟩ [.code loop17, .inLoop loop17, .inBlock 0, .code after17]) (b.at a (.inRegion ops (ii :: rest) :: kk) :: cs0)) w := by
  have T := M.T
  intro d
  induction d with
  | zero =>
    intro i w j11 j12 j13 j14 j15 j16 j17 j18 j19 j20 j21 j22 j23 j24 j25 hid hc h
    obtain rfl : i = n := by omega
    simp only [loop17, after17, body17, Try.f17, Option.getD_some]
    refine Ev.seq T ?_
    refine Ev.seq T ?_
    refine Ev.region T ?_
    simp only [List.size_toArray, List.length_cons, List.length_nil, Nat.reduceAdd, Nat.zero_add, List.range, List.range.loop]
    refine Ev.still T rfl rfl (by decide) (fun w₁ h₁ K' hK' => ?_)
    go_simp
    refine hK' _ (T.read _ _ (fun e he => by have hm := mem_listed he; simp [go_sem] at hm)) ?_
    clear hK' K' h₁ w₁
    try walk_nrm
    refine Ev.still T rfl rfl (by decide) (fun w₁ h₁ K' hK' => ?_)
    go_simp
    refine hK' _ (T.read _ _ (fun e he => by have hm := mem_listed he; simp [go_sem] at hm)) ?_
    clear hK' K' h₁ w₁
    try walk_nrm
    refine Ev.still T rfl rfl (by decide) (fun w₁ h₁ K' hK' => ?_)
    go_simp
    refine hK' _ (T.read _ _ (fun e he => by have hm := mem_listed he; simp [go_sem] at hm)) ?_
    clear hK' K' h₁ w₁
    try walk_nrm
    refine Ev.still T rfl rfl (by decide) (fun w₁ h₁ K' hK' => ?_)
    go_simp
    refine hK' _ (T.read _ _ (fun e he => by have hm := mem_listed he; simp [go_sem] at hm)) ?_
    clear hK' K' h₁ w₁
    try walk_nrm
    refine Ev.regionEnd T ?_
    refine Ev.cond T false (by simp [Act.eval]) ?_
    simp only [if_true, if_false, Bool.false_eq_true, ↓reduceIte]
    refine Ev.exit T rfl ?_
    refine Ev.seq T ?_
    refine Ev.region T ?_
    simp only [List.size_toArray, List.length_cons, List.length_nil, Nat.reduceAdd, Nat.zero_add, List.range, List.range.loop]
    refine Ev.still T rfl rfl (by decide) (fun w₁ h₁ K' hK' => ?_)
    go_simp
    refine hK' _ (T.read _ _ (fun e he => by have hm := mem_listed he; simp [go_sem] at hm)) ?_
    clear hK' K' h₁ w₁
    try walk_nrm
    refine Ev.regionEnd T ?_
    refine Ev.ret T ?_
    refine Ev.leave1 T (fn := Try.f17) rfl rfl Try.func17 rfl ?_
    try walk_nrm
    exact h w (T.refl w)
  | succ d ih =>
    intro i w j11 j12 j13 j14 j15 j16 j17 j18 j19 j20 j21 j22 j23 j24 j25 hid hc h
    have hin : i < n := by omega
    obtain rfl := hpa (by omega)
    obtain rfl := hpb (by omega)
    have hlt : (i : Int) < (n : Int) := by omega
    have hi9 : (i : Int) ≤ 4000000000000000000 := by omega
    have hih := fun w' (hr : R w w') (j11 j12 j13 j14 j15 j16 j17 j18 j19 j20 j21 j22 j23 j24 j25 : Value) => ih (i + 1) w' j11 j12 j13 j14 j15 j16 j17 j18 j19 j20 j21 j22 j23 j24 j25 (by omega) (fun w₁ r => hc w₁ (T.trans _ _ _ hr r)) (fun w'' r => h w'' (T.trans _ _ _ hr r))
    clear ih
    simp only [loop17, after17, body17, Try.f17, Option.getD_some] at hih ⊢
    refine Ev.seq T ?_
    refine Ev.seq T ?_
    refine Ev.region T ?_
    simp only [List.size_toArray, List.length_cons, List.length_nil, Nat.reduceAdd, Nat.zero_add, List.range, List.range.loop]
    refine Ev.still T rfl rfl (by decide) (fun w₁ h₁ K' hK' => ?_)
    go_simp
    refine hK' _ (T.read _ _ (fun e he => by have hm := mem_listed he; simp [go_sem] at hm)) ?_
    clear hK' K' h₁ w₁
    try walk_nrm
    refine Ev.still T rfl rfl (by decide) (fun w₁ h₁ K' hK' => ?_)
    go_simp
    refine hK' _ (T.read _ _ (fun e he => by have hm := mem_listed he; simp [go_sem] at hm)) ?_
    clear hK' K' h₁ w₁
    try walk_nrm
    refine Ev.still T rfl rfl (by decide) (fun w₁ h₁ K' hK' => ?_)
    go_simp
    refine hK' _ (T.read _ _ (fun e he => by have hm := mem_listed he; simp [go_sem] at hm)) ?_
    clear hK' K' h₁ w₁
    try walk_nrm
    refine Ev.still T rfl rfl (by decide) (fun w₁ h₁ K' hK' => ?_)
    go_simp
    refine hK' _ (T.read _ _ (fun e he => by have hm := mem_listed he; simp [go_sem] at hm)) ?_
    clear hK' K' h₁ w₁
    try walk_nrm
    refine Ev.regionEnd T ?_
    refine Ev.cond T true (by simp [Act.eval, hlt]) ?_
    simp only [if_true, if_false, Bool.false_eq_true, ↓reduceIte]
    refine Ev.skip T ?_
    refine Ev.seq T ?_
    refine Ev.block T ?_
    have rl : ∀ {x y : World}, R w x → R x y → R w y := fun h r => T.trans _ _ _ h r
    have hF : R w w := T.refl w
    have hcode : ∃ k, Code.wpC Try.prog true R D 17 draw17 k (fun e a' w' => e = .normal ∧ R w w' ∧ ∃ x1 x2 x3 x4 x5 x6 x7 x8 : Value, a' = ⟨#[.slice (some xa) n ca, .slice (some xb) n cb, undef, undef, .bool false, .int .i64 i, .slice (some xa) n ca, .int .i64 n, .slice (some xb) n cb, .int .i64 n, .bool false, .int .i64 i, .slice (some xa) n ca, .int .i64 n, .bool true, j15, j16, x1, x2, x3, x4, x5, x6, x7, x8, .bool false], []⟩) ⟨#[.slice (some xa) n ca, .slice (some xb) n cb, undef, undef, .bool false, .int .i64 i, .slice (some xa) n ca, .int .i64 n, .slice (some xb) n cb, .int .i64 n, .bool false, .int .i64 i, .slice (some xa) n ca, .int .i64 n, .bool true, j15, j16, j17, j18, j19, j20, j21, j22, j23, j24, j25], []⟩ w := by
      co_apply Exists.intro
      simp only [draw17, loop17, body17, Try.f17, Option.getD_some]
      co_apply wpC_seq T.terms
      co_held T.terms M.draw (fun w => M.rdraw w (w.drawn + 1)) (fun w' => R w w') rl hF
      co_take 0 T.terms rl hF hw (skip) (co_quiet T.terms)
      co_take 1 T.terms rl hF hw (skip) (co_quiet T.terms)
      co_take 2 T.terms rl hF hw (skip) (co_still T.terms)
      co_take 3 T.terms rl hF hw (have hc0 := (hc _ hw i hin).1) (refine T.read _ _ ?_; co_evs (exact M.acc _ _ _ (by rw [add_block]; exact hza) (fun h => by cases h)))
      co_take 4 T.terms rl hF hw (skip) (co_quiet T.terms)
      co_take 5 T.terms rl hF hw (skip) (co_quiet T.terms)
      co_take 6 T.terms rl hF hw (skip) (co_still T.terms)
      co_take 7 T.terms rl hF hw (have hc0 := (hc _ hw i hin).2) (refine T.read _ _ ?_; co_evs (exact M.acc _ _ _ (by rw [add_block]; exact hzb) (fun h => by cases h)))
      co_take 8 T.terms rl hF hw (skip) (co_quiet T.terms)
      co_done
      co_apply (wpC_cond T.terms (t := false) rfl)
      co_apply (wpC_skip T.terms)
      exact ⟨rfl, hF, _, _, _, _, _, _, _, _, rfl⟩
    obtain ⟨k0, hcode⟩ := hcode
    simp only [draw17, loop17, body17, Try.f17, Option.getD_some] at hcode
    refine Ev.code T hcode (by decide) ?_
    rintro e a' w' ⟨rfl, hr, x1, x2, x3, x4, x5, x6, x7, x8, rfl⟩
    show Ev _ _ _ _ _ _ _
    have hih := hih w' hr
    refine Ev.inBlock T ?_
    refine Ev.region T ?_
    simp only [List.size_toArray, List.length_cons, List.length_nil, Nat.reduceAdd, Nat.zero_add, List.range, List.range.loop]
    refine Ev.still T rfl rfl (by decide) (fun w₁ h₁ K' hK' => ?_)
    go_simp
    refine hK' _ (T.read _ _ (fun e he => by have hm := mem_listed he; simp [go_sem] at hm)) ?_
    clear hK' K' h₁ w₁
    try walk_nrm
    refine Ev.still T rfl rfl (by decide) (fun w₁ h₁ K' hK' => ?_)
    go_simp
    refine hK' _ (T.read _ _ (fun e he => by have hm := mem_listed he; simp [go_sem] at hm)) ?_
    clear hK' K' h₁ w₁
    try walk_nrm
    refine Ev.still T rfl rfl (by decide) (fun w₁ h₁ K' hK' => ?_)
    go_simp
    refine hK' _ (T.read _ _ (fun e he => by have hm := mem_listed he; simp [go_sem] at hm)) ?_
    clear hK' K' h₁ w₁
    try walk_nrm
    refine Ev.regionEnd T ?_
    refine Ev.inLoop T ?_
    have hwr : IntKind.wrap .i64 ((i : Int) + 1) = ((i + 1 : Nat) : Int) := by rw [IntWalk.i64_in _ (by omega)]; omega
    rw [hwr]
    exact hih _ _ _ _ _ _ _ _ _ _ _ _ _ _ _
set_option maxRecDepth 100000 in
set_option maxHeartbeats 4000000 in
/-- Two rows of the same numbers. -/
theorem ints_ev {n ca cb : Nat} {pa pq : Option Addr} {xa xb : Addr} {z : Nat → Int} {w : World} (hn : n ≤ 4000000000000000000) (hpa : 0 < n → pa = some xa) (hpb : 0 < n → pq = some xb) (hza : ¬ Z xa.block) (hzb : ¬ Z xb.block)
    (hc : ∀ w₁, R w w₁ → ∀ i, i < n → w₁.cell? (xa.add i) = some (.int .i64 (z i)) ∧ w₁.cell? (xb.add i) = some (.int .i64 (z i)))
    (h : ∀ w', R w w' → Ev Try.prog true R D Stop (G (b.at (a.put ((ops[ii]?).bind (·.dst)) (.bool true)) (.inRegion ops rest :: kk)) cs0) w') :
    Ev Try.prog true R D Stop (G ((base 17).at ⟨#[.slice pa n ca, .slice pq n cb, undef, undef, undef, undef, undef, undef, undef, undef, undef, undef, undef, undef, undef, undef, undef, undef, undef, undef, undef, undef, undef, undef, undef, undef], []⟩ [.code body17]) (b.at a (.inRegion ops (ii :: rest) :: kk) :: cs0)) w := by
  have T := M.T
  have hL := fun j11 j12 j13 j14 j15 j16 j17 j18 j19 j20 j21 j22 j23 j24 j25 => ints_loop (Stop := Stop) (b := b) (a := a) (ops := ops) (ii := ii) (rest := rest) (kk := kk) (cs0 := cs0) M (ca := ca) (cb := cb) hn hpa hpb hza hzb n 0 w j11 j12 j13 j14 j15 j16 j17 j18 j19 j20 j21 j22 j23 j24 j25 (by omega) hc h
  simp only [loop17, after17, body17, Try.f17, Option.getD_some] at hL ⊢
  refine Ev.seq T ?_
  refine Ev.region T ?_
  simp only [List.size_toArray, List.length_cons, List.length_nil, Nat.reduceAdd, Nat.zero_add, List.range, List.range.loop]
  refine Ev.still T rfl rfl (by decide) (fun w₁ h₁ K' hK' => ?_)
  go_simp
  refine hK' _ (T.read _ _ (fun e he => by have hm := mem_listed he; simp [go_sem] at hm)) ?_
  clear hK' K' h₁ w₁
  try walk_nrm
  refine Ev.regionEnd T ?_
  refine Ev.seq T ?_
  refine Ev.seq T ?_
  refine Ev.region T ?_
  simp only [List.size_toArray, List.length_cons, List.length_nil, Nat.reduceAdd, Nat.zero_add, List.range, List.range.loop]
  refine Ev.still T rfl rfl (by decide) (fun w₁ h₁ K' hK' => ?_)
  go_simp
  refine hK' _ (T.read _ _ (fun e he => by have hm := mem_listed he; simp [go_sem] at hm)) ?_
  clear hK' K' h₁ w₁
  try walk_nrm
  refine Ev.still T rfl rfl (by decide) (fun w₁ h₁ K' hK' => ?_)
  go_simp
  refine hK' _ (T.read _ _ (fun e he => by have hm := mem_listed he; simp [go_sem] at hm)) ?_
  clear hK' K' h₁ w₁
  try walk_nrm
  refine Ev.still T rfl rfl (by decide) (fun w₁ h₁ K' hK' => ?_)
  go_simp
  refine hK' _ (T.read _ _ (fun e he => by have hm := mem_listed he; simp [go_sem] at hm)) ?_
  clear hK' K' h₁ w₁
  try walk_nrm
  refine Ev.still T rfl rfl (by decide) (fun w₁ h₁ K' hK' => ?_)
  go_simp
  refine hK' _ (T.read _ _ (fun e he => by have hm := mem_listed he; simp [go_sem] at hm)) ?_
  clear hK' K' h₁ w₁
  try walk_nrm
  refine Ev.still T rfl rfl (by decide) (fun w₁ h₁ K' hK' => ?_)
  go_simp
  refine hK' _ (T.read _ _ (fun e he => by have hm := mem_listed he; simp [go_sem] at hm)) ?_
  clear hK' K' h₁ w₁
  try walk_nrm
  refine Ev.regionEnd T ?_
  refine Ev.cond T false (by simp [Act.eval]) ?_
  simp only [if_true, if_false, Bool.false_eq_true, ↓reduceIte]
  refine Ev.skip T ?_
  refine Ev.seq T ?_
  refine Ev.seq T ?_
  refine Ev.region T ?_
  simp only [List.size_toArray, List.length_cons, List.length_nil, Nat.reduceAdd, Nat.zero_add, List.range, List.range.loop]
  refine Ev.still T rfl rfl (by decide) (fun w₁ h₁ K' hK' => ?_)
  go_simp
  refine hK' _ (T.read _ _ (fun e he => by have hm := mem_listed he; simp [go_sem] at hm)) ?_
  clear hK' K' h₁ w₁
  try walk_nrm
  refine Ev.regionEnd T ?_
  refine Ev.block T ?_
  refine Ev.loop T ?_
  exact hL _ _ _ _ _ _ _ _ _ _ _ _ _ _ _
end

section
variable {B room : Nat} {sp : Option Addr} {ad : Addr} {len cap : Nat} {L : Nat → Int} {e : Int} (O : (rowK B room sp ad len cap L e).Ok (B + 6)) {Post : Value → World → Prop} {n : Nat} {b : Frame} {a : Act} {ops : Array Oper} {ii : Nat} {rest : List Nat} {kk : List Item} {cs0 : List Frame}
include O
set_option maxRecDepth 100000 in
set_option maxHeartbeats 4000000 in
theorem slice_row (hlen : len ≤ 1000) (ws : World) (most : Int) (hw : WF (rowK B room sp ad len cap L e) (B + 6) .fresh ws)
    (h1 : ∀ m w v bs k, (rowK B room sp ad len cap L e).Ok (B + 6) → ModeAt len m k (2 * (len - k) + 4) → WF (rowK B room sp ad len cap L e) (B + 6) m w → Moved (rowK B room sp ad len cap L e) ws w → B + 6 ≤ bs → ws.heap.size ≤ bs → w.ownsRow bs 3 1 v k (vals L k) → k ≤ len → (k : Int) = max most 0 →
      Can (rowK B room sp ad len cap L e) Post n m (G (b.at (a.put ((ops[ii]?).bind (·.dst)) v) (.inRegion ops rest :: kk)) cs0) w)
    (h2 : ∀ w v bs, (rowK B room sp ad len cap L e).Ok (B + 6) → WF (rowK B room sp ad len cap L e) (B + 6) (.over e) w → Moved (rowK B room sp ad len cap L e) ws w → B + 6 ≤ bs → ws.heap.size ≤ bs → w.ownsRow bs 3 1 v len (vals L len) → (len : Int) < most →
      Can (rowK B room sp ad len cap L e) Post n (.over e) (G (b.at (a.put ((ops[ii]?).bind (·.dst)) v) (.inRegion ops rest :: kk)) cs0) w) :
    Can (rowK B room sp ad len cap L e) Post n .fresh (G ((base 16).at ⟨#[.pointer (some ⟨B + 2, 0, none⟩), .int .i64 most, undef, undef, undef, undef, undef, undef, undef, undef, undef, undef, undef, undef, undef, undef, undef, undef, undef, undef, undef, undef, undef, undef], []⟩ [.code body16]) (b.at a (.inRegion ops (ii :: rest) :: kk) :: cs0)) ws := by
  have hL := slice_loop O hlen ws most h1 h2 len 0 .fresh ws (.slice none 0 0) ws.heap.size
  obtain ⟨R0, Dq0, Ok0, St0, C0, N0, M0, hl0, hg0, hiff0, hR0, hC0⟩ := Can.open (Post := Post) (n := n) O hw
  have hL := fun j6 j7 j8 j9 j10 j11 j12 j13 j14 j15 j16 j17 j18 j19 j20 j21 j22 => (hiff0 _ _).1 (hL j6 j7 j8 j9 j10 j11 j12 j13 j14 j15 j16 j17 j18 j19 j20 j21 j22 (by omega) (.inl ⟨rfl, rfl⟩) hw (Moved.refl _ _) (hw.le O) (Nat.le_refl _) (Nat.le_refl _) (fun _ _ _ _ h => by cases h) (World.ownsRow_nil _ _ _ _) (fun _ => rfl) (by omega))
  refine (hiff0 _ _).2 ?_
  have T := M0.T
  clear hiff0
  simp only [loop16, after16, body16, Try.f16, Option.getD_some] at hL ⊢
  refine Ev.seq T ?_
  refine Ev.region T ?_
  simp only [List.size_toArray, List.length_cons, List.length_nil, Nat.reduceAdd, Nat.zero_add, List.range, List.range.loop]
  refine Ev.still T rfl rfl (by decide) (fun w₁ h₁ K' hK' => ?_)
  go_simp
  refine hK' _ (T.read _ _ (fun e he => by have hm := mem_listed he; simp [go_sem] at hm)) ?_
  clear hK' K' h₁ w₁
  try walk_nrm
  refine Ev.regionEnd T ?_
  refine Ev.seq T ?_
  refine Ev.region T ?_
  simp only [List.size_toArray, List.length_cons, List.length_nil, Nat.reduceAdd, Nat.zero_add, List.range, List.range.loop]
  refine Ev.still T rfl rfl (by decide) (fun w₁ h₁ K' hK' => ?_)
  go_simp
  refine hK' _ (T.read _ _ (fun e he => by have hm := mem_listed he; simp [go_sem] at hm)) ?_
  clear hK' K' h₁ w₁
  try walk_nrm
  refine Ev.regionEnd T ?_
  refine Ev.seq T ?_
  refine Ev.block T ?_
  refine Ev.loop T ?_
  exact hL _ _ _ _ _ _ _ _ _ _ _ _ _ _ _ _ _
end
end Go.Proofs.Ytnbfmbkglkjhmaa
