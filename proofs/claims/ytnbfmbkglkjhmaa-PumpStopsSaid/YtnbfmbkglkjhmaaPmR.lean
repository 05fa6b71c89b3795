import Derived.Test.YtnbfmbkglkjhmaaPmQ
set_option linter.unusedSimpArgs false
set_option linter.unusedVariables false
namespace Go.Proofs.Ytnbfmbkglkjhmaa
open Go.Conc Go.RowKit Go.Pmp

/-- w' is w, grown, but for the two channels. -/
structure Later (Z : Nat → Prop) (ci cd : Nat) (w w' : World) : Prop where
  tape : w'.tape = w.tape
  os : w'.os = w.os
  output : w'.output = w.output
  size : w.heap.size ≤ w'.heap.size
  block : ∀ k, k < w.heap.size → k ≠ ci → k ≠ cd → ¬ Z k → w'.heap[k]? = w.heap[k]?
theorem Later.refl (Z : Nat → Prop) (ci cd : Nat) (w : World) : Later Z ci cd w w := ⟨rfl, rfl, rfl, Nat.le_refl _, fun _ _ _ _ _ => rfl⟩
theorem Later.trans {Z : Nat → Prop} {ci cd : Nat} {a b c : World} (h : Later Z ci cd a b) (h' : Later Z ci cd b c) : Later Z ci cd a c :=
  ⟨h'.tape.trans h.tape, h'.os.trans h.os, h'.output.trans h.output, Nat.le_trans h.size h'.size, fun k hk h1 h2 h3 => (h'.block k (Nat.lt_of_lt_of_le hk h.size) h1 h2 h3).trans (h.block k hk h1 h2 h3)⟩
theorem RMx.later {Z : Nat → Prop} {ci cd : Nat} {a b : World} (h : RMx Z ci cd a b) : Later Z ci cd a b := ⟨h.tape, h.os, h.output, Nat.le_of_eq h.size.symm, fun k _ h1 h2 h3 => h.block k h1 h2 h3⟩
theorem Later.alloc (Z : Nat → Prop) (ci cd : Nat) (w : World) (o : Obj) : Later Z ci cd w (w.alloc o) := ⟨rfl, rfl, rfl, by simp, fun k hk _ _ _ => Below.heap_alloc _ _ _ hk⟩
theorem Later.cell {Z : Nat → Prop} {ci cd : Nat} {w w' : World} (h : Later Z ci cd w w') {a : Addr} (hb : a.block < w.heap.size) (h1 : a.block ≠ ci) (h2 : a.block ≠ cd) (h3 : ¬ Z a.block) : w'.cell? a = w.cell? a ∧ w'.frozen? a = w.frozen? a :=
  ⟨cell_of_block (h.block _ hb h1 h2 h3), froz_of_block (h.block _ hb h1 h2 h3)⟩

theorem MS_Ev {E : Env} {Fin : GW} {k r : Nat} {X S : Bool} {g : Goroutine} {w : World} (h : Ev E.P true E.RM (DM E) (StopM E Fin (MS E Fin k) r X S) g w) : MS E Fin (k + 1) r X S g w := h
theorem MS_of {E : Env} {Fin : GW} {k r : Nat} {X S : Bool} {g : Goroutine} {w : World} (h : MS E Fin (k + 1) r X S g w) : Ev E.P true E.RM (DM E) (StopM E Fin (MS E Fin k) r X S) g w := h
theorem ev_ptr (a : Addr) (w : World) (es : Array Event) : (binOp BinOp.eql 25 (Value.pointer (some a)) (Value.pointer none)).events Try.prog w es = es := by
  first
  | rfl
  | (simp [binOp, go_sem]; done)
  | (unfold binOp; simp [go_sem]; done)
theorem f20_body : Try.f20.body = some body20 := by simp only [body20, Try.f20, Option.getD_some]
theorem args20 (p : Value) : (#[p] ++ Array.replicate (Try.f20.ntmps - (#[p] : Array Value).size) undef : Array Value) = #[p, undef, undef, undef, undef, undef, undef, undef, undef, undef, undef, undef, undef, undef, undef, undef, undef] := by rw [Try.ntmps20]; walk_nrm
noncomputable def body10 : Code := Try.f10.body.getD .skip
theorem f19_body : Try.f19.body = some body19 := by simp only [body19, Try.f19, Option.getD_some]
theorem args19 (p : Value) : (#[p] ++ Array.replicate (Try.f19.ntmps - (#[p] : Array Value).size) undef : Array Value) = #[p, undef, undef, undef, undef, undef, undef, undef, undef, undef] := by rw [Try.ntmps19]; walk_nrm

section
variable {Z : Nat → Prop} {top j ci cs cd room N : Nat} {f : Nat → Value} {Q : Nat → Prop} {End : Nat → Bool → Value → World → Prop} {C : Addr → Prop} {S1 : GW}
set_option maxRecDepth 100000 in
set_option maxHeartbeats 2000000 in
/-- Next, beside the maker. -/
theorem next_ms (O : (envC Z top j ci cs cd room f Q End C).Ok) (M : Main Z ci cs cd N C (RMx Z ci cd) (DM (envC Z top j ci cs cd room f Q End C)) (EvM (fun l => l = .obj ci ∨ ∃ a : Addr, Z a.block ∧ l = .cell a) (fun l => ∃ a, C a ∧ l = .cell a))) {pb k r : Nat} (hci : ci < N) (hcd : cd < N) (hpb : pb < N) (hpz : ¬ Z pb) (hpi : pb ≠ ci) (hps : pb ≠ cs) (hpd : pb ≠ cd) (hC5 : ¬ C ⟨pb, 5, none⟩) (hEI : ∀ i st e w, End i st e w → ∃ x, e = .int .i64 x) (htop : r < top)
    {b : Frame} {a : Act} {ops : Array Oper} {ii : Nat} {rest : List Nat} {kk : List Item} {cs0 : List Frame} {w : World} (hN : N ≤ w.heap.size) (hp : PumpAt pb ci cs cd w) (hb : w.cell? ⟨pb, 4, none⟩ = some (.bool true)) (hbz : w.frozen? ⟨pb, 4, none⟩ = false)
    (ho : w.cell? ⟨pb, 5, none⟩ = some (.bool false)) (hoz : w.frozen? ⟨pb, 5, none⟩ = false) (hz : ∀ n, n < 7 → w.frozen? ⟨pb, n, none⟩ = false) {t0 : Value} (ht : w.cell? ⟨pb, 6, none⟩ = some t0)
    (h1 : ∀ w', Later Z ci cd w w' → Q r → MS (envC Z top j ci cs cd room f Q End C) (Ev Try.prog true AtRel D1 S1) k (r + 1) false false (G (b.at (a.put ((ops[ii]?).bind (·.dst)) (.tuple #[f r, .bool true])) (.inRegion ops rest :: kk)) cs0) w')
    (h2 : ∀ w₀ w₁ w₂ i st e, Later Z ci cd w w₀ → RMx Z ci cd w₀ w₁ → RMx Z ci cd (w₁.setCell ⟨pb, 5, none⟩ (.bool true)) w₂ → i = r → st = false → End i st e w₂ →
      ∀ d, Ev Try.prog true AtRel D1 S1 (G (b.at (a.put ((ops[ii]?).bind (·.dst)) (.tuple #[.int .i64 0, .bool false])) (.inRegion ops rest :: kk)) cs0) ((w₂.at d).setCell ⟨pb, 6, none⟩ e)) :
    MS (envC Z top j ci cs cd room f Q End C) (Ev Try.prog true AtRel D1 S1) (k + 2) r false false (G ((base 10).at ⟨#[.pointer (some ⟨pb, 0, none⟩), undef, undef, undef, undef, undef, undef, undef, undef, undef, undef, undef, undef, undef, undef, undef, undef, undef, undef, undef, undef, undef, undef, undef, undef, undef, undef, undef, undef], []⟩ [.code body10]) (b.at a (.inRegion ops (ii :: rest) :: kk) :: cs0)) w := by
  have T := O.quietM
  have fac : ∀ w₁, Later Z ci cd w w₁ → w₁.cell? ⟨pb, 5, none⟩ = some (.bool false) ∧ w₁.frozen? ⟨pb, 5, none⟩ = false ∧ w₁.cell? ⟨pb, 1, none⟩ = some (.chan (some ci)) ∧ w₁.frozen? ⟨pb, 1, none⟩ = false := by
    intro w₁ h
    have c := fun n => h.cell (a := ⟨pb, n, none⟩) (by show pb < _; omega) hpi hpd hpz
    exact ⟨(c 5).1.trans ho, (c 5).2.trans hoz, (c 1).1.trans hp.i, (c 1).2.trans hp.iz⟩
  refine MS_Ev (k := k + 1) ?_
  simp only [body10, Try.f10, Option.getD_some]
  refine Ev.seq T ?_
  refine Ev.region T ?_
  simp only [List.size_toArray, List.length_cons, List.length_nil, Nat.reduceAdd, Nat.zero_add, List.range, List.range.loop]
  refine Ev.still T rfl rfl (by decide) (fun w₁ h₁ K' hK' => ?_)
  go_simp
  refine hK' _ (T.read _ _ (fun e he => by have hm := mem_listed he; simp [go_sem] at hm)) ?_
  clear hK' K' h₁ w₁
  try walk_nrm
  refine Ev.still T rfl rfl (by decide) (fun w₁ h₁ K' hK' => ?_)
  go_simp
  refine hK' _ (T.read _ _ (fun e he => by have hm := mem_listed he; simp [go_sem] at hm)) ?_
  clear hK' K' h₁ w₁
  try walk_nrm
  refine Ev.regionEnd T ?_
  refine Ev.seq T ?_
  refine Ev.seq T ?_
  refine Ev.region T ?_
  simp only [List.size_toArray, List.length_cons, List.length_nil, Nat.reduceAdd, Nat.zero_add, List.range, List.range.loop]
  refine Ev.still T rfl rfl (by decide) (fun w₁ h₁ K' hK' => ?_)
  go_simp
  refine hK' _ (T.read _ _ (fun e he => by have hm := mem_listed he; simp [go_sem] at hm)) ?_
  clear hK' K' h₁ w₁
  try walk_nrm
  refine Ev.still T rfl rfl (by decide) (fun w₁ h₁ K' hK' => ?_)
  go_simp
  refine hK' _ (T.read _ _ (fun e he => by have hm := mem_listed he; simp [go_sem, ev_ptr] at hm)) ?_
  clear hK' K' h₁ w₁
  try walk_nrm
  refine Ev.still T rfl rfl (by decide) (fun w₁ h₁ K' hK' => ?_)
  go_simp
  refine hK' _ (T.read _ _ (fun e he => by have hm := mem_listed he; simp [go_sem] at hm)) ?_
  clear hK' K' h₁ w₁
  try walk_nrm
  refine Ev.still T rfl rfl (by decide) (fun w₁ h₁ K' hK' => ?_)
  go_simp
  refine hK' _ (T.read _ _ (fun e he => by have hm := mem_listed he; simp [go_sem] at hm)) ?_
  clear hK' K' h₁ w₁
  try walk_nrm
  refine Ev.still T rfl rfl (by decide) (fun w₁ h₁ K' hK' => ?_)
  go_simp
  refine hK' _ (T.read _ _ (fun e he => by have hm := mem_listed he; simp [go_sem] at hm)) ?_
  clear hK' K' h₁ w₁
  try walk_nrm
  refine Ev.still T rfl rfl (by decide) (fun w₁ h₁ K' hK' => ?_)
  go_simp
  refine hK' _ (T.read _ _ (fun e he => by have hm := mem_listed he; simp [go_sem] at hm)) ?_
  clear hK' K' h₁ w₁
  try walk_nrm
  refine Ev.still T rfl rfl (by decide) (fun w₁ h₁ K' hK' => ?_)
  have hf0 := (fac _ h₁.later).1
  have hf1 := (fac _ h₁.later).2.1
  go_simp
  refine hK' _ (T.read _ _ (fun e he => by have hm := mem_listed he; simp [go_sem, *] at hm; subst hm; exact M.rd _ hpz)) ?_
  clear hK' K' hf0 hf1 h₁ w₁
  try walk_nrm
  refine Ev.still T rfl rfl (by decide) (fun w₁ h₁ K' hK' => ?_)
  go_simp
  refine hK' _ (T.read _ _ (fun e he => by have hm := mem_listed he; simp [go_sem] at hm)) ?_
  clear hK' K' h₁ w₁
  try walk_nrm
  refine Ev.regionEnd T ?_
  refine Ev.cond T false rfl ?_
  simp only [if_true, if_false, Bool.false_eq_true, ↓reduceIte]
  refine Ev.skip T ?_
  refine Ev.seq T ?_
  refine Ev.region T ?_
  simp only [List.size_toArray, List.length_cons, List.length_nil, Nat.reduceAdd, Nat.zero_add, List.range, List.range.loop]
  refine Ev.still T rfl rfl (by decide) (fun w₁ h₁ K' hK' => ?_)
  go_simp
  refine hK' _ (T.read _ _ (fun e he => by have hm := mem_listed he; simp [go_sem] at hm)) ?_
  clear hK' K' h₁ w₁
  try walk_nrm
  refine Ev.call T (f := 19) (fn := Try.f19) rfl rfl (by decide) rfl Try.func19 (by decide) f19_body ?_
  simp only [List.map_toArray, List.map_cons, List.map_nil]
  rw [args19]
  try walk_nrm
  refine begin_on M hci hcd hpb hpz hpi hpd hN hb hbz (fun w₁ h₁ => ?_)
  try walk_nrm
  have L1 := (h₁.later).trans (Later.alloc Z ci cd w₁ (.cells #[.pointer (some ⟨pb, 0, none⟩)] 25))
  generalize w₁.alloc (.cells #[.pointer (some ⟨pb, 0, none⟩)] 25) = W1 at L1 ⊢
  refine Ev.regionEnd T ?_
  refine Ev.seq T ?_
  refine Ev.region T ?_
  simp only [List.size_toArray, List.length_cons, List.length_nil, Nat.reduceAdd, Nat.zero_add, List.range, List.range.loop]
  refine Ev.still T rfl rfl (by decide) (fun w₂ h₂ K' hK' => ?_)
  go_simp
  refine hK' _ (T.read _ _ (fun e he => by have hm := mem_listed he; simp [go_sem] at hm)) ?_
  clear hK' K' h₂ w₂
  try walk_nrm
  refine Ev.still T rfl rfl (by decide) (fun w₂ h₂ K' hK' => ?_)
  go_simp
  refine hK' _ (T.read _ _ (fun e he => by have hm := mem_listed he; simp [go_sem] at hm)) ?_
  clear hK' K' h₂ w₂
  try walk_nrm
  refine Ev.still T rfl rfl (by decide) (fun w₂ h₂ K' hK' => ?_)
  go_simp
  refine hK' _ (T.read _ _ (fun e he => by have hm := mem_listed he; simp [go_sem] at hm)) ?_
  clear hK' K' h₂ w₂
  try walk_nrm
  refine Ev.still T rfl rfl (by decide) (fun w₂ h₂ K' hK' => ?_)
  have hf0 := (fac _ (L1.trans h₂.later)).2.2.1
  have hf1 := (fac _ (L1.trans h₂.later)).2.2.2
  go_simp
  refine hK' _ (T.read _ _ (fun e he => by have hm := mem_listed he; simp [go_sem, *] at hm; subst hm; exact M.rd _ hpz)) ?_
  clear hK' K' hf0 hf1 h₂ w₂
  try walk_nrm
  refine .stop fun w₃ r₃ => .inl ⟨rfl, rfl, rfl, htop, #[], by simp, fun w₄ r₄ => step_comm rfl rfl (by decide) (fun w => by simp [go_sem, execOp, rcase, Act.eval]) (fun w => by simp [go_sem, execOp, Act.eval]) w₄, fun w₄ r₄ hq => ?_, fun w₄ r₄ => ?_⟩
  · have L := L1.trans ((r₃.trans r₄).later)
    refine MS_Ev (k := k) ?_
    rw [served_core, Frame.finish_at]
    try walk_nrm
    refine Ev.still T rfl rfl (by decide) (fun w₅ h₅ K' hK' => ?_)
    go_simp
    refine hK' _ (T.read _ _ (fun e he => by have hm := mem_listed he; simp [go_sem] at hm)) ?_
    clear hK' K' h₅ w₅
    try walk_nrm
    refine Ev.still T rfl rfl (by decide) (fun w₅ h₅ K' hK' => ?_)
    go_simp
    refine hK' _ (T.read _ _ (fun e he => by have hm := mem_listed he; simp [go_sem] at hm)) ?_
    clear hK' K' h₅ w₅
    try walk_nrm
    refine Ev.still T rfl rfl (by decide) (fun w₅ h₅ K' hK' => ?_)
    go_simp
    refine hK' _ (T.read _ _ (fun e he => by have hm := mem_listed he; simp [go_sem] at hm)) ?_
    clear hK' K' h₅ w₅
    try walk_nrm
    refine Ev.still T rfl rfl (by decide) (fun w₅ h₅ K' hK' => ?_)
    go_simp
    refine hK' _ (T.read _ _ (fun e he => by have hm := mem_listed he; simp [go_sem] at hm)) ?_
    clear hK' K' h₅ w₅
    try walk_nrm
    refine Ev.still T rfl rfl (by decide) (fun w₅ h₅ K' hK' => ?_)
    go_simp
    refine hK' _ (T.read _ _ (fun e he => by have hm := mem_listed he; simp [go_sem] at hm)) ?_
    clear hK' K' h₅ w₅
    try walk_nrm
    refine Ev.regionEnd T ?_
    refine Ev.seq T ?_
    refine Ev.seq T ?_
    refine Ev.region T ?_
    simp only [List.size_toArray, List.length_cons, List.length_nil, Nat.reduceAdd, Nat.zero_add, List.range, List.range.loop]
    refine Ev.still T rfl rfl (by decide) (fun w₅ h₅ K' hK' => ?_)
    go_simp
    refine hK' _ (T.read _ _ (fun e he => by have hm := mem_listed he; simp [go_sem] at hm)) ?_
    clear hK' K' h₅ w₅
    try walk_nrm
    refine Ev.still T rfl rfl (by decide) (fun w₅ h₅ K' hK' => ?_)
    go_simp
    refine hK' _ (T.read _ _ (fun e he => by have hm := mem_listed he; simp [go_sem] at hm)) ?_
    clear hK' K' h₅ w₅
    try walk_nrm
    refine Ev.regionEnd T ?_
    refine Ev.cond T false rfl ?_
    simp only [if_true, if_false, Bool.false_eq_true, ↓reduceIte]
    refine Ev.skip T ?_
    refine Ev.seq T ?_
    refine Ev.region T ?_
    simp only [List.size_toArray, List.length_cons, List.length_nil, Nat.reduceAdd, Nat.zero_add, List.range, List.range.loop]
    refine Ev.still T rfl rfl (by decide) (fun w₅ h₅ K' hK' => ?_)
    go_simp
    refine hK' _ (T.read _ _ (fun e he => by have hm := mem_listed he; simp [go_sem] at hm)) ?_
    clear hK' K' h₅ w₅
    try walk_nrm
    refine Ev.still T rfl rfl (by decide) (fun w₅ h₅ K' hK' => ?_)
    go_simp
    refine hK' _ (T.read _ _ (fun e he => by have hm := mem_listed he; simp [go_sem] at hm)) ?_
    clear hK' K' h₅ w₅
    try walk_nrm
    refine Ev.still T rfl rfl (by decide) (fun w₅ h₅ K' hK' => ?_)
    go_simp
    refine hK' _ (T.read _ _ (fun e he => by have hm := mem_listed he; simp [go_sem] at hm)) ?_
    clear hK' K' h₅ w₅
    try walk_nrm
    refine Ev.still T rfl rfl (by decide) (fun w₅ h₅ K' hK' => ?_)
    go_simp
    refine hK' _ (T.read _ _ (fun e he => by have hm := mem_listed he; simp [go_sem] at hm)) ?_
    clear hK' K' h₅ w₅
    try walk_nrm
    refine Ev.regionEnd T ?_
    refine Ev.ret T ?_
    refine Ev.leave2 T (fn := Try.f10) rfl rfl Try.func10 rfl ?_
    try walk_nrm
    exact MS.more _ _ _ _ _ _ (h1 w₄ L hq)
  · have L := L1.trans ((r₃.trans r₄).later)
    refine MS_Ev (k := k) ?_
    rw [served_core, Frame.finish_at]
    try walk_nrm
    have c := fun n => L.cell (a := ⟨pb, n, none⟩) (by show pb < _; omega) hpi hpd hpz
    refine Ev.still T rfl rfl (by decide) (fun w₅ h₅ K' hK' => ?_)
    go_simp
    refine hK' _ (T.read _ _ (fun e he => by have hm := mem_listed he; simp [go_sem] at hm)) ?_
    clear hK' K' h₅ w₅
    try walk_nrm
    refine Ev.still T rfl rfl (by decide) (fun w₅ h₅ K' hK' => ?_)
    go_simp
    refine hK' _ (T.read _ _ (fun e he => by have hm := mem_listed he; simp [go_sem] at hm)) ?_
    clear hK' K' h₅ w₅
    try walk_nrm
    refine Ev.still T rfl rfl (by decide) (fun w₅ h₅ K' hK' => ?_)
    go_simp
    refine hK' _ (T.read _ _ (fun e he => by have hm := mem_listed he; simp [go_sem] at hm)) ?_
    clear hK' K' h₅ w₅
    try walk_nrm
    refine Ev.still T rfl rfl (by decide) (fun w₅ h₅ K' hK' => ?_)
    go_simp
    refine hK' _ (T.read _ _ (fun e he => by have hm := mem_listed he; simp [go_sem] at hm)) ?_
    clear hK' K' h₅ w₅
    try walk_nrm
    refine Ev.still T rfl rfl (by decide) (fun w₅ h₅ K' hK' => ?_)
    go_simp
    refine hK' _ (T.read _ _ (fun e he => by have hm := mem_listed he; simp [go_sem] at hm)) ?_
    clear hK' K' h₅ w₅
    try walk_nrm
    refine Ev.regionEnd T ?_
    refine Ev.seq T ?_
    refine Ev.seq T ?_
    refine Ev.region T ?_
    simp only [List.size_toArray, List.length_cons, List.length_nil, Nat.reduceAdd, Nat.zero_add, List.range, List.range.loop]
    refine Ev.still T rfl rfl (by decide) (fun w₅ h₅ K' hK' => ?_)
    go_simp
    refine hK' _ (T.read _ _ (fun e he => by have hm := mem_listed he; simp [go_sem] at hm)) ?_
    clear hK' K' h₅ w₅
    try walk_nrm
    refine Ev.still T rfl rfl (by decide) (fun w₅ h₅ K' hK' => ?_)
    go_simp
    refine hK' _ (T.read _ _ (fun e he => by have hm := mem_listed he; simp [go_sem] at hm)) ?_
    clear hK' K' h₅ w₅
    try walk_nrm
    refine Ev.regionEnd T ?_
    refine Ev.cond T true rfl ?_
    simp only [if_true, if_false, Bool.false_eq_true, ↓reduceIte]
    refine Ev.region T ?_
    simp only [List.size_toArray, List.length_cons, List.length_nil, Nat.reduceAdd, Nat.zero_add, List.range, List.range.loop]
    refine Ev.still T rfl rfl (by decide) (fun w₅ h₅ K' hK' => ?_)
    go_simp
    refine hK' _ (T.read _ _ (fun e he => by have hm := mem_listed he; simp [go_sem] at hm)) ?_
    clear hK' K' h₅ w₅
    try walk_nrm
    refine Ev.call T (f := 20) (fn := Try.f20) rfl rfl (by decide) rfl Try.func20 (by decide) f20_body ?_
    simp only [List.map_toArray, List.map_cons, List.map_nil]
    rw [args20]
    try walk_nrm
    refine MS_of (k := k) (end_ms O M (.inl rfl) hpz hpi hps hpd hC5 hEI ((c 5).1.trans ho) (fun n hn => (c n).2.trans (hz n hn)) ((c 3).1.trans hp.d) ((c 6).1.trans ht) (fun w₁ w₂ i st e q1 q2 q3 q4 q5 q6 q7 d => ?_))
    have T1 := quiet1
    try walk_nrm
    refine Ev.regionEnd T1 ?_
    refine Ev.seq T1 ?_
    refine Ev.region T1 ?_
    simp only [List.size_toArray, List.length_cons, List.length_nil, Nat.reduceAdd, Nat.zero_add, List.range, List.range.loop]
    refine Ev.still T1 rfl rfl (by decide) (fun w₅ h₅ K' hK' => ?_)
    go_simp
    refine hK' _ (T1.read _ _ (fun e he => by have hm := mem_listed he; simp [go_sem] at hm)) ?_
    clear hK' K' h₅ w₅
    try walk_nrm
    refine Ev.still T1 rfl rfl (by decide) (fun w₅ h₅ K' hK' => ?_)
    go_simp
    refine hK' _ (T1.read _ _ (fun e he => by have hm := mem_listed he; simp [go_sem] at hm)) ?_
    clear hK' K' h₅ w₅
    try walk_nrm
    refine Ev.still T1 rfl rfl (by decide) (fun w₅ h₅ K' hK' => ?_)
    go_simp
    refine hK' _ (T1.read _ _ (fun e he => by have hm := mem_listed he; simp [go_sem] at hm)) ?_
    clear hK' K' h₅ w₅
    try walk_nrm
    refine Ev.still T1 rfl rfl (by decide) (fun w₅ h₅ K' hK' => ?_)
    go_simp
    refine hK' _ (T1.read _ _ (fun e he => by have hm := mem_listed he; simp [go_sem] at hm)) ?_
    clear hK' K' h₅ w₅
    try walk_nrm
    refine Ev.regionEnd T1 ?_
    refine Ev.ret T1 ?_
    refine Ev.leave2 T1 (fn := Try.f10) rfl rfl Try.func10 rfl ?_
    try walk_nrm
    exact h2 w₄ w₁ w₂ i st e L q1 q2 (q5 rfl) (q6 rfl) q7 d
end
end Go.Proofs.Ytnbfmbkglkjhmaa
