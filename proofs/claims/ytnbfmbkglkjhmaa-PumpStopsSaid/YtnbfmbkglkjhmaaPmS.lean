import Derived.Test.YtnbfmbkglkjhmaaPmR
set_option linter.unusedSimpArgs false
set_option linter.unusedVariables false
namespace Go.Proofs.Ytnbfmbkglkjhmaa
open Go.Conc Go.RowKit Go.Pmp
noncomputable def body12 : Code := Try.f12.body.getD .skip
section
variable {Z : Nat → Prop} {top j ci cs cd room N : Nat} {f : Nat → Value} {Q : Nat → Prop} {End : Nat → Bool → Value → World → Prop} {C : Addr → Prop} {S1 : GW}
set_option maxRecDepth 100000 in
set_option maxHeartbeats 2000000 in
/-- Stop, beside the maker. -/
theorem stop_ms (O : (envC Z top j ci cs cd room f Q End C).Ok) (M : Main Z ci cs cd N C (RMx Z ci cd) (DM (envC Z top j ci cs cd room f Q End C)) (EvM (fun l => l = .obj ci ∨ ∃ a : Addr, Z a.block ∧ l = .cell a) (fun l => ∃ a, C a ∧ l = .cell a))) {pb k r : Nat} (hci : ci < N) (hcd : cd < N) (hpb : pb < N) (hpz : ¬ Z pb) (hpi : pb ≠ ci) (hps : pb ≠ cs) (hpd : pb ≠ cd) (hC5 : ¬ C ⟨pb, 5, none⟩) (hEI : ∀ i st e w, End i st e w → ∃ x, e = .int .i64 x)
    {b : Frame} {a : Act} {ops : Array Oper} {ii : Nat} {rest : List Nat} {kk : List Item} {cs0 : List Frame} {w : World} (hN : N ≤ w.heap.size) (hp : PumpAt pb ci cs cd w) (hb : w.cell? ⟨pb, 4, none⟩ = some (.bool true)) (hbz : w.frozen? ⟨pb, 4, none⟩ = false)
    (ho : w.cell? ⟨pb, 5, none⟩ = some (.bool false)) (hz : ∀ n, n < 7 → w.frozen? ⟨pb, n, none⟩ = false) {t0 : Value} (ht : w.cell? ⟨pb, 6, none⟩ = some t0)
    (h2 : ∀ w₀ w₁ w₂ i st e, Later Z ci cd w w₀ → RMx Z ci cd (w₀.setChan cs 0 #[] true 0 0 false) w₁ → RMx Z ci cd (w₁.setCell ⟨pb, 5, none⟩ (.bool true)) w₂ → r ≤ i → i ≤ r + room → End i st e w₂ →
      ∀ d, Ev Try.prog true AtRel D1 S1 (G (b.at (a.put ((ops[ii]?).bind (·.dst)) (.int .i64 0)) (.inRegion ops rest :: kk)) cs0) ((w₂.at d).setCell ⟨pb, 6, none⟩ e)) :
    MS (envC Z top j ci cs cd room f Q End C) (Ev Try.prog true AtRel D1 S1) (k + 2) r false false (G ((base 12).at ⟨#[.pointer (some ⟨pb, 0, none⟩), undef, undef, undef, undef, undef, undef, undef, undef, undef, undef, undef, undef, undef, undef, undef, undef, undef, undef], []⟩ [.code body12]) (b.at a (.inRegion ops (ii :: rest) :: kk) :: cs0)) w := by
  have T := O.quietM
  have fac : ∀ w₁, Later Z ci cd w w₁ → ∀ n, w₁.cell? ⟨pb, n, none⟩ = w.cell? ⟨pb, n, none⟩ ∧ w₁.frozen? ⟨pb, n, none⟩ = w.frozen? ⟨pb, n, none⟩ := fun w₁ h n => h.cell (a := ⟨pb, n, none⟩) (by show pb < _; omega) hpi hpd hpz
  refine MS_Ev (k := k + 1) ?_
  simp only [body12, Try.f12, Option.getD_some]
  refine Ev.seq T ?_
  refine Ev.region T ?_
  simp only [List.size_toArray, List.length_cons, List.length_nil, Nat.reduceAdd, Nat.zero_add, List.range, List.range.loop]
  refine Ev.still T rfl rfl (by decide) (fun w₁ h₁ K' hK' => ?_)
  go_simp
  refine hK' _ (T.read _ _ (fun e he => by have hm := mem_listed he; simp [go_sem] at hm)) ?_
  clear hK' K' h₁ w₁
  try walk_nrm
  refine Ev.regionEnd T ?_
  refine Ev.seq T ?_
  refine Ev.block T ?_
  refine Ev.seq T ?_
  refine Ev.region T ?_
  simp only [List.size_toArray, List.length_cons, List.length_nil, Nat.reduceAdd, Nat.zero_add, List.range, List.range.loop]
  refine Ev.still T rfl rfl (by decide) (fun w₁ h₁ K' hK' => ?_)
  go_simp
  refine hK' _ (T.read _ _ (fun e he => by have hm := mem_listed he; simp [go_sem] at hm)) ?_
  clear hK' K' h₁ w₁
  try walk_nrm
  refine Ev.still T rfl rfl (by decide) (fun w₁ h₁ K' hK' => ?_)
  go_simp
  refine hK' _ (T.read _ _ (fun e he => by have hm := mem_listed he; simp [go_sem, ev_ptr] at hm)) ?_
  clear hK' K' h₁ w₁
  try walk_nrm
  refine Ev.still T rfl rfl (by decide) (fun w₁ h₁ K' hK' => ?_)
  go_simp
  refine hK' _ (T.read _ _ (fun e he => by have hm := mem_listed he; simp [go_sem] at hm)) ?_
  clear hK' K' h₁ w₁
  try walk_nrm
  refine Ev.regionEnd T ?_
  refine Ev.cond T false rfl ?_
  simp only [if_true, if_false, Bool.false_eq_true, ↓reduceIte]
  refine Ev.seq T ?_
  refine Ev.region T ?_
  simp only [List.size_toArray, List.length_cons, List.length_nil, Nat.reduceAdd, Nat.zero_add, List.range, List.range.loop]
  refine Ev.still T rfl rfl (by decide) (fun w₁ h₁ K' hK' => ?_)
  go_simp
  refine hK' _ (T.read _ _ (fun e he => by have hm := mem_listed he; simp [go_sem] at hm)) ?_
  clear hK' K' h₁ w₁
  try walk_nrm
  refine Ev.still T rfl rfl (by decide) (fun w₁ h₁ K' hK' => ?_)
  go_simp
  refine hK' _ (T.read _ _ (fun e he => by have hm := mem_listed he; simp [go_sem] at hm)) ?_
  clear hK' K' h₁ w₁
  try walk_nrm
  refine Ev.still T rfl rfl (by decide) (fun w₁ h₁ K' hK' => ?_)
  go_simp
  refine hK' _ (T.read _ _ (fun e he => by have hm := mem_listed he; simp [go_sem] at hm)) ?_
  clear hK' K' h₁ w₁
  try walk_nrm
  refine Ev.still T rfl rfl (by decide) (fun w₁ h₁ K' hK' => ?_)
  have hf0 := (fac _ h₁.later 5).1.trans ho
  have hf1 := (fac _ h₁.later 5).2.trans (hz 5 (by omega))
  go_simp
  refine hK' _ (T.read _ _ (fun e he => by have hm := mem_listed he; simp [go_sem, *] at hm; subst hm; exact M.rd _ hpz)) ?_
  clear hK' K' hf0 hf1 h₁ w₁
  try walk_nrm
  refine Ev.still T rfl rfl (by decide) (fun w₁ h₁ K' hK' => ?_)
  go_simp
  refine hK' _ (T.read _ _ (fun e he => by have hm := mem_listed he; simp [go_sem] at hm)) ?_
  clear hK' K' h₁ w₁
  try walk_nrm
  refine Ev.regionEnd T ?_
  refine Ev.cond T false rfl ?_
  simp only [if_true, if_false, Bool.false_eq_true, ↓reduceIte]
  refine Ev.skip T ?_
  refine Ev.inBlock T ?_
  refine Ev.seq T ?_
  refine Ev.region T ?_
  simp only [List.size_toArray, List.length_cons, List.length_nil, Nat.reduceAdd, Nat.zero_add, List.range, List.range.loop]
  refine Ev.still T rfl rfl (by decide) (fun w₁ h₁ K' hK' => ?_)
  go_simp
  refine hK' _ (T.read _ _ (fun e he => by have hm := mem_listed he; simp [go_sem] at hm)) ?_
  clear hK' K' h₁ w₁
  try walk_nrm
  refine Ev.call T (f := 19) (fn := Try.f19) rfl rfl (by decide) rfl Try.func19 (by decide) f19_body ?_
  simp only [List.map_toArray, List.map_cons, List.map_nil]
  rw [args19]
  try walk_nrm
  refine begin_on M hci hcd hpb hpz hpi hpd hN hb hbz (fun w₁ h₁ => ?_)
  try walk_nrm
  have L1 := (h₁.later).trans (Later.alloc Z ci cd w₁ (.cells #[.pointer (some ⟨pb, 0, none⟩)] 25))
  generalize w₁.alloc (.cells #[.pointer (some ⟨pb, 0, none⟩)] 25) = W1 at L1 ⊢
  refine Ev.regionEnd T ?_
  refine Ev.seq T ?_
  refine Ev.region T ?_
  simp only [List.size_toArray, List.length_cons, List.length_nil, Nat.reduceAdd, Nat.zero_add, List.range, List.range.loop]
  refine Ev.still T rfl rfl (by decide) (fun w₂ h₂ K' hK' => ?_)
  go_simp
  refine hK' _ (T.read _ _ (fun e he => by have hm := mem_listed he; simp [go_sem] at hm)) ?_
  clear hK' K' h₂ w₂
  try walk_nrm
  refine Ev.still T rfl rfl (by decide) (fun w₂ h₂ K' hK' => ?_)
  go_simp
  refine hK' _ (T.read _ _ (fun e he => by have hm := mem_listed he; simp [go_sem] at hm)) ?_
  clear hK' K' h₂ w₂
  try walk_nrm
  refine Ev.still T rfl rfl (by decide) (fun w₂ h₂ K' hK' => ?_)
  go_simp
  refine hK' _ (T.read _ _ (fun e he => by have hm := mem_listed he; simp [go_sem] at hm)) ?_
  clear hK' K' h₂ w₂
  try walk_nrm
  refine Ev.still T rfl rfl (by decide) (fun w₂ h₂ K' hK' => ?_)
  have hf0 := (fac _ (L1.trans h₂.later) 2).1.trans hp.s
  have hf1 := (fac _ (L1.trans h₂.later) 2).2.trans hp.sz
  go_simp
  refine hK' _ (T.read _ _ (fun e he => by have hm := mem_listed he; simp [go_sem, *] at hm; subst hm; exact M.rd _ hpz)) ?_
  clear hK' K' hf0 hf1 h₂ w₂
  try walk_nrm
  refine .stop fun w₃ r₃ => .inr (.inl ⟨rfl, rfl, rfl, by first | rfl | kernel_rfl, _, rfl, fun hc => stepG_close rfl rfl (by decide) rfl rfl hc (by simp [base, Try.func12, Try.f12]), ?_⟩)
  have L := L1.trans r₃.later
  have c := fun n => fac w₃ L n
  have e1 : ∀ n, (w₃.setChan cs 0 #[] true 0 0 false).cell? ⟨pb, n, none⟩ = w₃.cell? ⟨pb, n, none⟩ := fun n => cell_of_block (heap_setChan_ne w₃ _ _ _ _ _ _ (Ne.symm hps))
  have e2 : ∀ n, (w₃.setChan cs 0 #[] true 0 0 false).frozen? ⟨pb, n, none⟩ = w₃.frozen? ⟨pb, n, none⟩ := fun n => froz_of_block (heap_setChan_ne w₃ _ _ _ _ _ _ (Ne.symm hps))
  refine MS_Ev (k := k) ?_
  try walk_nrm
  refine Ev.regionEnd T ?_
  refine Ev.seq T ?_
  refine Ev.region T ?_
  simp only [List.size_toArray, List.length_cons, List.length_nil, Nat.reduceAdd, Nat.zero_add, List.range, List.range.loop]
  refine Ev.still T rfl rfl (by decide) (fun w₅ h₅ K' hK' => ?_)
  go_simp
  refine hK' _ (T.read _ _ (fun e he => by have hm := mem_listed he; simp [go_sem] at hm)) ?_
  clear hK' K' h₅ w₅
  try walk_nrm
  refine Ev.call T (f := 20) (fn := Try.f20) rfl rfl (by decide) rfl Try.func20 (by decide) f20_body ?_
  simp only [List.map_toArray, List.map_cons, List.map_nil]
  rw [args20]
  try walk_nrm
  refine MS_of (k := k) (end_ms O M (.inr rfl) hpz hpi hps hpd hC5 hEI ((e1 5).trans ((c 5).1.trans ho)) (fun n hn => (e2 n).trans ((c n).2.trans (hz n hn))) ((e1 3).trans ((c 3).1.trans hp.d)) ((e1 6).trans ((c 6).1.trans ht)) (fun w₁ w₂ i st e q1 q2 q3 q4 q5 q6 q7 d => ?_))
  have T1 := quiet1
  try walk_nrm
  refine Ev.regionEnd T1 ?_
  refine Ev.seq T1 ?_
  refine Ev.region T1 ?_
  simp only [List.size_toArray, List.length_cons, List.length_nil, Nat.reduceAdd, Nat.zero_add, List.range, List.range.loop]
  refine Ev.still T1 rfl rfl (by decide) (fun w₅ h₅ K' hK' => ?_)
  go_simp
  refine hK' _ (T1.read _ _ (fun e he => by have hm := mem_listed he; simp [go_sem] at hm)) ?_
  clear hK' K' h₅ w₅
  try walk_nrm
  refine Ev.regionEnd T1 ?_
  refine Ev.ret T1 ?_
  refine Ev.leave1 T1 (fn := Try.f12) rfl rfl Try.func12 rfl ?_
  try walk_nrm
  exact h2 w₃ w₁ w₂ i st e L q1 q2 q3 q4 q7 d
end
end Go.Proofs.Ytnbfmbkglkjhmaa
