import Derived.Test.YtnbfmbkglkjhmaaPmZa
set_option linter.unusedSimpArgs false
set_option linter.unusedVariables false
set_option linter.unusedSectionVars false
namespace Go.Proofs.Ytnbfmbkglkjhmaa
open Go.Conc Go.RowKit Go.Pmp

noncomputable def body8 : Code := Try.f8.body.getD .skip
noncomputable def body14 : Code := Try.f14.body.getD .skip
noncomputable def body21 : Code := Try.f21.body.getD .skip
theorem f14_body : Try.f14.body = some body14 := by simp only [body14, Try.f14, Option.getD_some]
theorem f21_body : Try.f21.body = some body21 := by simp only [body21, Try.f21, Option.getD_some]
theorem args14 (p q : Value) : (#[p, q] ++ Array.replicate (Try.f14.ntmps - (#[p, q] : Array Value).size) undef : Array Value) = #[p, q, undef, undef, undef, undef, undef, undef, undef, undef, undef, undef, undef, undef, undef, undef, undef, undef, undef, undef, undef] := by rw [Try.ntmps14]; walk_nrm
theorem args21 (p q : Value) : (#[p, q] ++ Array.replicate (Try.f21.ntmps - (#[p, q] : Array Value).size) undef : Array Value) = #[p, q, undef, undef, undef, undef, undef, undef, undef, undef, undef, undef, undef, undef, undef, undef, undef, undef, undef] := by rw [Try.ntmps21]; walk_nrm
theorem fnil (fs : Nat) (caps : Array Value) (w : World) : (binOp .eql 43 (.func (.func fs) #[] caps) .nilFunc).run Try.prog w = .ok (.bool false) w := by kernel_rfl
theorem fnil0 (w : World) : (binOp .eql 43 .nilFunc .nilFunc).run Try.prog w = .ok (.bool true) w := by kernel_rfl
theorem fnil0e (w : World) (es : Array Event) : (binOp .eql 43 .nilFunc .nilFunc).events Try.prog w es = es := by kernel_rfl
theorem fnile (fs : Nat) (caps : Array Value) (w : World) (es : Array Event) : (binOp .eql 43 (.func (.func fs) #[] caps) .nilFunc).events Try.prog w es = es := by kernel_rfl
section
variable {Stop : GW} {b : Frame} {a : Act} {ops : Array Oper} {ii : Nat} {rest : List Nat} {kk : List Item} {cs0 : List Frame} {w : World}
/-- The pump's block ahead of 'with', and behind it. -/
abbrev obP0 (mk : Value) : Obj := .cells #[mk, .chan none, .chan none, .chan none, .bool false, .bool false, .int .i64 0] 52
abbrev obP (mk : Value) (ci : Nat) : Obj := .cells #[mk, .chan (some ci), .chan (some (ci + 1)), .chan (some (ci + 2)), .bool false, .bool false, .int .i64 0] 52
abbrev obC (room : Nat) : Obj := .chan room #[] false 0 0 false
set_option maxRecDepth 100000 in
set_option maxHeartbeats 2000000 in
/-- New, of two boxes that stand. -/
theorem new_ok {room : Nat} (hr : room ≤ 4096) {fs : Nat} {caps : Array Value} {x0 x1 : Obj} {W0 : World} (X0 : Ext w [x0, x1] W0)
    (h : ∀ w', Ext w [x0, x1, obP (.func (.func fs) #[] caps) (w.heap.size + 3), obC room, obC 0, obC 1] w' →
      Ev Try.prog true AtRel D1 Stop (G (b.at (a.put ((ops[ii]?).bind (·.dst)) (.tuple #[.pointer (some ⟨w.heap.size + 2, 0, none⟩), .int .i64 0])) (.inRegion ops rest :: kk)) cs0) w') :
    Ev Try.prog true AtRel D1 Stop (G ((base 14).at ⟨#[.int .i64 room, .func (.func fs) #[] caps, undef, undef, undef, undef, undef, undef, undef, undef, undef, undef, undef, undef, undef, undef, undef, undef, undef, undef, undef], []⟩ [.code body14]) (b.at a (.inRegion ops (ii :: rest) :: kk) :: cs0)) W0 := by
  have T := quiet1
  have hr0 : ¬ ((room : Int) < 0) := by omega
  have hr1 : ¬ ((4096 : Int) < (room : Int)) := by omega
  simp only [body14, Try.f14, Option.getD_some]
  refine Ev.seq T ?_
  refine Ev.region T ?_
  simp only [List.size_toArray, List.length_cons, List.length_nil, Nat.reduceAdd, Nat.zero_add, List.range, List.range.loop]
  refine Ev.still T rfl rfl (by decide) (fun w₁ h₁ K' hK' => ?_)
  go_simp
  refine hK' _ (T.read _ _ (fun e he => by have hm := mem_listed he; simp [go_sem] at hm)) ?_
  clear hK' K' h₁ w₁
  try walk_nrm
  refine Ev.still T rfl rfl (by decide) (fun w₁ h₁ K' hK' => ?_)
  go_simp
  refine hK' _ (T.read _ _ (fun e he => by have hm := mem_listed he; simp [go_sem] at hm)) ?_
  clear hK' K' h₁ w₁
  try walk_nrm
  refine Ev.regionEnd T ?_
  refine Ev.seq T ?_
  refine Ev.block T ?_
  refine Ev.seq T ?_
  refine Ev.region T ?_
  simp only [List.size_toArray, List.length_cons, List.length_nil, Nat.reduceAdd, Nat.zero_add, List.range, List.range.loop]
  refine Ev.still T rfl rfl (by decide) (fun w₁ h₁ K' hK' => ?_)
  go_simp
  refine hK' _ (T.read _ _ (fun e he => by have hm := mem_listed he; simp [go_sem] at hm)) ?_
  clear hK' K' h₁ w₁
  try walk_nrm
  refine Ev.still T rfl rfl (by decide) (fun w₁ h₁ K' hK' => ?_)
  have hfn := fnil fs caps w₁
  have hfe := fnile fs caps w₁
  go_simp
  refine hK' _ (T.read _ _ (fun e he => by have hm := mem_listed he; simp [go_sem, hfe] at hm)) ?_
  clear hK' K' hfn hfe h₁ w₁
  try walk_nrm
  refine Ev.still T rfl rfl (by decide) (fun w₁ h₁ K' hK' => ?_)
  go_simp
  refine hK' _ (T.read _ _ (fun e he => by have hm := mem_listed he; simp [go_sem] at hm)) ?_
  clear hK' K' h₁ w₁
  try walk_nrm
  refine Ev.regionEnd T ?_
  refine Ev.cond T false rfl ?_
  simp only [if_true, if_false, Bool.false_eq_true, ↓reduceIte]
  refine Ev.seq T ?_
  refine Ev.region T ?_
  simp only [List.size_toArray, List.length_cons, List.length_nil, Nat.reduceAdd, Nat.zero_add, List.range, List.range.loop]
  refine Ev.still T rfl rfl (by decide) (fun w₁ h₁ K' hK' => ?_)
  go_simp
  refine hK' _ (T.read _ _ (fun e he => by have hm := mem_listed he; simp [go_sem] at hm)) ?_
  clear hK' K' h₁ w₁
  try walk_nrm
  refine Ev.still T rfl rfl (by decide) (fun w₁ h₁ K' hK' => ?_)
  go_simp
  refine hK' _ (T.read _ _ (fun e he => by have hm := mem_listed he; simp [go_sem, *] at hm)) ?_
  clear hK' K' h₁ w₁
  try walk_nrm
  refine Ev.still T rfl rfl (by decide) (fun w₁ h₁ K' hK' => ?_)
  go_simp
  refine hK' _ (T.read _ _ (fun e he => by have hm := mem_listed he; simp [go_sem] at hm)) ?_
  clear hK' K' h₁ w₁
  try walk_nrm
  refine Ev.still T rfl rfl (by decide) (fun w₁ h₁ K' hK' => ?_)
  go_simp
  refine hK' _ (T.read _ _ (fun e he => by have hm := mem_listed he; simp [go_sem] at hm)) ?_
  clear hK' K' h₁ w₁
  try walk_nrm
  refine Ev.still T rfl rfl (by decide) (fun w₁ h₁ K' hK' => ?_)
  go_simp
  refine hK' _ (T.read _ _ (fun e he => by have hm := mem_listed he; simp [go_sem, *] at hm)) ?_
  clear hK' K' h₁ w₁
  try walk_nrm
  refine Ev.still T rfl rfl (by decide) (fun w₁ h₁ K' hK' => ?_)
  go_simp
  refine hK' _ (T.read _ _ (fun e he => by have hm := mem_listed he; simp [go_sem] at hm)) ?_
  clear hK' K' h₁ w₁
  try walk_nrm
  refine Ev.still T rfl rfl (by decide) (fun w₁ h₁ K' hK' => ?_)
  go_simp
  refine hK' _ (T.read _ _ (fun e he => by have hm := mem_listed he; simp [go_sem] at hm)) ?_
  clear hK' K' h₁ w₁
  try walk_nrm
  refine Ev.regionEnd T ?_
  refine Ev.cond T false rfl ?_
  simp only [if_true, if_false, Bool.false_eq_true, ↓reduceIte]
  refine Ev.skip T ?_
  refine Ev.inBlock T ?_
  refine Ev.seq T ?_
  refine Ev.region T ?_
  simp only [List.size_toArray, List.length_cons, List.length_nil, Nat.reduceAdd, Nat.zero_add, List.range, List.range.loop]
  refine Ev.still T rfl rfl (by decide) (fun w₁ h₁ K' hK' => ?_)
  go_simp
  refine hK' _ (T.read _ _ (fun e he => by have hm := mem_listed he; simp [go_sem] at hm)) ?_
  clear hK' K' h₁ w₁
  try walk_nrm
  refine Ev.still T rfl rfl (by decide) (fun w₁ h₁ K' hK' => ?_)
  go_simp
  refine hK' _ (T.read _ _ (fun e he => by have hm := mem_listed he; simp [go_sem] at hm)) ?_
  clear hK' K' h₁ w₁
  try walk_nrm
  refine Ev.turn rfl rfl (by decide) (fun w₁ h₁ K' hK' => ?_)
  obtain ⟨d, rfl⟩ := h₁
  go_simp
  refine hK' _ _ (fun e he => by have hm := mem_listed he; simp [go_sem] at hm) ?_
  clear hK' K'
  try walk_nrm
  have X1 : Ext w [x0, x1, obP0 (.func (.func fs) #[] caps)] _ := (X0.at d).alloc (obP0 (.func (.func fs) #[] caps))
  have hs0 : W0.heap.size = w.heap.size + 2 := X0.size
  try simp only [hs0]
  generalize (W0.at d).alloc (obP0 (.func (.func fs) #[] caps)) = W1 at X1 ⊢
  refine Ev.still T rfl rfl (by decide) (fun w₁ h₁ K' hK' => ?_)
  go_simp
  refine hK' _ (T.read _ _ (fun e he => by have hm := mem_listed he; simp [go_sem] at hm)) ?_
  clear hK' K' h₁ w₁
  try walk_nrm
  refine Ev.call T (f := 21) (fn := Try.f21) rfl rfl (by decide) rfl Try.func21 (by decide) f21_body ?_
  simp only [List.map_toArray, List.map_cons, List.map_nil]
  rw [args21]
  try walk_nrm
  simp only [body21, Try.f21, Option.getD_some]
  refine Ev.seq T ?_
  refine Ev.region T ?_
  simp only [List.size_toArray, List.length_cons, List.length_nil, Nat.reduceAdd, Nat.zero_add, List.range, List.range.loop]
  refine Ev.still T rfl rfl (by decide) (fun w₁ h₁ K' hK' => ?_)
  go_simp
  refine hK' _ (T.read _ _ (fun e he => by have hm := mem_listed he; simp [go_sem] at hm)) ?_
  clear hK' K' h₁ w₁
  try walk_nrm
  refine Ev.regionEnd T ?_
  refine Ev.seq T ?_
  refine Ev.region T ?_
  simp only [List.size_toArray, List.length_cons, List.length_nil, Nat.reduceAdd, Nat.zero_add, List.range, List.range.loop]
  refine Ev.still T rfl rfl (by decide) (fun w₁ h₁ K' hK' => ?_)
  go_simp
  refine hK' _ (T.read _ _ (fun e he => by have hm := mem_listed he; simp [go_sem] at hm)) ?_
  clear hK' K' h₁ w₁
  try walk_nrm
  refine Ev.still T rfl rfl (by decide) (fun w₁ h₁ K' hK' => ?_)
  go_simp
  refine hK' _ (T.read _ _ (fun e he => by have hm := mem_listed he; simp [go_sem] at hm)) ?_
  clear hK' K' h₁ w₁
  try walk_nrm
  refine Ev.turn rfl rfl (by decide) (fun w₁ h₁ K' hK' => ?_)
  obtain ⟨d, rfl⟩ := h₁
  have hmk := mkI room hr
  have hme := mkIe room hr
  go_simp
  refine hK' _ _ (fun e he => by have hm := mem_listed he; simp [go_sem, hme] at hm) ?_
  clear hK' K' hmk hme
  try walk_nrm
  have X2 : Ext w [x0, x1, obP0 (.func (.func fs) #[] caps), obC room] _ := (X1.at d).alloc (obC room)
  have hs1 : W1.heap.size = w.heap.size + 3 := X1.size
  try simp only [hs1]
  generalize (W1.at d).alloc (obC room) = W2 at X2 ⊢
  refine Ev.still T rfl rfl (by decide) (fun w₁ h₁ K' hK' => ?_)
  go_simp
  refine hK' _ (T.read _ _ (fun e he => by have hm := mem_listed he; simp [go_sem] at hm)) ?_
  clear hK' K' h₁ w₁
  try walk_nrm
  refine Ev.still T rfl rfl (by decide) (fun w₁ h₁ K' hK' => ?_)
  go_simp
  refine hK' _ (T.read _ _ (fun e he => by have hm := mem_listed he; simp [go_sem] at hm)) ?_
  clear hK' K' h₁ w₁
  try walk_nrm
  refine Ev.turn rfl rfl (by decide) (fun w₁ h₁ K' hK' => ?_)
  obtain ⟨d, rfl⟩ := h₁
  have hf0 : (W2.at d).cell? ⟨w.heap.size + 2, 1, none⟩ = some (.chan none) := (X2.at d).cell 2 rfl 1
  have hf1 : (W2.at d).frozen? ⟨w.heap.size + 2, 1, none⟩ = false := (X2.at d).froz 2 rfl 1
  have hes := fun es => events_store Try.prog (W2.at d) es ⟨w.heap.size + 2, 1, none⟩ (.chan (some (w.heap.size + 3))) .plain rfl
  go_simp
  refine hK' _ _ (fun e he => by have hm := mem_listed he; simp [go_sem, hes, storedEv, *] at hm; subst hm; simp [Ev1]) ?_
  clear hK' K' hf0 hf1 hes
  try walk_nrm
  have X3 : Ext w [x0, x1, .cells #[.func (.func fs) #[] caps, .chan (some (w.heap.size + 3)), .chan none, .chan none, .bool false, .bool false, .int .i64 0] 52, obC room] _ := (X2.at d).set 2 rfl 1 (.chan (some (w.heap.size + 3)))
  generalize (W2.at d).setCell ⟨w.heap.size + 2, 1, none⟩ (.chan (some (w.heap.size + 3))) = W3 at X3 ⊢
  refine Ev.regionEnd T ?_
  refine Ev.seq T ?_
  refine Ev.region T ?_
  simp only [List.size_toArray, List.length_cons, List.length_nil, Nat.reduceAdd, Nat.zero_add, List.range, List.range.loop]
  refine Ev.still T rfl rfl (by decide) (fun w₁ h₁ K' hK' => ?_)
  go_simp
  refine hK' _ (T.read _ _ (fun e he => by have hm := mem_listed he; simp [go_sem] at hm)) ?_
  clear hK' K' h₁ w₁
  try walk_nrm
  refine Ev.turn rfl rfl (by decide) (fun w₁ h₁ K' hK' => ?_)
  obtain ⟨d, rfl⟩ := h₁
  have hmk := mkS
  have hme := mkSe
  go_simp
  refine hK' _ _ (fun e he => by have hm := mem_listed he; simp [go_sem, hme] at hm) ?_
  clear hK' K' hmk hme
  try walk_nrm
  have X4 : Ext w [x0, x1, .cells #[.func (.func fs) #[] caps, .chan (some (w.heap.size + 3)), .chan none, .chan none, .bool false, .bool false, .int .i64 0] 52, obC room, obC 0] _ := (X3.at d).alloc (obC 0)
  have hs3 : W3.heap.size = w.heap.size + 4 := X3.size
  try simp only [hs3]
  generalize (W3.at d).alloc (obC 0) = W4 at X4 ⊢
  refine Ev.still T rfl rfl (by decide) (fun w₁ h₁ K' hK' => ?_)
  go_simp
  refine hK' _ (T.read _ _ (fun e he => by have hm := mem_listed he; simp [go_sem] at hm)) ?_
  clear hK' K' h₁ w₁
  try walk_nrm
  refine Ev.still T rfl rfl (by decide) (fun w₁ h₁ K' hK' => ?_)
  go_simp
  refine hK' _ (T.read _ _ (fun e he => by have hm := mem_listed he; simp [go_sem] at hm)) ?_
  clear hK' K' h₁ w₁
  try walk_nrm
  refine Ev.turn rfl rfl (by decide) (fun w₁ h₁ K' hK' => ?_)
  obtain ⟨d, rfl⟩ := h₁
  have hf0 : (W4.at d).cell? ⟨w.heap.size + 2, 2, none⟩ = some (.chan none) := (X4.at d).cell 2 rfl 2
  have hf1 : (W4.at d).frozen? ⟨w.heap.size + 2, 2, none⟩ = false := (X4.at d).froz 2 rfl 2
  have hes := fun es => events_store Try.prog (W4.at d) es ⟨w.heap.size + 2, 2, none⟩ (.chan (some (w.heap.size + 4))) .plain rfl
  go_simp
  refine hK' _ _ (fun e he => by have hm := mem_listed he; simp [go_sem, hes, storedEv, *] at hm; subst hm; simp [Ev1]) ?_
  clear hK' K' hf0 hf1 hes
  try walk_nrm
  have X5 : Ext w [x0, x1, .cells #[.func (.func fs) #[] caps, .chan (some (w.heap.size + 3)), .chan (some (w.heap.size + 4)), .chan none, .bool false, .bool false, .int .i64 0] 52, obC room, obC 0] _ := (X4.at d).set 2 rfl 2 (.chan (some (w.heap.size + 4)))
  generalize (W4.at d).setCell ⟨w.heap.size + 2, 2, none⟩ (.chan (some (w.heap.size + 4))) = W5 at X5 ⊢
  refine Ev.regionEnd T ?_
  refine Ev.seq T ?_
  refine Ev.region T ?_
  simp only [List.size_toArray, List.length_cons, List.length_nil, Nat.reduceAdd, Nat.zero_add, List.range, List.range.loop]
  refine Ev.still T rfl rfl (by decide) (fun w₁ h₁ K' hK' => ?_)
  go_simp
  refine hK' _ (T.read _ _ (fun e he => by have hm := mem_listed he; simp [go_sem] at hm)) ?_
  clear hK' K' h₁ w₁
  try walk_nrm
  refine Ev.turn rfl rfl (by decide) (fun w₁ h₁ K' hK' => ?_)
  obtain ⟨d, rfl⟩ := h₁
  have hmk := mkD
  have hme := mkDe
  go_simp
  refine hK' _ _ (fun e he => by have hm := mem_listed he; simp [go_sem, hme] at hm) ?_
  clear hK' K' hmk hme
  try walk_nrm
  have X6 : Ext w [x0, x1, .cells #[.func (.func fs) #[] caps, .chan (some (w.heap.size + 3)), .chan (some (w.heap.size + 4)), .chan none, .bool false, .bool false, .int .i64 0] 52, obC room, obC 0, obC 1] _ := (X5.at d).alloc (obC 1)
  have hs5 : W5.heap.size = w.heap.size + 5 := X5.size
  try simp only [hs5]
  generalize (W5.at d).alloc (obC 1) = W6 at X6 ⊢
  refine Ev.still T rfl rfl (by decide) (fun w₁ h₁ K' hK' => ?_)
  go_simp
  refine hK' _ (T.read _ _ (fun e he => by have hm := mem_listed he; simp [go_sem] at hm)) ?_
  clear hK' K' h₁ w₁
  try walk_nrm
  refine Ev.still T rfl rfl (by decide) (fun w₁ h₁ K' hK' => ?_)
  go_simp
  refine hK' _ (T.read _ _ (fun e he => by have hm := mem_listed he; simp [go_sem] at hm)) ?_
  clear hK' K' h₁ w₁
  try walk_nrm
  refine Ev.turn rfl rfl (by decide) (fun w₁ h₁ K' hK' => ?_)
  obtain ⟨d, rfl⟩ := h₁
  have hf0 : (W6.at d).cell? ⟨w.heap.size + 2, 3, none⟩ = some (.chan none) := (X6.at d).cell 2 rfl 3
  have hf1 : (W6.at d).frozen? ⟨w.heap.size + 2, 3, none⟩ = false := (X6.at d).froz 2 rfl 3
  have hes := fun es => events_store Try.prog (W6.at d) es ⟨w.heap.size + 2, 3, none⟩ (.chan (some (w.heap.size + 5))) .plain rfl
  go_simp
  refine hK' _ _ (fun e he => by have hm := mem_listed he; simp [go_sem, hes, storedEv, *] at hm; subst hm; simp [Ev1]) ?_
  clear hK' K' hf0 hf1 hes
  try walk_nrm
  have X7 : Ext w [x0, x1, .cells #[.func (.func fs) #[] caps, .chan (some (w.heap.size + 3)), .chan (some (w.heap.size + 4)), .chan (some (w.heap.size + 5)), .bool false, .bool false, .int .i64 0] 52, obC room, obC 0, obC 1] _ := (X6.at d).set 2 rfl 3 (.chan (some (w.heap.size + 5)))
  generalize (W6.at d).setCell ⟨w.heap.size + 2, 3, none⟩ (.chan (some (w.heap.size + 5))) = W7 at X7 ⊢
  refine Ev.regionEnd T ?_
  refine Ev.seq T ?_
  refine Ev.region T ?_
  simp only [List.size_toArray, List.length_cons, List.length_nil, Nat.reduceAdd, Nat.zero_add, List.range, List.range.loop]
  refine Ev.still T rfl rfl (by decide) (fun w₁ h₁ K' hK' => ?_)
  go_simp
  refine hK' _ (T.read _ _ (fun e he => by have hm := mem_listed he; simp [go_sem] at hm)) ?_
  clear hK' K' h₁ w₁
  try walk_nrm
  refine Ev.still T rfl rfl (by decide) (fun w₁ h₁ K' hK' => ?_)
  go_simp
  refine hK' _ (T.read _ _ (fun e he => by have hm := mem_listed he; simp [go_sem] at hm)) ?_
  clear hK' K' h₁ w₁
  try walk_nrm
  refine Ev.regionEnd T ?_
  refine Ev.ret T ?_
  refine Ev.leave1 T (fn := Try.f21) rfl rfl Try.func21 rfl ?_
  try walk_nrm
  refine Ev.still T rfl rfl (by decide) (fun w₁ h₁ K' hK' => ?_)
  go_simp
  refine hK' _ (T.read _ _ (fun e he => by have hm := mem_listed he; simp [go_sem] at hm)) ?_
  clear hK' K' h₁ w₁
  try walk_nrm
  refine Ev.still T rfl rfl (by decide) (fun w₁ h₁ K' hK' => ?_)
  go_simp
  refine hK' _ (T.read _ _ (fun e he => by have hm := mem_listed he; simp [go_sem] at hm)) ?_
  clear hK' K' h₁ w₁
  try walk_nrm
  refine Ev.regionEnd T ?_
  refine Ev.ret T ?_
  refine Ev.leave2 T (fn := Try.f14) rfl rfl Try.func14 rfl ?_
  try walk_nrm
  exact h _ X7
end
end Go.Proofs.Ytnbfmbkglkjhmaa
