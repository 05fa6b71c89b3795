import Derived.Test.YtnbfmbkglkjhmaaPmZb
set_option linter.unusedSimpArgs false
set_option linter.unusedVariables false
set_option linter.unusedSectionVars false
namespace Go.Proofs.Ytnbfmbkglkjhmaa
open Go.Conc Go.RowKit Go.Pmp

theorem f8_body : Try.f8.body = some body8 := by simp only [body8, Try.f8, Option.getD_some]
theorem args8 (p q r : Value) : (#[p, q, r] ++ Array.replicate (Try.f8.ntmps - (#[p, q, r] : Array Value).size) undef : Array Value) = #[p, q, r, undef, undef, undef, undef, undef, undef, undef, undef, undef, undef] := by rw [Try.ntmps8]; walk_nrm
section
variable {Stop : GW} {b : Frame} {a : Act} {ops : Array Oper} {ii : Nat} {rest : List Nat} {kk : List Item} {cs0 : List Frame} {w : World}
set_option maxRecDepth 100000 in
theorem new_bad {room : Int} (hr : room < 0 ∨ 4096 < room) {fs : Nat} {caps : Array Value} {W0 : World}
    (h : Ev Try.prog true AtRel D1 Stop (G (b.at (a.put ((ops[ii]?).bind (·.dst)) (.tuple #[.pointer none, .int .i64 2])) (.inRegion ops rest :: kk)) cs0) W0) :
    Ev Try.prog true AtRel D1 Stop (G ((base 14).at ⟨#[.int .i64 room, .func (.func fs) #[] caps, undef, undef, undef, undef, undef, undef, undef, undef, undef, undef, undef, undef, undef, undef, undef, undef, undef, undef, undef], []⟩ [.code body14]) (b.at a (.inRegion ops (ii :: rest) :: kk) :: cs0)) W0 := by
  have T := quiet1
  simp only [body14, Try.f14, Option.getD_some]
  by_cases hr0 : room < 0
  · refine Ev.seq T ?_
    refine Ev.region T ?_
    simp only [List.size_toArray, List.length_cons, List.length_nil, Nat.reduceAdd, Nat.zero_add, List.range, List.range.loop]
    refine Ev.still T rfl rfl (by decide) (fun w₁ h₁ K' hK' => ?_)
    go_simp
    refine hK' _ (T.read _ _ (fun e he => by have hm := mem_listed he; simp [go_sem] at hm)) ?_
    clear hK' K' h₁ w₁
    try walk_nrm
    refine Ev.still T rfl rfl (by decide) (fun w₁ h₁ K' hK' => ?_)
    go_simp
    refine hK' _ (T.read _ _ (fun e he => by have hm := mem_listed he; simp [go_sem] at hm)) ?_
    clear hK' K' h₁ w₁
    try walk_nrm
    refine Ev.regionEnd T ?_
    refine Ev.seq T ?_
    refine Ev.block T ?_
    refine Ev.seq T ?_
    refine Ev.region T ?_
    simp only [List.size_toArray, List.length_cons, List.length_nil, Nat.reduceAdd, Nat.zero_add, List.range, List.range.loop]
    refine Ev.still T rfl rfl (by decide) (fun w₁ h₁ K' hK' => ?_)
    go_simp
    refine hK' _ (T.read _ _ (fun e he => by have hm := mem_listed he; simp [go_sem] at hm)) ?_
    clear hK' K' h₁ w₁
    try walk_nrm
    refine Ev.still T rfl rfl (by decide) (fun w₁ h₁ K' hK' => ?_)
    have hfn := fnil fs caps w₁
    have hfe := fnile fs caps w₁
    go_simp
    refine hK' _ (T.read _ _ (fun e he => by have hm := mem_listed he; simp [go_sem, hfe] at hm)) ?_
    clear hK' K' hfn hfe h₁ w₁
    try walk_nrm
    refine Ev.still T rfl rfl (by decide) (fun w₁ h₁ K' hK' => ?_)
    go_simp
    refine hK' _ (T.read _ _ (fun e he => by have hm := mem_listed he; simp [go_sem] at hm)) ?_
    clear hK' K' h₁ w₁
    try walk_nrm
    refine Ev.regionEnd T ?_
    refine Ev.cond T false rfl ?_
    simp only [if_true, if_false, Bool.false_eq_true, ↓reduceIte]
    refine Ev.seq T ?_
    refine Ev.region T ?_
    simp only [List.size_toArray, List.length_cons, List.length_nil, Nat.reduceAdd, Nat.zero_add, List.range, List.range.loop]
    refine Ev.still T rfl rfl (by decide) (fun w₁ h₁ K' hK' => ?_)
    go_simp
    refine hK' _ (T.read _ _ (fun e he => by have hm := mem_listed he; simp [go_sem] at hm)) ?_
    clear hK' K' h₁ w₁
    try walk_nrm
    refine Ev.still T rfl rfl (by decide) (fun w₁ h₁ K' hK' => ?_)
    go_simp
    refine hK' _ (T.read _ _ (fun e he => by have hm := mem_listed he; simp [go_sem, *] at hm)) ?_
    clear hK' K' h₁ w₁
    try walk_nrm
    refine Ev.still T rfl rfl (by decide) (fun w₁ h₁ K' hK' => ?_)
    go_simp
    refine hK' _ (T.read _ _ (fun e he => by have hm := mem_listed he; simp [go_sem] at hm)) ?_
    clear hK' K' h₁ w₁
    try walk_nrm
    refine Ev.unwanted T rfl rfl ?_
    try walk_nrm
    refine Ev.unwanted T rfl rfl ?_
    try walk_nrm
    refine Ev.still T rfl rfl (by decide) (fun w₁ h₁ K' hK' => ?_)
    go_simp
    refine hK' _ (T.read _ _ (fun e he => by have hm := mem_listed he; simp [go_sem] at hm)) ?_
    clear hK' K' h₁ w₁
    try walk_nrm
    refine Ev.still T rfl rfl (by decide) (fun w₁ h₁ K' hK' => ?_)
    go_simp
    refine hK' _ (T.read _ _ (fun e he => by have hm := mem_listed he; simp [go_sem] at hm)) ?_
    clear hK' K' h₁ w₁
    try walk_nrm
    refine Ev.regionEnd T ?_
    refine Ev.cond T true rfl ?_
    simp only [if_true, if_false, Bool.false_eq_true, ↓reduceIte]
    refine Ev.seq T ?_
    refine Ev.region T ?_
    simp only [List.size_toArray, List.length_cons, List.length_nil, Nat.reduceAdd, Nat.zero_add, List.range, List.range.loop]
    refine Ev.still T rfl rfl (by decide) (fun w₁ h₁ K' hK' => ?_)
    go_simp
    refine hK' _ (T.read _ _ (fun e he => by have hm := mem_listed he; simp [go_sem] at hm)) ?_
    clear hK' K' h₁ w₁
    try walk_nrm
    refine Ev.still T rfl rfl (by decide) (fun w₁ h₁ K' hK' => ?_)
    go_simp
    refine hK' _ (T.read _ _ (fun e he => by have hm := mem_listed he; simp [go_sem] at hm)) ?_
    clear hK' K' h₁ w₁
    try walk_nrm
    refine Ev.regionEnd T ?_
    refine Ev.ret T ?_
    refine Ev.leave2 T (fn := Try.f14) rfl rfl Try.func14 rfl ?_
    try walk_nrm
    exact h
  · have hr1 : 4096 < room := by omega
    refine Ev.seq T ?_
    refine Ev.region T ?_
    simp only [List.size_toArray, List.length_cons, List.length_nil, Nat.reduceAdd, Nat.zero_add, List.range, List.range.loop]
    refine Ev.still T rfl rfl (by decide) (fun w₁ h₁ K' hK' => ?_)
    go_simp
    refine hK' _ (T.read _ _ (fun e he => by have hm := mem_listed he; simp [go_sem] at hm)) ?_
    clear hK' K' h₁ w₁
    try walk_nrm
    refine Ev.still T rfl rfl (by decide) (fun w₁ h₁ K' hK' => ?_)
    go_simp
    refine hK' _ (T.read _ _ (fun e he => by have hm := mem_listed he; simp [go_sem] at hm)) ?_
    clear hK' K' h₁ w₁
    try walk_nrm
    refine Ev.regionEnd T ?_
    refine Ev.seq T ?_
    refine Ev.block T ?_
    refine Ev.seq T ?_
    refine Ev.region T ?_
    simp only [List.size_toArray, List.length_cons, List.length_nil, Nat.reduceAdd, Nat.zero_add, List.range, List.range.loop]
    refine Ev.still T rfl rfl (by decide) (fun w₁ h₁ K' hK' => ?_)
    go_simp
    refine hK' _ (T.read _ _ (fun e he => by have hm := mem_listed he; simp [go_sem] at hm)) ?_
    clear hK' K' h₁ w₁
    try walk_nrm
    refine Ev.still T rfl rfl (by decide) (fun w₁ h₁ K' hK' => ?_)
    have hfn := fnil fs caps w₁
    have hfe := fnile fs caps w₁
    go_simp
    refine hK' _ (T.read _ _ (fun e he => by have hm := mem_listed he; simp [go_sem, hfe] at hm)) ?_
    clear hK' K' hfn hfe h₁ w₁
    try walk_nrm
    refine Ev.still T rfl rfl (by decide) (fun w₁ h₁ K' hK' => ?_)
    go_simp
    refine hK' _ (T.read _ _ (fun e he => by have hm := mem_listed he; simp [go_sem] at hm)) ?_
    clear hK' K' h₁ w₁
    try walk_nrm
    refine Ev.regionEnd T ?_
    refine Ev.cond T false rfl ?_
    simp only [if_true, if_false, Bool.false_eq_true, ↓reduceIte]
    refine Ev.seq T ?_
    refine Ev.region T ?_
    simp only [List.size_toArray, List.length_cons, List.length_nil, Nat.reduceAdd, Nat.zero_add, List.range, List.range.loop]
    refine Ev.still T rfl rfl (by decide) (fun w₁ h₁ K' hK' => ?_)
    go_simp
    refine hK' _ (T.read _ _ (fun e he => by have hm := mem_listed he; simp [go_sem] at hm)) ?_
    clear hK' K' h₁ w₁
    try walk_nrm
    refine Ev.still T rfl rfl (by decide) (fun w₁ h₁ K' hK' => ?_)
    go_simp
    refine hK' _ (T.read _ _ (fun e he => by have hm := mem_listed he; simp [go_sem, *] at hm)) ?_
    clear hK' K' h₁ w₁
    try walk_nrm
    refine Ev.still T rfl rfl (by decide) (fun w₁ h₁ K' hK' => ?_)
    go_simp
    refine hK' _ (T.read _ _ (fun e he => by have hm := mem_listed he; simp [go_sem] at hm)) ?_
    clear hK' K' h₁ w₁
    try walk_nrm
    refine Ev.still T rfl rfl (by decide) (fun w₁ h₁ K' hK' => ?_)
    go_simp
    refine hK' _ (T.read _ _ (fun e he => by have hm := mem_listed he; simp [go_sem] at hm)) ?_
    clear hK' K' h₁ w₁
    try walk_nrm
    refine Ev.still T rfl rfl (by decide) (fun w₁ h₁ K' hK' => ?_)
    go_simp
    refine hK' _ (T.read _ _ (fun e he => by have hm := mem_listed he; simp [go_sem, *] at hm)) ?_
    clear hK' K' h₁ w₁
    try walk_nrm
    refine Ev.still T rfl rfl (by decide) (fun w₁ h₁ K' hK' => ?_)
    go_simp
    refine hK' _ (T.read _ _ (fun e he => by have hm := mem_listed he; simp [go_sem] at hm)) ?_
    clear hK' K' h₁ w₁
    try walk_nrm
    refine Ev.still T rfl rfl (by decide) (fun w₁ h₁ K' hK' => ?_)
    go_simp
    refine hK' _ (T.read _ _ (fun e he => by have hm := mem_listed he; simp [go_sem] at hm)) ?_
    clear hK' K' h₁ w₁
    try walk_nrm
    refine Ev.regionEnd T ?_
    refine Ev.cond T true rfl ?_
    simp only [if_true, if_false, Bool.false_eq_true, ↓reduceIte]
    refine Ev.seq T ?_
    refine Ev.region T ?_
    simp only [List.size_toArray, List.length_cons, List.length_nil, Nat.reduceAdd, Nat.zero_add, List.range, List.range.loop]
    refine Ev.still T rfl rfl (by decide) (fun w₁ h₁ K' hK' => ?_)
    go_simp
    refine hK' _ (T.read _ _ (fun e he => by have hm := mem_listed he; simp [go_sem] at hm)) ?_
    clear hK' K' h₁ w₁
    try walk_nrm
    refine Ev.still T rfl rfl (by decide) (fun w₁ h₁ K' hK' => ?_)
    go_simp
    refine hK' _ (T.read _ _ (fun e he => by have hm := mem_listed he; simp [go_sem] at hm)) ?_
    clear hK' K' h₁ w₁
    try walk_nrm
    refine Ev.regionEnd T ?_
    refine Ev.ret T ?_
    refine Ev.leave2 T (fn := Try.f14) rfl rfl Try.func14 rfl ?_
    try walk_nrm
    exact h

set_option maxRecDepth 100000 in
theorem new_nil {room : Int} {W0 : World}
    (h : Ev Try.prog true AtRel D1 Stop (G (b.at (a.put ((ops[ii]?).bind (·.dst)) (.tuple #[.pointer none, .int .i64 1])) (.inRegion ops rest :: kk)) cs0) W0) :
    Ev Try.prog true AtRel D1 Stop (G ((base 14).at ⟨#[.int .i64 room, .nilFunc, undef, undef, undef, undef, undef, undef, undef, undef, undef, undef, undef, undef, undef, undef, undef, undef, undef, undef, undef], []⟩ [.code body14]) (b.at a (.inRegion ops (ii :: rest) :: kk) :: cs0)) W0 := by
  have T := quiet1
  simp only [body14, Try.f14, Option.getD_some]
  refine Ev.seq T ?_
  refine Ev.region T ?_
  simp only [List.size_toArray, List.length_cons, List.length_nil, Nat.reduceAdd, Nat.zero_add, List.range, List.range.loop]
  refine Ev.still T rfl rfl (by decide) (fun w₁ h₁ K' hK' => ?_)
  go_simp
  refine hK' _ (T.read _ _ (fun e he => by have hm := mem_listed he; simp [go_sem] at hm)) ?_
  clear hK' K' h₁ w₁
  try walk_nrm
  refine Ev.still T rfl rfl (by decide) (fun w₁ h₁ K' hK' => ?_)
  go_simp
  refine hK' _ (T.read _ _ (fun e he => by have hm := mem_listed he; simp [go_sem] at hm)) ?_
  clear hK' K' h₁ w₁
  try walk_nrm
  refine Ev.regionEnd T ?_
  refine Ev.seq T ?_
  refine Ev.block T ?_
  refine Ev.seq T ?_
  refine Ev.region T ?_
  simp only [List.size_toArray, List.length_cons, List.length_nil, Nat.reduceAdd, Nat.zero_add, List.range, List.range.loop]
  refine Ev.still T rfl rfl (by decide) (fun w₁ h₁ K' hK' => ?_)
  go_simp
  refine hK' _ (T.read _ _ (fun e he => by have hm := mem_listed he; simp [go_sem] at hm)) ?_
  clear hK' K' h₁ w₁
  try walk_nrm
  refine Ev.still T rfl rfl (by decide) (fun w₁ h₁ K' hK' => ?_)
  have hfn := fnil0 w₁
  have hfe := fnil0e w₁
  go_simp
  refine hK' _ (T.read _ _ (fun e he => by have hm := mem_listed he; simp [go_sem, hfe] at hm)) ?_
  clear hK' K' hfn hfe h₁ w₁
  try walk_nrm
  refine Ev.still T rfl rfl (by decide) (fun w₁ h₁ K' hK' => ?_)
  go_simp
  refine hK' _ (T.read _ _ (fun e he => by have hm := mem_listed he; simp [go_sem] at hm)) ?_
  clear hK' K' h₁ w₁
  try walk_nrm
  refine Ev.regionEnd T ?_
  refine Ev.cond T true rfl ?_
  simp only [if_true, if_false, Bool.false_eq_true, ↓reduceIte]
  refine Ev.seq T ?_
  refine Ev.region T ?_
  simp only [List.size_toArray, List.length_cons, List.length_nil, Nat.reduceAdd, Nat.zero_add, List.range, List.range.loop]
  refine Ev.still T rfl rfl (by decide) (fun w₁ h₁ K' hK' => ?_)
  go_simp
  refine hK' _ (T.read _ _ (fun e he => by have hm := mem_listed he; simp [go_sem] at hm)) ?_
  clear hK' K' h₁ w₁
  try walk_nrm
  refine Ev.still T rfl rfl (by decide) (fun w₁ h₁ K' hK' => ?_)
  go_simp
  refine hK' _ (T.read _ _ (fun e he => by have hm := mem_listed he; simp [go_sem] at hm)) ?_
  clear hK' K' h₁ w₁
  try walk_nrm
  refine Ev.regionEnd T ?_
  refine Ev.ret T ?_
  refine Ev.leave2 T (fn := Try.f14) rfl rfl Try.func14 rfl ?_
  try walk_nrm
  exact h

abbrev obs8 (sp : Option Addr) (len cap : Nat) (e : Int) (B room : Nat) : List Obj := [.cells #[.slice sp len cap] 22, .cells #[.int .i64 e] 3, obP (.func (.func 18) #[] #[.pointer (some ⟨B, 0, none⟩), .pointer (some ⟨B + 1, 0, none⟩)]) (B + 3), obC room, obC 0, obC 1]
set_option maxRecDepth 100000 in
set_option maxHeartbeats 2000000 in
/-- A pump of a row. -/
theorem made_ok {room : Nat} (hr : room ≤ 4096) {sp : Option Addr} {len cap : Nat} {e : Int}
    (h : ∀ w', Ext w (obs8 sp len cap e w.heap.size room) w' → Ev Try.prog true AtRel D1 Stop (G (b.at (a.put ((ops[ii]?).bind (·.dst)) (.tuple #[.pointer (some ⟨w.heap.size + 2, 0, none⟩), .int .i64 0])) (.inRegion ops rest :: kk)) cs0) w') :
    Ev Try.prog true AtRel D1 Stop (G ((base 8).at ⟨#[.slice sp len cap, .int .i64 room, .int .i64 e, undef, undef, undef, undef, undef, undef, undef, undef, undef, undef], []⟩ [.code body8]) (b.at a (.inRegion ops (ii :: rest) :: kk) :: cs0)) w := by
  have T := quiet1
  have X0 := Ext.refl w
  suffices hs : ∀ W0, Ext w [] W0 → Ev Try.prog true AtRel D1 Stop (G ((base 8).at ⟨#[.slice sp len cap, .int .i64 room, .int .i64 e, undef, undef, undef, undef, undef, undef, undef, undef, undef, undef], []⟩ [.code body8]) (b.at a (.inRegion ops (ii :: rest) :: kk) :: cs0)) W0 from hs w X0
  clear X0
  intro W0 X0
  simp only [body8, Try.f8, Option.getD_some]
  refine Ev.seq T ?_
  refine Ev.region T ?_
  simp only [List.size_toArray, List.length_cons, List.length_nil, Nat.reduceAdd, Nat.zero_add, List.range, List.range.loop]
  refine Ev.turn rfl rfl (by decide) (fun w₁ h₁ K' hK' => ?_)
  obtain ⟨d, rfl⟩ := h₁
  go_simp
  refine hK' _ _ (fun e he => by have hm := mem_listed he; simp [go_sem] at hm) ?_
  clear hK' K'
  try walk_nrm
  have X1 : Ext w [.cells #[.slice sp len cap] 22] _ := (X0.at d).alloc (.cells #[.slice sp len cap] 22)
  have hs0 : W0.heap.size = w.heap.size + 0 := X0.size
  try simp only [hs0]
  generalize (W0.at d).alloc (.cells #[.slice sp len cap] 22) = W1 at X1 ⊢
  refine Ev.turn rfl rfl (by decide) (fun w₁ h₁ K' hK' => ?_)
  obtain ⟨d, rfl⟩ := h₁
  go_simp
  refine hK' _ _ (fun e he => by have hm := mem_listed he; simp [go_sem] at hm) ?_
  clear hK' K'
  try walk_nrm
  have X2 : Ext w [.cells #[.slice sp len cap] 22, .cells #[.int .i64 e] 3] _ := (X1.at d).alloc (.cells #[.int .i64 e] 3)
  have hs1 : W1.heap.size = w.heap.size + 1 := X1.size
  try simp only [hs1]
  generalize (W1.at d).alloc (.cells #[.int .i64 e] 3) = W2 at X2 ⊢
  refine Ev.still T rfl rfl (by decide) (fun w₁ h₁ K' hK' => ?_)
  go_simp
  refine hK' _ (T.read _ _ (fun e he => by have hm := mem_listed he; simp [go_sem] at hm)) ?_
  clear hK' K' h₁ w₁
  try walk_nrm
  refine Ev.still T rfl rfl (by decide) (fun w₁ h₁ K' hK' => ?_)
  go_simp
  refine hK' _ (T.read _ _ (fun e he => by have hm := mem_listed he; simp [go_sem] at hm)) ?_
  clear hK' K' h₁ w₁
  try walk_nrm
  refine Ev.regionEnd T ?_
  refine Ev.seq T ?_
  refine Ev.region T ?_
  simp only [List.size_toArray, List.length_cons, List.length_nil, Nat.reduceAdd, Nat.zero_add, List.range, List.range.loop]
  refine Ev.still T rfl rfl (by decide) (fun w₁ h₁ K' hK' => ?_)
  go_simp
  refine hK' _ (T.read _ _ (fun e he => by have hm := mem_listed he; simp [go_sem] at hm)) ?_
  clear hK' K' h₁ w₁
  try walk_nrm
  refine Ev.still T rfl rfl (by decide) (fun w₁ h₁ K' hK' => ?_)
  go_simp
  refine hK' _ (T.read _ _ (fun e he => by have hm := mem_listed he; simp [go_sem, Instr.makeFunc] at hm)) ?_
  clear hK' K' h₁ w₁
  try walk_nrm
  refine Ev.call T (f := 14) (fn := Try.f14) rfl rfl (by decide) rfl Try.func14 (by decide) f14_body ?_
  simp only [List.map_toArray, List.map_cons, List.map_nil]
  rw [args14]
  try walk_nrm
  refine new_ok hr X2 (fun w' X' => ?_)
  try walk_nrm
  refine Ev.still T rfl rfl (by decide) (fun w₁ h₁ K' hK' => ?_)
  go_simp
  refine hK' _ (T.read _ _ (fun e he => by have hm := mem_listed he; simp [go_sem] at hm)) ?_
  clear hK' K' h₁ w₁
  try walk_nrm
  refine Ev.still T rfl rfl (by decide) (fun w₁ h₁ K' hK' => ?_)
  go_simp
  refine hK' _ (T.read _ _ (fun e he => by have hm := mem_listed he; simp [go_sem] at hm)) ?_
  clear hK' K' h₁ w₁
  try walk_nrm
  refine Ev.still T rfl rfl (by decide) (fun w₁ h₁ K' hK' => ?_)
  go_simp
  refine hK' _ (T.read _ _ (fun e he => by have hm := mem_listed he; simp [go_sem] at hm)) ?_
  clear hK' K' h₁ w₁
  try walk_nrm
  refine Ev.still T rfl rfl (by decide) (fun w₁ h₁ K' hK' => ?_)
  go_simp
  refine hK' _ (T.read _ _ (fun e he => by have hm := mem_listed he; simp [go_sem] at hm)) ?_
  clear hK' K' h₁ w₁
  try walk_nrm
  refine Ev.regionEnd T ?_
  refine Ev.ret T ?_
  refine Ev.leave2 T (fn := Try.f8) rfl rfl Try.func8 rfl ?_
  try walk_nrm
  exact h w' X'

set_option maxRecDepth 100000 in
set_option maxHeartbeats 2000000 in
/-- A pump of a row, where there is no such room. -/
theorem made_bad {room : Int} (hr : room < 0 ∨ 4096 < room) {sp : Option Addr} {len cap : Nat} {e : Int}
    (h : ∀ w' x0 x1, Ext w [x0, x1] w' → Ev Try.prog true AtRel D1 Stop (G (b.at (a.put ((ops[ii]?).bind (·.dst)) (.tuple #[.pointer none, .int .i64 2])) (.inRegion ops rest :: kk)) cs0) w') :
    Ev Try.prog true AtRel D1 Stop (G ((base 8).at ⟨#[.slice sp len cap, .int .i64 room, .int .i64 e, undef, undef, undef, undef, undef, undef, undef, undef, undef, undef], []⟩ [.code body8]) (b.at a (.inRegion ops (ii :: rest) :: kk) :: cs0)) w := by
  have T := quiet1
  suffices hs : ∀ W0, Ext w [] W0 → Ev Try.prog true AtRel D1 Stop (G ((base 8).at ⟨#[.slice sp len cap, .int .i64 room, .int .i64 e, undef, undef, undef, undef, undef, undef, undef, undef, undef, undef], []⟩ [.code body8]) (b.at a (.inRegion ops (ii :: rest) :: kk) :: cs0)) W0 from hs w (Ext.refl w)
  intro W0 X0
  simp only [body8, Try.f8, Option.getD_some]
  refine Ev.seq T ?_
  refine Ev.region T ?_
  simp only [List.size_toArray, List.length_cons, List.length_nil, Nat.reduceAdd, Nat.zero_add, List.range, List.range.loop]
  refine Ev.turn rfl rfl (by decide) (fun w₁ h₁ K' hK' => ?_)
  obtain ⟨d, rfl⟩ := h₁
  go_simp
  refine hK' _ _ (fun e he => by have hm := mem_listed he; simp [go_sem] at hm) ?_
  clear hK' K'
  try walk_nrm
  have X1 : Ext w [.cells #[.slice sp len cap] 22] _ := (X0.at d).alloc (.cells #[.slice sp len cap] 22)
  have hs0 : W0.heap.size = w.heap.size + 0 := X0.size
  try simp only [hs0]
  generalize (W0.at d).alloc (.cells #[.slice sp len cap] 22) = W1 at X1 ⊢
  refine Ev.turn rfl rfl (by decide) (fun w₁ h₁ K' hK' => ?_)
  obtain ⟨d, rfl⟩ := h₁
  go_simp
  refine hK' _ _ (fun e he => by have hm := mem_listed he; simp [go_sem] at hm) ?_
  clear hK' K'
  try walk_nrm
  have X2 : Ext w [.cells #[.slice sp len cap] 22, .cells #[.int .i64 e] 3] _ := (X1.at d).alloc (.cells #[.int .i64 e] 3)
  have hs1 : W1.heap.size = w.heap.size + 1 := X1.size
  try simp only [hs1]
  generalize (W1.at d).alloc (.cells #[.int .i64 e] 3) = W2 at X2 ⊢
  refine Ev.still T rfl rfl (by decide) (fun w₁ h₁ K' hK' => ?_)
  go_simp
  refine hK' _ (T.read _ _ (fun e he => by have hm := mem_listed he; simp [go_sem] at hm)) ?_
  clear hK' K' h₁ w₁
  try walk_nrm
  refine Ev.still T rfl rfl (by decide) (fun w₁ h₁ K' hK' => ?_)
  go_simp
  refine hK' _ (T.read _ _ (fun e he => by have hm := mem_listed he; simp [go_sem] at hm)) ?_
  clear hK' K' h₁ w₁
  try walk_nrm
  refine Ev.regionEnd T ?_
  refine Ev.seq T ?_
  refine Ev.region T ?_
  simp only [List.size_toArray, List.length_cons, List.length_nil, Nat.reduceAdd, Nat.zero_add, List.range, List.range.loop]
  refine Ev.still T rfl rfl (by decide) (fun w₁ h₁ K' hK' => ?_)
  go_simp
  refine hK' _ (T.read _ _ (fun e he => by have hm := mem_listed he; simp [go_sem] at hm)) ?_
  clear hK' K' h₁ w₁
  try walk_nrm
  refine Ev.still T rfl rfl (by decide) (fun w₁ h₁ K' hK' => ?_)
  go_simp
  refine hK' _ (T.read _ _ (fun e he => by have hm := mem_listed he; simp [go_sem, Instr.makeFunc] at hm)) ?_
  clear hK' K' h₁ w₁
  try walk_nrm
  refine Ev.call T (f := 14) (fn := Try.f14) rfl rfl (by decide) rfl Try.func14 (by decide) f14_body ?_
  simp only [List.map_toArray, List.map_cons, List.map_nil]
  rw [args14]
  try walk_nrm
  refine new_bad hr ?_
  try walk_nrm
  refine Ev.still T rfl rfl (by decide) (fun w₁ h₁ K' hK' => ?_)
  go_simp
  refine hK' _ (T.read _ _ (fun e he => by have hm := mem_listed he; simp [go_sem] at hm)) ?_
  clear hK' K' h₁ w₁
  try walk_nrm
  refine Ev.still T rfl rfl (by decide) (fun w₁ h₁ K' hK' => ?_)
  go_simp
  refine hK' _ (T.read _ _ (fun e he => by have hm := mem_listed he; simp [go_sem] at hm)) ?_
  clear hK' K' h₁ w₁
  try walk_nrm
  refine Ev.still T rfl rfl (by decide) (fun w₁ h₁ K' hK' => ?_)
  go_simp
  refine hK' _ (T.read _ _ (fun e he => by have hm := mem_listed he; simp [go_sem] at hm)) ?_
  clear hK' K' h₁ w₁
  try walk_nrm
  refine Ev.still T rfl rfl (by decide) (fun w₁ h₁ K' hK' => ?_)
  go_simp
  refine hK' _ (T.read _ _ (fun e he => by have hm := mem_listed he; simp [go_sem] at hm)) ?_
  clear hK' K' h₁ w₁
  try walk_nrm
  refine Ev.regionEnd T ?_
  refine Ev.ret T ?_
  refine Ev.leave2 T (fn := Try.f8) rfl rfl Try.func8 rfl ?_
  try walk_nrm
  exact h _ _ _ X2
end
end Go.Proofs.Ytnbfmbkglkjhmaa
