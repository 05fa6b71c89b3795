import Derived.Test.YtnbfmbkglkjhmaaPmZd
set_option linter.unusedSimpArgs false
set_option linter.unusedVariables false
set_option linter.unusedSectionVars false
namespace Go.Proofs.Ytnbfmbkglkjhmaa
open Go.Conc Go.RowKit Go.Pmp
theorem f10_body : Try.f10.body = some body10 := by simp only [body10, Try.f10, Option.getD_some]
theorem f12_body : Try.f12.body = some body12 := by simp only [body12, Try.f12, Option.getD_some]
theorem f13_body : Try.f13.body = some body13 := by simp only [body13, Try.f13, Option.getD_some]
noncomputable def body7 : Code := Try.f7.body.getD .skip
theorem f7_body : Try.f7.body = some body7 := by simp only [body7, Try.f7, Option.getD_some]
theorem args10 (p : Value) : (#[p] ++ Array.replicate (Try.f10.ntmps - (#[p] : Array Value).size) undef : Array Value) = #[p, undef, undef, undef, undef, undef, undef, undef, undef, undef, undef, undef, undef, undef, undef, undef, undef, undef, undef, undef, undef, undef, undef, undef, undef, undef, undef, undef, undef] := by rw [Try.ntmps10]; walk_nrm
theorem args12 (p : Value) : (#[p] ++ Array.replicate (Try.f12.ntmps - (#[p] : Array Value).size) undef : Array Value) = #[p, undef, undef, undef, undef, undef, undef, undef, undef, undef, undef, undef, undef, undef, undef, undef, undef, undef, undef] := by rw [Try.ntmps12]; walk_nrm
theorem args13 (p : Value) : (#[p] ++ Array.replicate (Try.f13.ntmps - (#[p] : Array Value).size) undef : Array Value) = #[p, undef, undef, undef, undef, undef, undef, undef, undef, undef, undef, undef, undef, undef, undef, undef, undef] := by rw [Try.ntmps13]; walk_nrm
theorem args7 : (#[] ++ Array.replicate (Try.f7.ntmps - (#[] : Array Value).size) undef : Array Value) = #[undef, undef, undef, undef, undef, undef, undef, undef, undef, undef, undef, undef, undef, undef, undef, undef, undef, undef, undef, undef, undef, undef, undef, undef, undef, undef, undef, undef, undef, undef, undef, undef, undef, undef, undef, undef, undef, undef] := by rw [Try.ntmps7]; walk_nrm

/-- w' is w, grown. -/
structure Grew (w w' : World) : Prop where
  tape : w'.tape = w.tape
  os : w'.os = w.os
  output : w'.output = w.output
  size : w.heap.size ≤ w'.heap.size
  block : ∀ k, k < w.heap.size → w'.heap[k]? = w.heap[k]?
theorem Grew.refl (w : World) : Grew w w := ⟨rfl, rfl, rfl, Nat.le_refl _, fun _ _ => rfl⟩
theorem Grew.trans {a b c : World} (h : Grew a b) (h' : Grew b c) : Grew a c :=
  ⟨h'.tape.trans h.tape, h'.os.trans h.os, h'.output.trans h.output, Nat.le_trans h.size h'.size, fun k hk => (h'.block k (Nat.lt_of_lt_of_le hk h.size)).trans (h.block k hk)⟩
theorem Ext.grew {w : World} {l : List Obj} {w' : World} (h : Ext w l w') : Grew w w' := ⟨h.tape, h.os, h.output, by rw [h.size]; omega, fun k hk => h.old hk⟩
/-- What a pump moves that was made behind w lies behind w. -/
theorem Grew.moved {B room : Nat} {sp : Option Addr} {ad : Addr} {len cap : Nat} {L : Nat → Int} {e : Int} {w a b : World} (h : Grew w a) (hB : w.heap.size ≤ B) (m : Moved (rowK B room sp ad len cap L e) a b) : Grew w b :=
  ⟨m.tape.trans h.tape, m.os.trans h.os, m.output.trans h.output, Nat.le_trans h.size m.size, fun k hk => (m.block k (Nat.lt_of_lt_of_le hk h.size) (by simp only [rowK]; omega) (by simp only [rowK]; omega) (by simp only [rowK]; omega) (by simp only [rowK]; omega) (fun h => h)).trans (h.block k hk)⟩

section
variable {Post : Value → World → Prop} {n : Nat} {b : Frame} {a : Act} {ops : Array Oper} {ii : Nat} {rest : List Nat} {kk : List Item} {cs0 : List Frame} {w : World}
set_option maxRecDepth 100000 in
set_option maxHeartbeats 4000000 in
/-- The page's example. -/
theorem live_c (h : ∀ w', Grew w w' → Ev Try.prog true AtRel D1 (StopL Post n) (G (b.at (a.put ((ops[ii]?).bind (·.dst)) (.bool true)) (.inRegion ops rest :: kk)) cs0) w') :
    Ev Try.prog true AtRel D1 (StopL Post (n + 1)) (G ((base 7).at ⟨#[undef, undef, undef, undef, undef, undef, undef, undef, undef, undef, undef, undef, undef, undef, undef, undef, undef, undef, undef, undef, undef, undef, undef, undef, undef, undef, undef, undef, undef, undef, undef, undef, undef, undef, undef, undef, undef, undef], []⟩ [.code body7]) (b.at a (.inRegion ops (ii :: rest) :: kk) :: cs0)) w := by
  have T := quiet1
  simp only [body7, Try.f7, Option.getD_some]
  refine Ev.seq T ?_
  refine Ev.region T ?_
  simp only [List.size_toArray, List.length_cons, List.length_nil, Nat.reduceAdd, Nat.zero_add, List.range, List.range.loop]
  refine Ev.still T rfl rfl (by decide) (fun w₁ h₁ K' hK' => ?_)
  go_simp
  refine hK' _ (T.read _ _ (fun e he => by have hm := mem_listed he; simp [go_sem] at hm)) ?_
  clear hK' K' h₁ w₁
  try walk_nrm
  refine Ev.regionEnd T ?_
  refine Ev.seq T ?_
  refine Ev.region T ?_
  simp only [List.size_toArray, List.length_cons, List.length_nil, Nat.reduceAdd, Nat.zero_add, List.range, List.range.loop]
  refine Ev.turn rfl rfl (by decide) (fun w₁ h₁ K' hK' => ?_)
  obtain ⟨d, rfl⟩ := h₁
  go_simp
  refine hK' _ _ (fun e he => by have hm := mem_listed he; simp [go_sem] at hm) ?_
  clear hK' K'
  try walk_nrm
  have X1 := ((Ext.refl w).at d).alloc (.cells #[.int .i64 1, .int .i64 2, .int .i64 3] 3)
  generalize (w.at d).alloc (.cells #[.int .i64 1, .int .i64 2, .int .i64 3] 3) = W1 at X1 ⊢
  refine Ev.call T (f := 8) (fn := Try.f8) rfl rfl (by decide) rfl Try.func8 (by decide) f8_body ?_
  simp only [List.map_toArray, List.map_cons, List.map_nil]
  rw [args8]
  try walk_nrm
  have hs1 : W1.heap.size = w.heap.size + 1 := X1.size
  have c1 := fun n => X1.cell 0 (hl := rfl) n
  have z1 := fun n => X1.froz 0 (hl := rfl) n
  refine made_ok (room := 0) (by omega) (fun W2 X2 => ?_)
  have O : (rowK W1.heap.size 0 (some ⟨w.heap.size, 0, none⟩) ⟨w.heap.size, 0, none⟩ 3 3 (fun i => (i : Int) + 1) 0).Ok (W1.heap.size + 6) := rowK_ok (by omega) (fun _ => rfl) (fun _ => by show w.heap.size < _; omega)
  have F2 := made_fresh (room := 0) (sp := some ⟨w.heap.size, 0, none⟩) (ad := ⟨w.heap.size, 0, none⟩) (len := 3) (cap := 3) (L := fun i => (i : Int) + 1) (e := 0) (fun _ => by show w.heap.size < _; omega) (fun i hi => by rcases i with _ | _ | _ | i <;> first | exact c1 _ | omega) X2
  have G2 : Grew w W2 := X1.grew.trans X2.grew
  have hB : w.heap.size ≤ W1.heap.size := by omega
  generalize W1.heap.size = B at *
  clear hs1
  try walk_nrm
  obtain ⟨R1, Dq1, Ok1, St1, C1, N1, M1, hl1, hg1, hiff1, hR1, hC1⟩ := Can.open (Post := Post) (n := n) O F2
  refine (hiff1 _ _).2 ?_
  have T1 := M1.T
  refine Ev.still T1 rfl rfl (by decide) (fun w₁ h₁ K' hK' => ?_)
  go_simp
  refine hK' _ (T1.read _ _ (fun e he => by have hm := mem_listed he; simp [go_sem] at hm)) ?_
  clear hK' K' h₁ w₁
  try walk_nrm
  refine Ev.still T1 rfl rfl (by decide) (fun w₁ h₁ K' hK' => ?_)
  go_simp
  refine hK' _ (T1.read _ _ (fun e he => by have hm := mem_listed he; simp [go_sem] at hm)) ?_
  clear hK' K' h₁ w₁
  try walk_nrm
  refine Ev.still T1 rfl rfl (by decide) (fun w₁ h₁ K' hK' => ?_)
  go_simp
  refine hK' _ (T1.read _ _ (fun e he => by have hm := mem_listed he; simp [go_sem] at hm)) ?_
  clear hK' K' h₁ w₁
  try walk_nrm
  refine Ev.still T1 rfl rfl (by decide) (fun w₁ h₁ K' hK' => ?_)
  go_simp
  refine hK' _ (T1.read _ _ (fun e he => by have hm := mem_listed he; simp [go_sem] at hm)) ?_
  clear hK' K' h₁ w₁
  try walk_nrm
  refine Ev.still T1 rfl rfl (by decide) (fun w₁ h₁ K' hK' => ?_)
  go_simp
  refine hK' _ (T1.read _ _ (fun e he => by have hm := mem_listed he; simp [go_sem] at hm)) ?_
  clear hK' K' h₁ w₁
  try walk_nrm
  refine Ev.regionEnd T1 ?_
  refine Ev.seq T1 ?_
  refine Ev.region T1 ?_
  simp only [List.size_toArray, List.length_cons, List.length_nil, Nat.reduceAdd, Nat.zero_add, List.range, List.range.loop]
  refine Ev.still T1 rfl rfl (by decide) (fun w₁ h₁ K' hK' => ?_)
  go_simp
  refine hK' _ (T1.read _ _ (fun e he => by have hm := mem_listed he; simp [go_sem] at hm)) ?_
  clear hK' K' h₁ w₁
  try walk_nrm
  refine Ev.call T1 (f := 10) (fn := Try.f10) rfl rfl (by decide) rfl Try.func10 (by decide) f10_body ?_
  simp only [List.map_toArray, List.map_cons, List.map_nil]
  rw [args10]
  try walk_nrm
  refine (hiff1 _ _).1 ?_
  refine next_fresh O F2 2 (fun j W3 m3 F3 _ => ?_) (fun W3 e3 m3 F3 hE => absurd (hE.1 rfl).1 (by omega))
  have G3 := G2.moved hB m3
  have hf0 : (rowK B 0 (some ⟨w.heap.size, 0, none⟩) ⟨w.heap.size, 0, none⟩ 3 3 (fun i => (i : Int) + 1) 0).f 0 = .int .i64 1 := rfl
  rw [hf0]
  clear hf0
  try walk_nrm
  obtain ⟨R2, Dq2, Ok2, St2, C2, N2, M2, hl2, hg2, hiff2, hR2, hC2⟩ := Can.open (Post := Post) (n := n) O F3
  refine (hiff2 _ _).2 ?_
  have T2 := M2.T
  refine Ev.still T2 rfl rfl (by decide) (fun w₁ h₁ K' hK' => ?_)
  go_simp
  refine hK' _ (T2.read _ _ (fun e he => by have hm := mem_listed he; simp [go_sem] at hm)) ?_
  clear hK' K' h₁ w₁
  try walk_nrm
  refine Ev.still T2 rfl rfl (by decide) (fun w₁ h₁ K' hK' => ?_)
  go_simp
  refine hK' _ (T2.read _ _ (fun e he => by have hm := mem_listed he; simp [go_sem] at hm)) ?_
  clear hK' K' h₁ w₁
  try walk_nrm
  refine Ev.still T2 rfl rfl (by decide) (fun w₁ h₁ K' hK' => ?_)
  go_simp
  refine hK' _ (T2.read _ _ (fun e he => by have hm := mem_listed he; simp [go_sem] at hm)) ?_
  clear hK' K' h₁ w₁
  try walk_nrm
  refine Ev.still T2 rfl rfl (by decide) (fun w₁ h₁ K' hK' => ?_)
  go_simp
  refine hK' _ (T2.read _ _ (fun e he => by have hm := mem_listed he; simp [go_sem] at hm)) ?_
  clear hK' K' h₁ w₁
  try walk_nrm
  refine Ev.still T2 rfl rfl (by decide) (fun w₁ h₁ K' hK' => ?_)
  go_simp
  refine hK' _ (T2.read _ _ (fun e he => by have hm := mem_listed he; simp [go_sem] at hm)) ?_
  clear hK' K' h₁ w₁
  try walk_nrm
  refine Ev.regionEnd T2 ?_
  refine Ev.seq T2 ?_
  refine Ev.region T2 ?_
  simp only [List.size_toArray, List.length_cons, List.length_nil, Nat.reduceAdd, Nat.zero_add, List.range, List.range.loop]
  refine Ev.still T2 rfl rfl (by decide) (fun w₁ h₁ K' hK' => ?_)
  go_simp
  refine hK' _ (T2.read _ _ (fun e he => by have hm := mem_listed he; simp [go_sem] at hm)) ?_
  clear hK' K' h₁ w₁
  try walk_nrm
  refine Ev.call T2 (f := 12) (fn := Try.f12) rfl rfl (by decide) rfl Try.func12 (by decide) f12_body ?_
  simp only [List.map_toArray, List.map_cons, List.map_nil]
  rw [args12]
  try walk_nrm
  refine (hiff2 _ _).1 ?_
  refine stop_beside O F3 (fun W4 e4 i4 st4 m4 F4 _ _ _ => ?_)
  have G4 := G3.moved hB m4
  try walk_nrm
  obtain ⟨R3, Dq3, Ok3, St3, C3, N3, M3, hl3, hg3, hiff3, hR3, hC3⟩ := Can.open (Post := Post) (n := n) O F4
  refine (hiff3 _ _).2 ?_
  have T3 := M3.T
  refine Ev.still T3 rfl rfl (by decide) (fun w₁ h₁ K' hK' => ?_)
  go_simp
  refine hK' _ (T3.read _ _ (fun e he => by have hm := mem_listed he; simp [go_sem] at hm)) ?_
  clear hK' K' h₁ w₁
  try walk_nrm
  refine Ev.regionEnd T3 ?_
  refine Ev.seq T3 ?_
  refine Ev.region T3 ?_
  simp only [List.size_toArray, List.length_cons, List.length_nil, Nat.reduceAdd, Nat.zero_add, List.range, List.range.loop]
  refine Ev.still T3 rfl rfl (by decide) (fun w₁ h₁ K' hK' => ?_)
  go_simp
  refine hK' _ (T3.read _ _ (fun e he => by have hm := mem_listed he; simp [go_sem] at hm)) ?_
  clear hK' K' h₁ w₁
  try walk_nrm
  refine Ev.call T3 (f := 10) (fn := Try.f10) rfl rfl (by decide) rfl Try.func10 (by decide) f10_body ?_
  simp only [List.map_toArray, List.map_cons, List.map_nil]
  rw [args10]
  try walk_nrm
  refine (hiff3 _ _).1 ?_
  refine next_o F4 ?_
  try walk_nrm
  obtain ⟨R4, Dq4, Ok4, St4, C4, N4, M4, hl4, hg4, hiff4, hR4, hC4⟩ := Can.open (Post := Post) (n := n) O F4
  refine (hiff4 _ _).2 ?_
  have T4 := M4.T
  refine Ev.still T4 rfl rfl (by decide) (fun w₁ h₁ K' hK' => ?_)
  go_simp
  refine hK' _ (T4.read _ _ (fun e he => by have hm := mem_listed he; simp [go_sem] at hm)) ?_
  clear hK' K' h₁ w₁
  try walk_nrm
  refine Ev.still T4 rfl rfl (by decide) (fun w₁ h₁ K' hK' => ?_)
  go_simp
  refine hK' _ (T4.read _ _ (fun e he => by have hm := mem_listed he; simp [go_sem] at hm)) ?_
  clear hK' K' h₁ w₁
  try walk_nrm
  refine Ev.still T4 rfl rfl (by decide) (fun w₁ h₁ K' hK' => ?_)
  go_simp
  refine hK' _ (T4.read _ _ (fun e he => by have hm := mem_listed he; simp [go_sem] at hm)) ?_
  clear hK' K' h₁ w₁
  try walk_nrm
  refine Ev.still T4 rfl rfl (by decide) (fun w₁ h₁ K' hK' => ?_)
  go_simp
  refine hK' _ (T4.read _ _ (fun e he => by have hm := mem_listed he; simp [go_sem] at hm)) ?_
  clear hK' K' h₁ w₁
  try walk_nrm
  refine Ev.still T4 rfl rfl (by decide) (fun w₁ h₁ K' hK' => ?_)
  go_simp
  refine hK' _ (T4.read _ _ (fun e he => by have hm := mem_listed he; simp [go_sem] at hm)) ?_
  clear hK' K' h₁ w₁
  try walk_nrm
  refine Ev.regionEnd T4 ?_
  refine Ev.seq T4 ?_
  refine Ev.region T4 ?_
  simp only [List.size_toArray, List.length_cons, List.length_nil, Nat.reduceAdd, Nat.zero_add, List.range, List.range.loop]
  refine Ev.still T4 rfl rfl (by decide) (fun w₁ h₁ K' hK' => ?_)
  go_simp
  refine hK' _ (T4.read _ _ (fun e he => by have hm := mem_listed he; simp [go_sem] at hm)) ?_
  clear hK' K' h₁ w₁
  try walk_nrm
  refine Ev.still T4 rfl rfl (by decide) (fun w₁ h₁ K' hK' => ?_)
  go_simp
  refine hK' _ (T4.read _ _ (fun e he => by have hm := mem_listed he; simp [go_sem] at hm)) ?_
  clear hK' K' h₁ w₁
  try walk_nrm
  refine Ev.still T4 rfl rfl (by decide) (fun w₁ h₁ K' hK' => ?_)
  go_simp
  refine hK' _ (T4.read _ _ (fun e he => by have hm := mem_listed he; simp [go_sem] at hm)) ?_
  clear hK' K' h₁ w₁
  try walk_nrm
  refine Ev.still T4 rfl rfl (by decide) (fun w₁ h₁ K' hK' => ?_)
  go_simp
  refine hK' _ (T4.read _ _ (fun e he => by have hm := mem_listed he; simp [go_sem] at hm)) ?_
  clear hK' K' h₁ w₁
  try walk_nrm
  refine Ev.still T4 rfl rfl (by decide) (fun w₁ h₁ K' hK' => ?_)
  go_simp
  refine hK' _ (T4.read _ _ (fun e he => by have hm := mem_listed he; simp [go_sem] at hm)) ?_
  clear hK' K' h₁ w₁
  try walk_nrm
  refine Ev.still T4 rfl rfl (by decide) (fun w₁ h₁ K' hK' => ?_)
  go_simp
  refine hK' _ (T4.read _ _ (fun e he => by have hm := mem_listed he; simp [go_sem] at hm)) ?_
  clear hK' K' h₁ w₁
  try walk_nrm
  refine Ev.still T4 rfl rfl (by decide) (fun w₁ h₁ K' hK' => ?_)
  go_simp
  refine hK' _ (T4.read _ _ (fun e he => by have hm := mem_listed he; simp [go_sem] at hm)) ?_
  clear hK' K' h₁ w₁
  try walk_nrm
  refine Ev.still T4 rfl rfl (by decide) (fun w₁ h₁ K' hK' => ?_)
  go_simp
  refine hK' _ (T4.read _ _ (fun e he => by have hm := mem_listed he; simp [go_sem] at hm)) ?_
  clear hK' K' h₁ w₁
  try walk_nrm
  refine Ev.still T4 rfl rfl (by decide) (fun w₁ h₁ K' hK' => ?_)
  go_simp
  refine hK' _ (T4.read _ _ (fun e he => by have hm := mem_listed he; simp [go_sem] at hm)) ?_
  clear hK' K' h₁ w₁
  try walk_nrm
  refine Ev.still T4 rfl rfl (by decide) (fun w₁ h₁ K' hK' => ?_)
  go_simp
  refine hK' _ (T4.read _ _ (fun e he => by have hm := mem_listed he; simp [go_sem] at hm)) ?_
  clear hK' K' h₁ w₁
  try walk_nrm
  refine Ev.still T4 rfl rfl (by decide) (fun w₁ h₁ K' hK' => ?_)
  go_simp
  refine hK' _ (T4.read _ _ (fun e he => by have hm := mem_listed he; simp [go_sem] at hm)) ?_
  clear hK' K' h₁ w₁
  try walk_nrm
  refine Ev.still T4 rfl rfl (by decide) (fun w₁ h₁ K' hK' => ?_)
  go_simp
  refine hK' _ (T4.read _ _ (fun e he => by have hm := mem_listed he; simp [go_sem] at hm)) ?_
  clear hK' K' h₁ w₁
  try walk_nrm
  refine Ev.still T4 rfl rfl (by decide) (fun w₁ h₁ K' hK' => ?_)
  go_simp
  refine hK' _ (T4.read _ _ (fun e he => by have hm := mem_listed he; simp [go_sem] at hm)) ?_
  clear hK' K' h₁ w₁
  try walk_nrm
  refine Ev.still T4 rfl rfl (by decide) (fun w₁ h₁ K' hK' => ?_)
  go_simp
  refine hK' _ (T4.read _ _ (fun e he => by have hm := mem_listed he; simp [go_sem] at hm)) ?_
  clear hK' K' h₁ w₁
  try walk_nrm
  refine Ev.regionEnd T4 ?_
  refine Ev.ret T4 ?_
  refine (hiff4 _ _).1 ?_
  refine Ev.leave1 quiet1 (fn := Try.f7) rfl rfl Try.func7 rfl ?_
  try walk_nrm
  exact h W4 G4
end
end Go.Proofs.Ytnbfmbkglkjhmaa
