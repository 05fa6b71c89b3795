import Derived.Test.YtnbfmbkglkjhmaaPmZj
set_option linter.unusedSimpArgs false
set_option linter.unusedVariables false
set_option linter.unusedSectionVars false
namespace Go.Proofs.Ytnbfmbkglkjhmaa
open Go.Conc Go.RowKit Go.Pmp
noncomputable def body5 : Code := Try.f5.body.getD .skip
theorem f5_body : Try.f5.body = some body5 := by simp only [body5, Try.f5, Option.getD_some]

theorem Grew.at {a b : World} (h : Grew a b) (d : Nat) : Grew a (b.at d) := ⟨h.tape, h.os, h.output, h.size, h.block⟩
theorem cut_fact (sp : Option Addr) (len cap k : Nat) (hlc : len ≤ cap) (hk : k ≤ len) (w : World) : (Instr.slice 22 (.slice sp len cap) none (some (.int .i64 k)) none).run Try.prog w = .ok (.slice sp k cap) w := by
  rw [run_slice_h (P := Try.prog) (w := w) 22 sp len cap (by kernel_rfl) .i64 (k : Int) (by omega) (by omega), show (sizeOf (Try.prog.elem 22)).run Try.prog w = .ok 1 w by kernel_rfl]
  simp [sliced]
  intro _
  cases sp with
  | none => rfl
  | some a => simp [Addr.add]
theorem cut_evs (sp : Option Addr) (len cap k : Nat) (hlc : len ≤ cap) (hk : k ≤ len) (hc : cap ≤ 9223372036854775807) (w : World) (es : Array Event) : (Instr.sliceAt 22 (.slice sp len cap) none (some (.int .i64 k)) none).events Try.prog w es = es := by
  have h2 : k ≤ cap := by omega
  obtain ⟨i0, hi, _⟩ := info3
  simp [Instr.sliceAt, Instr.slice, run_underlying Try.underlying22, Instr.sliceBounds, Instr.sliceBound, asIntOf, sizeOf, typeInfo, h2, hi]
theorem max_evs (a b : Int) (w : World) (es : Array Event) : (Builtin.max_ #[3, 3] 3 #[.int .i64 a, .int .i64 b]).events Try.prog w es = es := by
  simp [Builtin.max_, Builtin.max2, go_sem]
theorem min_evs (a b : Int) (w : World) (es : Array Event) : (Builtin.min_ #[3, 3] 3 #[.int .i64 a, .int .i64 b]).events Try.prog w es = es := by
  simp [Builtin.min_, Builtin.min2, go_sem]
set_option maxRecDepth 100000 in
set_option maxHeartbeats 8000000 in
theorem takes_ev (W : World) {sp : Option Addr} {ad : Addr} {len cap room : Nat} {L : Nat → Int} {most : Int} (hlc : len ≤ cap) (hcap : cap ≤ 9223372036854775807) (hsp : 0 < len → sp = some ad) (had : 0 < len → ad.block < W.heap.size) (hx : ∀ i, i < len → W.cell? (ad.add i) = some (.int .i64 (L i))) (hroom : room ≤ 255) (hm1 : -9223372036854775808 ≤ most) (hm2 : most ≤ 9223372036854775807) :
    Ev Try.prog true AtRel D1 (StopL (PostT W) 2) (G ((base 5).at ⟨#[.slice sp len cap, .int .u8 room, .int .i64 most, undef, undef, undef, undef, undef, undef, undef, undef, undef, undef, undef, undef, undef, undef, undef, undef, undef, undef, undef, undef, undef, undef, undef, undef, undef, undef, undef, undef, undef, undef, undef, undef, undef, undef, undef, undef, undef, undef, undef, undef, undef, undef, undef, undef, undef, undef, undef, undef, undef, undef, undef, undef, undef, undef, undef, undef, undef, undef, undef, undef, undef, undef, undef, undef, undef, undef, undef, undef, undef, undef, undef, undef, undef, undef, undef, undef, undef, undef, undef, undef, undef], []⟩ [.code body5]) []) W := by
  have T := quiet1
  have hr63 : (room : Int) ≤ 255 := by omega
  simp only [body5, Try.f5, Option.getD_some]
  by_cases h300 : 300 < len
  · have h300' : (300 : Int) < (len : Int) := by omega
    refine Ev.seq T ?_
    refine Ev.region T ?_
    simp only [List.size_toArray, List.length_cons, List.length_nil, Nat.reduceAdd, Nat.zero_add, List.range, List.range.loop]
    refine Ev.still T rfl rfl (by decide) (fun w₁ h₁ K' hK' => ?_)
    go_simp
    refine hK' _ (T.read _ _ (fun e he => by have hm := mem_listed he; simp [go_sem] at hm)) ?_
    clear hK' K' h₁ w₁
    try walk_nrm
    refine Ev.regionEnd T ?_
    refine Ev.seq T ?_
    refine Ev.seq T ?_
    refine Ev.region T ?_
    simp only [List.size_toArray, List.length_cons, List.length_nil, Nat.reduceAdd, Nat.zero_add, List.range, List.range.loop]
    refine Ev.still T rfl rfl (by decide) (fun w₁ h₁ K' hK' => ?_)
    go_simp
    refine hK' _ (T.read _ _ (fun e he => by have hm := mem_listed he; simp [go_sem] at hm)) ?_
    clear hK' K' h₁ w₁
    try walk_nrm
    refine Ev.still T rfl rfl (by decide) (fun w₁ h₁ K' hK' => ?_)
    go_simp
    refine hK' _ (T.read _ _ (fun e he => by have hm := mem_listed he; simp [go_sem] at hm)) ?_
    clear hK' K' h₁ w₁
    try walk_nrm
    refine Ev.still T rfl rfl (by decide) (fun w₁ h₁ K' hK' => ?_)
    go_simp
    refine hK' _ (T.read _ _ (fun e he => by have hm := mem_listed he; simp [go_sem] at hm)) ?_
    clear hK' K' h₁ w₁
    try walk_nrm
    refine Ev.regionEnd T ?_
    refine Ev.cond T true (by simp [Act.eval, h300']) ?_
    simp only [if_true, if_false, Bool.false_eq_true, ↓reduceIte]
    refine Ev.seq T ?_
    refine Ev.region T ?_
    simp only [List.size_toArray, List.length_cons, List.length_nil, Nat.reduceAdd, Nat.zero_add, List.range, List.range.loop]
    refine Ev.call T (f := 7) (fn := Try.f7) rfl rfl (by decide) rfl Try.func7 (by decide) f7_body ?_
    simp only [List.map_toArray, List.map_cons, List.map_nil]
    rw [args7]
    try walk_nrm
    refine live_c (fun W' G' => ?_)
    try walk_nrm
    refine Ev.still T rfl rfl (by decide) (fun w₁ h₁ K' hK' => ?_)
    go_simp
    refine hK' _ (T.read _ _ (fun e he => by have hm := mem_listed he; simp [go_sem] at hm)) ?_
    clear hK' K' h₁ w₁
    try walk_nrm
    refine Ev.regionEnd T ?_
    refine Ev.ret T ?_
    refine .stop fun w₂ r₂ => .inl fun d' => ?_
    obtain ⟨d₂, rfl⟩ := r₂
    refine ⟨rfl, .bool true, #[], ?_, by simp, rfl, Below.of_at (Below.of_at (Grew.below G') d₂) d'⟩
    simp [G, stepG, unwind, doReturn, results, Frame.at, base, Try.func5, Try.f5, seen, GStep.after]
  · have h300' : ¬ ((300 : Int) < (len : Int)) := by omega
    have hlen : len ≤ 1000 := by omega
    refine Ev.seq T ?_
    refine Ev.region T ?_
    simp only [List.size_toArray, List.length_cons, List.length_nil, Nat.reduceAdd, Nat.zero_add, List.range, List.range.loop]
    refine Ev.still T rfl rfl (by decide) (fun w₁ h₁ K' hK' => ?_)
    go_simp
    refine hK' _ (T.read _ _ (fun e he => by have hm := mem_listed he; simp [go_sem] at hm)) ?_
    clear hK' K' h₁ w₁
    try walk_nrm
    refine Ev.regionEnd T ?_
    refine Ev.seq T ?_
    refine Ev.seq T ?_
    refine Ev.region T ?_
    simp only [List.size_toArray, List.length_cons, List.length_nil, Nat.reduceAdd, Nat.zero_add, List.range, List.range.loop]
    refine Ev.still T rfl rfl (by decide) (fun w₁ h₁ K' hK' => ?_)
    go_simp
    refine hK' _ (T.read _ _ (fun e he => by have hm := mem_listed he; simp [go_sem] at hm)) ?_
    clear hK' K' h₁ w₁
    try walk_nrm
    refine Ev.still T rfl rfl (by decide) (fun w₁ h₁ K' hK' => ?_)
    go_simp
    refine hK' _ (T.read _ _ (fun e he => by have hm := mem_listed he; simp [go_sem] at hm)) ?_
    clear hK' K' h₁ w₁
    try walk_nrm
    refine Ev.still T rfl rfl (by decide) (fun w₁ h₁ K' hK' => ?_)
    go_simp
    refine hK' _ (T.read _ _ (fun e he => by have hm := mem_listed he; simp [go_sem] at hm)) ?_
    clear hK' K' h₁ w₁
    try walk_nrm
    refine Ev.regionEnd T ?_
    refine Ev.cond T false (by simp [Act.eval, h300']) ?_
    simp only [if_true, if_false, Bool.false_eq_true, ↓reduceIte]
    refine Ev.skip T ?_
    refine Ev.seq T ?_
    refine Ev.region T ?_
    simp only [List.size_toArray, List.length_cons, List.length_nil, Nat.reduceAdd, Nat.zero_add, List.range, List.range.loop]
    refine Ev.still T rfl rfl (by decide) (fun w₁ h₁ K' hK' => ?_)
    go_simp
    refine hK' _ (T.read _ _ (fun e he => by have hm := mem_listed he; simp [go_sem] at hm)) ?_
    clear hK' K' h₁ w₁
    try walk_nrm
    refine Ev.still T rfl rfl (by decide) (fun w₁ h₁ K' hK' => ?_)
    go_simp
    refine hK' _ (T.read _ _ (fun e he => by have hm := mem_listed he; simp [go_sem] at hm)) ?_
    clear hK' K' h₁ w₁
    try walk_nrm
    refine Ev.still T rfl rfl (by decide) (fun w₁ h₁ K' hK' => ?_)
    go_simp
    refine hK' _ (T.read _ _ (fun e he => by have hm := mem_listed he; simp [go_sem] at hm)) ?_
    clear hK' K' h₁ w₁
    try walk_nrm
    refine Ev.call T (f := 8) (fn := Try.f8) rfl rfl (by decide) rfl Try.func8 (by decide) f8_body ?_
    simp only [List.map_toArray, List.map_cons, List.map_nil]
    rw [args8]
    try walk_nrm
    rw [show IntKind.wrap .i64 (room : Int) = room from IntWalk.i64_in _ (by omega)]
    refine made_ok (room := room) (by omega) (fun W2 X2 => ?_)
    have O : (rowK W.heap.size room sp ad len cap L 9).Ok (W.heap.size + 6) := rowK_ok hlen hsp had
    have F2 : WF (rowK W.heap.size room sp ad len cap L 9) (W.heap.size + 6) .fresh W2 := made_fresh had hx X2
    have G2 : Grew W W2 := X2.grew
    try walk_nrm
    obtain ⟨R1, Dq1, Ok1, St1, C1, N1, M1, hl1, hg1, hiff1, hR1, hC1⟩ := Can.open (Post := PostT W) (n := 1) O F2
    refine (hiff1 _ _).2 ?_
    have T1 := M1.T
    refine Ev.still T1 rfl rfl (by decide) (fun w₁ h₁ K' hK' => ?_)
    go_simp
    refine hK' _ (T1.read _ _ (fun e he => by have hm := mem_listed he; simp [go_sem] at hm)) ?_
    clear hK' K' h₁ w₁
    try walk_nrm
    refine Ev.still T1 rfl rfl (by decide) (fun w₁ h₁ K' hK' => ?_)
    go_simp
    refine hK' _ (T1.read _ _ (fun e he => by have hm := mem_listed he; simp [go_sem] at hm)) ?_
    clear hK' K' h₁ w₁
    try walk_nrm
    refine Ev.still T1 rfl rfl (by decide) (fun w₁ h₁ K' hK' => ?_)
    go_simp
    refine hK' _ (T1.read _ _ (fun e he => by have hm := mem_listed he; simp [go_sem] at hm)) ?_
    clear hK' K' h₁ w₁
    try walk_nrm
    refine Ev.still T1 rfl rfl (by decide) (fun w₁ h₁ K' hK' => ?_)
    go_simp
    refine hK' _ (T1.read _ _ (fun e he => by have hm := mem_listed he; simp [go_sem] at hm)) ?_
    clear hK' K' h₁ w₁
    try walk_nrm
    refine Ev.still T1 rfl rfl (by decide) (fun w₁ h₁ K' hK' => ?_)
    go_simp
    refine hK' _ (T1.read _ _ (fun e he => by have hm := mem_listed he; simp [go_sem] at hm)) ?_
    clear hK' K' h₁ w₁
    try walk_nrm
    refine Ev.regionEnd T1 ?_
    refine Ev.seq T1 ?_
    refine Ev.seq T1 ?_
    refine Ev.region T1 ?_
    simp only [List.size_toArray, List.length_cons, List.length_nil, Nat.reduceAdd, Nat.zero_add, List.range, List.range.loop]
    refine Ev.still T1 rfl rfl (by decide) (fun w₁ h₁ K' hK' => ?_)
    go_simp
    refine hK' _ (T1.read _ _ (fun e he => by have hm := mem_listed he; simp [go_sem] at hm)) ?_
    clear hK' K' h₁ w₁
    try walk_nrm
    refine Ev.still T1 rfl rfl (by decide) (fun w₁ h₁ K' hK' => ?_)
    go_simp
    refine hK' _ (T1.read _ _ (fun e he => by have hm := mem_listed he; simp [go_sem, ev_ptr] at hm)) ?_
    clear hK' K' h₁ w₁
    try walk_nrm
    refine Ev.regionEnd T1 ?_
    refine Ev.cond T1 false rfl ?_
    simp only [if_true, if_false, Bool.false_eq_true, ↓reduceIte]
    refine Ev.skip T1 ?_
    refine Ev.seq T1 ?_
    refine Ev.region T1 ?_
    simp only [List.size_toArray, List.length_cons, List.length_nil, Nat.reduceAdd, Nat.zero_add, List.range, List.range.loop]
    refine Ev.still T1 rfl rfl (by decide) (fun w₁ h₁ K' hK' => ?_)
    go_simp
    refine hK' _ (T1.read _ _ (fun e he => by have hm := mem_listed he; simp [go_sem] at hm)) ?_
    clear hK' K' h₁ w₁
    try walk_nrm
    refine Ev.still T1 rfl rfl (by decide) (fun w₁ h₁ K' hK' => ?_)
    go_simp
    refine hK' _ (T1.read _ _ (fun e he => by have hm := mem_listed he; simp [go_sem] at hm)) ?_
    clear hK' K' h₁ w₁
    try walk_nrm
    refine Ev.call T1 (f := 16) (fn := Try.f16) rfl rfl (by decide) rfl Try.func16 (by decide) f16_body ?_
    simp only [List.map_toArray, List.map_cons, List.map_nil]
    rw [args16]
    try walk_nrm
    refine (hiff1 _ _).1 ?_
    refine slice_row O hlen W2 most F2 (fun m w v bs k O hm F3 M3 hb1 hb2 hown hk hkm => ?_) (fun w v bs O F3 M3 hb1 hb2 hown hlt => ?_)
    · -- as many as were asked for
      have hk1 : (k : Int) ≤ max most 0 := by omega
      have hk2 : max most 0 ≤ (k : Int) := by omega
      clear hkm
      have G3 := G2.moved (Nat.le_refl _) M3
      obtain ⟨vp, vc, rfl⟩ : ∃ vp vc, v = .slice vp k vc := by
        rcases hown.2 with ⟨h, h0⟩ | ⟨g, cp, cur, h, _⟩
        · rw [h0]; exact ⟨_, _, h⟩
        · exact ⟨_, _, h⟩
      have hk9 : ((k : Nat) : Int) ≤ 1000 := by omega
      have hkc : ((k : Nat) : Int) ≤ (cap : Int) := by omega
      have hgo : ∃ xg : Addr, (0 < k → vp = some xg) ∧ ¬ (rowK W.heap.size room sp ad len cap L 9).Z xg.block ∧ ∀ i, i < k → w.cell? (xg.add i) = some (.int .i64 (L i)) ∧ xg.block < w.heap.size ∧ W.heap.size + 6 ≤ xg.block := by
        rcases hown.2 with ⟨h, h0⟩ | ⟨g, cp, cur, h, _⟩
        · exact ⟨⟨0, 0, none⟩, fun hp => by omega, fun h => h, fun i hi => by omega⟩
        · cases h
          have hg := hown.lt g rfl
          refine ⟨⟨g, 0, none⟩, fun _ => rfl, fun h => h, fun i hi => ⟨hown.cells (g := g) rfl i _ ?_, hg.2, by show W.heap.size + 6 ≤ g; omega⟩⟩
          simp [vals, hi]
      obtain ⟨xg, hxg, hzg, hcg⟩ := hgo
      have hci : ∀ i, i < k → w.cell? (ad.add i) = some (.int .i64 (L i)) := fun i hi => (cell_of_block (G3.block _ (by rw [add_block]; exact had (by omega)))).trans (hx i (by omega))
      obtain ⟨R2, Dq2, Ok2, St2, C2, N2, M2, hl2, hg2, hiff2, hR2, hC2⟩ := Can.open (Post := PostT W) (n := 1) O F3
      refine (hiff2 _ _).2 ?_
      have T2 := M2.T
      refine Ev.still T2 rfl rfl (by decide) (fun w₁ h₁ K' hK' => ?_)
      go_simp
      refine hK' _ (T2.read _ _ (fun e he => by have hm := mem_listed he; simp [go_sem] at hm)) ?_
      clear hK' K' h₁ w₁
      try walk_nrm
      refine Ev.regionEnd T2 ?_
      refine Ev.seq T2 ?_
      refine Ev.region T2 ?_
      simp only [List.size_toArray, List.length_cons, List.length_nil, Nat.reduceAdd, Nat.zero_add, List.range, List.range.loop]
      refine Ev.still T2 rfl rfl (by decide) (fun w₁ h₁ K' hK' => ?_)
      go_simp
      refine hK' _ (T2.read _ _ (fun e he => by have hm := mem_listed he; simp [go_sem] at hm)) ?_
      clear hK' K' h₁ w₁
      try walk_nrm
      refine Ev.still T2 rfl rfl (by decide) (fun w₁ h₁ K' hK' => ?_)
      go_simp
      refine hK' _ (T2.read _ _ (fun e he => by have hm := mem_listed he; simp [go_sem, max_evs] at hm)) ?_
      clear hK' K' h₁ w₁
      try walk_nrm
      rw [show (if most < 0 then (0 : Int) else most) = ((k : Nat) : Int) by split <;> omega]
      refine Ev.still T2 rfl rfl (by decide) (fun w₁ h₁ K' hK' => ?_)
      go_simp
      refine hK' _ (T2.read _ _ (fun e he => by have hm := mem_listed he; simp [go_sem] at hm)) ?_
      clear hK' K' h₁ w₁
      try walk_nrm
      refine Ev.still T2 rfl rfl (by decide) (fun w₁ h₁ K' hK' => ?_)
      go_simp
      refine hK' _ (T2.read _ _ (fun e he => by have hm := mem_listed he; simp [go_sem] at hm)) ?_
      clear hK' K' h₁ w₁
      try walk_nrm
      refine Ev.still T2 rfl rfl (by decide) (fun w₁ h₁ K' hK' => ?_)
      go_simp
      refine hK' _ (T2.read _ _ (fun e he => by have hm := mem_listed he; simp [go_sem, min_evs] at hm)) ?_
      clear hK' K' h₁ w₁
      try walk_nrm
      try rw [show (if len < k then (len : Int) else ((k : Nat) : Int)) = ((k : Nat) : Int) by split <;> omega]
      refine Ev.still T2 rfl rfl (by decide) (fun w₁ h₁ K' hK' => ?_)
      go_simp
      refine hK' _ (T2.read _ _ (fun e he => by have hm := mem_listed he; simp [go_sem] at hm)) ?_
      clear hK' K' h₁ w₁
      try walk_nrm
      refine Ev.regionEnd T2 ?_
      refine Ev.seq T2 ?_
      refine Ev.seq T2 ?_
      refine Ev.region T2 ?_
      simp only [List.size_toArray, List.length_cons, List.length_nil, Nat.reduceAdd, Nat.zero_add, List.range, List.range.loop]
      refine Ev.still T2 rfl rfl (by decide) (fun w₁ h₁ K' hK' => ?_)
      go_simp
      refine hK' _ (T2.read _ _ (fun e he => by have hm := mem_listed he; simp [go_sem] at hm)) ?_
      clear hK' K' h₁ w₁
      try walk_nrm
      refine Ev.still T2 rfl rfl (by decide) (fun w₁ h₁ K' hK' => ?_)
      go_simp
      refine hK' _ (T2.read _ _ (fun e he => by have hm := mem_listed he; simp [go_sem] at hm)) ?_
      clear hK' K' h₁ w₁
      try walk_nrm
      refine Ev.still T2 rfl rfl (by decide) (fun w₁ h₁ K' hK' => ?_)
      go_simp
      refine hK' _ (T2.read _ _ (fun e he => by have hm := mem_listed he; simp [go_sem] at hm)) ?_
      clear hK' K' h₁ w₁
      try walk_nrm
      refine Ev.still T2 rfl rfl (by decide) (fun w₁ h₁ K' hK' => ?_)
      have hsl := cut_fact sp len cap k hlc (by omega) w₁
      have hse := cut_evs sp len cap k hlc (by omega) hcap w₁
      go_simp
      refine hK' _ (T2.read _ _ (fun e he => by have hm := mem_listed he; simp [go_sem, hse] at hm)) ?_
      clear hK' K' hsl hse h₁ w₁
      try walk_nrm
      refine Ev.call T2 (f := 17) (fn := Try.f17) rfl rfl (by decide) rfl Try.func17 (by decide) f17_body ?_
      simp only [List.map_toArray, List.map_cons, List.map_nil]
      rw [args17]
      try walk_nrm
      refine ints_ev M2 (xa := xg) (xb := ad) (z := L) (by omega) hxg (fun h => hsp (by omega)) hzg (fun h => h) (fun w₁ r i hi => ?_) (fun w3 r3 => ?_)
      · have r1 := M2.rm _ _ r
        have hb := hcg i hi
        have hbx : ad.block < W.heap.size := had (by omega)
        refine ⟨(cell_of_block (r1.block _ ?_ ?_ (fun h => h))).trans hb.1, (cell_of_block (r1.block _ ?_ ?_ (fun h => h))).trans (hci i hi)⟩ <;> simp only [rowK, add_block] <;> omega
      try walk_nrm
      have F4 := hR2 _ _ r3 F3
      have G4 : Grew W w3 := G3.moved (Nat.le_refl _) ((M2.rm _ _ r3).later.moved (K := (rowK W.heap.size room sp ad len cap L 9)))
      refine Ev.still T2 rfl rfl (by decide) (fun w₁ h₁ K' hK' => ?_)
      go_simp
      refine hK' _ (T2.read _ _ (fun e he => by have hm := mem_listed he; simp [go_sem] at hm)) ?_
      clear hK' K' h₁ w₁
      try walk_nrm
      refine Ev.regionEnd T2 ?_
      refine Ev.cond T2 false rfl ?_
      simp only [if_true, if_false, Bool.false_eq_true, ↓reduceIte]
      refine Ev.skip T2 ?_
      refine Ev.seq T2 ?_
      refine Ev.seq T2 ?_
      refine Ev.region T2 ?_
      simp only [List.size_toArray, List.length_cons, List.length_nil, Nat.reduceAdd, Nat.zero_add, List.range, List.range.loop]
      refine Ev.still T2 rfl rfl (by decide) (fun w₁ h₁ K' hK' => ?_)
      go_simp
      refine hK' _ (T2.read _ _ (fun e he => by have hm := mem_listed he; simp [go_sem] at hm)) ?_
      clear hK' K' h₁ w₁
      try walk_nrm
      refine Ev.still T2 rfl rfl (by decide) (fun w₁ h₁ K' hK' => ?_)
      go_simp
      refine hK' _ (T2.read _ _ (fun e he => by have hm := mem_listed he; simp [go_sem] at hm)) ?_
      clear hK' K' h₁ w₁
      try walk_nrm
      refine Ev.still T2 rfl rfl (by decide) (fun w₁ h₁ K' hK' => ?_)
      go_simp
      refine hK' _ (T2.read _ _ (fun e he => by have hm := mem_listed he; simp [go_sem] at hm)) ?_
      clear hK' K' h₁ w₁
      try walk_nrm
      refine Ev.still T2 rfl rfl (by decide) (fun w₁ h₁ K' hK' => ?_)
      go_simp
      refine hK' _ (T2.read _ _ (fun e he => by have hm := mem_listed he; simp [go_sem] at hm)) ?_
      clear hK' K' h₁ w₁
      try walk_nrm
      refine Ev.regionEnd T2 ?_
      refine Ev.cond T2 true (by simp [Act.eval, show most ≤ (len : Int) by omega]) ?_
      simp only [if_true, if_false, Bool.false_eq_true, ↓reduceIte]
      refine Ev.seq T2 ?_
      refine Ev.region T2 ?_
      simp only [List.size_toArray, List.length_cons, List.length_nil, Nat.reduceAdd, Nat.zero_add, List.range, List.range.loop]
      refine Ev.still T2 rfl rfl (by decide) (fun w₁ h₁ K' hK' => ?_)
      go_simp
      refine hK' _ (T2.read _ _ (fun e he => by have hm := mem_listed he; simp [go_sem] at hm)) ?_
      clear hK' K' h₁ w₁
      try walk_nrm
      refine Ev.call T2 (f := 13) (fn := Try.f13) rfl rfl (by decide) rfl Try.func13 (by decide) f13_body ?_
      simp only [List.map_toArray, List.map_cons, List.map_nil]
      rw [args13]
      try walk_nrm
      refine (hiff2 _ _).1 ?_
      refine end_row O F4 hm ?_
      try walk_nrm
      obtain ⟨R3, Dq3, Ok3, St3, C3, N3, M3, hl3, hg3, hiff3, hR3, hC3⟩ := Can.open (Post := PostT W) (n := 1) O F4
      refine (hiff3 _ _).2 ?_
      have T3 := M3.T
      refine Ev.still T3 rfl rfl (by decide) (fun w₁ h₁ K' hK' => ?_)
      go_simp
      refine hK' _ (T3.read _ _ (fun e he => by have hm := mem_listed he; simp [go_sem] at hm)) ?_
      clear hK' K' h₁ w₁
      try walk_nrm
      refine Ev.still T3 rfl rfl (by decide) (fun w₁ h₁ K' hK' => ?_)
      go_simp
      refine hK' _ (T3.read _ _ (fun e he => by have hm := mem_listed he; simp [go_sem] at hm)) ?_
      clear hK' K' h₁ w₁
      try walk_nrm
      refine Ev.still T3 rfl rfl (by decide) (fun w₁ h₁ K' hK' => ?_)
      go_simp
      refine hK' _ (T3.read _ _ (fun e he => by have hm := mem_listed he; simp [go_sem] at hm)) ?_
      clear hK' K' h₁ w₁
      try walk_nrm
      refine Ev.still T3 rfl rfl (by decide) (fun w₁ h₁ K' hK' => ?_)
      go_simp
      refine hK' _ (T3.read _ _ (fun e he => by have hm := mem_listed he; simp [go_sem] at hm)) ?_
      clear hK' K' h₁ w₁
      try walk_nrm
      refine Ev.still T3 rfl rfl (by decide) (fun w₁ h₁ K' hK' => ?_)
      go_simp
      refine hK' _ (T3.read _ _ (fun e he => by have hm := mem_listed he; simp [go_sem] at hm)) ?_
      clear hK' K' h₁ w₁
      try walk_nrm
      refine Ev.regionEnd T3 ?_
      refine Ev.seq T3 ?_
      refine Ev.region T3 ?_
      simp only [List.size_toArray, List.length_cons, List.length_nil, Nat.reduceAdd, Nat.zero_add, List.range, List.range.loop]
      refine Ev.still T3 rfl rfl (by decide) (fun w₁ h₁ K' hK' => ?_)
      go_simp
      refine hK' _ (T3.read _ _ (fun e he => by have hm := mem_listed he; simp [go_sem] at hm)) ?_
      clear hK' K' h₁ w₁
      try walk_nrm
      refine Ev.still T3 rfl rfl (by decide) (fun w₁ h₁ K' hK' => ?_)
      go_simp
      refine hK' _ (T3.read _ _ (fun e he => by have hm := mem_listed he; simp [go_sem] at hm)) ?_
      clear hK' K' h₁ w₁
      try walk_nrm
      refine Ev.still T3 rfl rfl (by decide) (fun w₁ h₁ K' hK' => ?_)
      go_simp
      refine hK' _ (T3.read _ _ (fun e he => by have hm := mem_listed he; simp [go_sem] at hm)) ?_
      clear hK' K' h₁ w₁
      try walk_nrm
      refine Ev.still T3 rfl rfl (by decide) (fun w₁ h₁ K' hK' => ?_)
      go_simp
      refine hK' _ (T3.read _ _ (fun e he => by have hm := mem_listed he; simp [go_sem] at hm)) ?_
      clear hK' K' h₁ w₁
      try walk_nrm
      refine Ev.call T3 (f := 12) (fn := Try.f12) rfl rfl (by decide) rfl Try.func12 (by decide) f12_body ?_
      simp only [List.map_toArray, List.map_cons, List.map_nil]
      rw [args12]
      try walk_nrm
      refine (hiff3 _ _).1 ?_
      refine stop_row O F4 hm (fun w5 x5 M5 F5 _ => ?_)
      have G5 := G4.moved (Nat.le_refl _) M5
      try walk_nrm
      obtain ⟨R4, Dq4, Ok4, St4, C4, N4, M4, hl4, hg4, hiff4, hR4, hC4⟩ := Can.open (Post := PostT W) (n := 1) O F5
      refine (hiff4 _ _).2 ?_
      have T4 := M4.T
      refine Ev.still T4 rfl rfl (by decide) (fun w₁ h₁ K' hK' => ?_)
      go_simp
      refine hK' _ (T4.read _ _ (fun e he => by have hm := mem_listed he; simp [go_sem] at hm)) ?_
      clear hK' K' h₁ w₁
      try walk_nrm
      refine Ev.still T4 rfl rfl (by decide) (fun w₁ h₁ K' hK' => ?_)
      go_simp
      refine hK' _ (T4.read _ _ (fun e he => by have hm := mem_listed he; simp [go_sem] at hm)) ?_
      clear hK' K' h₁ w₁
      try walk_nrm
      refine Ev.still T4 rfl rfl (by decide) (fun w₁ h₁ K' hK' => ?_)
      go_simp
      refine hK' _ (T4.read _ _ (fun e he => by have hm := mem_listed he; simp [go_sem] at hm)) ?_
      clear hK' K' h₁ w₁
      try walk_nrm
      refine Ev.still T4 rfl rfl (by decide) (fun w₁ h₁ K' hK' => ?_)
      go_simp
      refine hK' _ (T4.read _ _ (fun e he => by have hm := mem_listed he; simp [go_sem] at hm)) ?_
      clear hK' K' h₁ w₁
      try walk_nrm
      refine Ev.call T4 (f := 12) (fn := Try.f12) rfl rfl (by decide) rfl Try.func12 (by decide) f12_body ?_
      simp only [List.map_toArray, List.map_cons, List.map_nil]
      rw [args12]
      try walk_nrm
      refine (hiff4 _ _).1 ?_
      refine stop_o F5 ?_
      try walk_nrm
      obtain ⟨R5, Dq5, Ok5, St5, C5, N5, M5, hl5, hg5, hiff5, hR5, hC5⟩ := Can.open (Post := PostT W) (n := 1) O F5
      refine (hiff5 _ _).2 ?_
      have T5 := M5.T
      refine Ev.still T5 rfl rfl (by decide) (fun w₁ h₁ K' hK' => ?_)
      go_simp
      refine hK' _ (T5.read _ _ (fun e he => by have hm := mem_listed he; simp [go_sem] at hm)) ?_
      clear hK' K' h₁ w₁
      try walk_nrm
      refine Ev.still T5 rfl rfl (by decide) (fun w₁ h₁ K' hK' => ?_)
      go_simp
      refine hK' _ (T5.read _ _ (fun e he => by have hm := mem_listed he; simp [go_sem] at hm)) ?_
      clear hK' K' h₁ w₁
      try walk_nrm
      refine Ev.still T5 rfl rfl (by decide) (fun w₁ h₁ K' hK' => ?_)
      go_simp
      refine hK' _ (T5.read _ _ (fun e he => by have hm := mem_listed he; simp [go_sem] at hm)) ?_
      clear hK' K' h₁ w₁
      try walk_nrm
      refine (hiff5 _ _).1 ?_
      show Ev Try.prog true AtRel D1 (StopL (PostT W) 1) _ _
      have T6 := quiet1
      refine Ev.call T6 (f := 7) (fn := Try.f7) rfl rfl (by decide) rfl Try.func7 (by decide) f7_body ?_
      simp only [List.map_toArray, List.map_cons, List.map_nil]
      rw [args7]
      try walk_nrm
      refine live_c (n := 0) (fun W' G' => ?_)
      have G6 := G5.trans G'
      try walk_nrm
      refine Ev.still T6 rfl rfl (by decide) (fun w₁ h₁ K' hK' => ?_)
      go_simp
      refine hK' _ (T6.read _ _ (fun e he => by have hm := mem_listed he; simp [go_sem] at hm)) ?_
      clear hK' K' h₁ w₁
      try walk_nrm
      refine Ev.still T6 rfl rfl (by decide) (fun w₁ h₁ K' hK' => ?_)
      go_simp
      refine hK' _ (T6.read _ _ (fun e he => by have hm := mem_listed he; simp [go_sem] at hm)) ?_
      clear hK' K' h₁ w₁
      try walk_nrm
      refine Ev.regionEnd T6 ?_
      refine Ev.ret T6 ?_
      refine .stop fun w₂ r₂ => fun d' => ?_
      obtain ⟨d₂, rfl⟩ := r₂
      refine ⟨rfl, .bool true, #[], ?_, by simp, rfl, Below.of_at (Below.of_at (Grew.below G6) d₂) d'⟩
      simp [G, stepG, unwind, doReturn, results, Frame.at, base, Try.func5, Try.f5, seen, GStep.after]
    · -- all
      have G3 := G2.moved (Nat.le_refl _) M3
      obtain ⟨vp, vc, rfl⟩ : ∃ vp vc, v = .slice vp len vc := by
        rcases hown.2 with ⟨h, h0⟩ | ⟨g, cp, cur, h, _⟩
        · rw [h0]; exact ⟨_, _, h⟩
        · exact ⟨_, _, h⟩
      have hk9 : ((len : Nat) : Int) ≤ 1000 := by omega
      have hkc : ((len : Nat) : Int) ≤ (cap : Int) := by omega
      have hgo : ∃ xg : Addr, (0 < len → vp = some xg) ∧ ¬ (rowK W.heap.size room sp ad len cap L 9).Z xg.block ∧ ∀ i, i < len → w.cell? (xg.add i) = some (.int .i64 (L i)) ∧ xg.block < w.heap.size ∧ W.heap.size + 6 ≤ xg.block := by
        rcases hown.2 with ⟨h, h0⟩ | ⟨g, cp, cur, h, _⟩
        · exact ⟨⟨0, 0, none⟩, fun hp => by omega, fun h => h, fun i hi => by omega⟩
        · cases h
          have hg := hown.lt g rfl
          refine ⟨⟨g, 0, none⟩, fun _ => rfl, fun h => h, fun i hi => ⟨hown.cells (g := g) rfl i _ ?_, hg.2, by show W.heap.size + 6 ≤ g; omega⟩⟩
          simp [vals, hi]
      obtain ⟨xg, hxg, hzg, hcg⟩ := hgo
      have hci : ∀ i, i < len → w.cell? (ad.add i) = some (.int .i64 (L i)) := fun i hi => (cell_of_block (G3.block _ (by rw [add_block]; exact had (by omega)))).trans (hx i (by omega))
      obtain ⟨R2, Dq2, Ok2, St2, C2, N2, M2, hl2, hg2, hiff2, hR2, hC2⟩ := Can.open (Post := PostT W) (n := 1) O F3
      refine (hiff2 _ _).2 ?_
      have T2 := M2.T
      refine Ev.still T2 rfl rfl (by decide) (fun w₁ h₁ K' hK' => ?_)
      go_simp
      refine hK' _ (T2.read _ _ (fun e he => by have hm := mem_listed he; simp [go_sem] at hm)) ?_
      clear hK' K' h₁ w₁
      try walk_nrm
      refine Ev.regionEnd T2 ?_
      refine Ev.seq T2 ?_
      refine Ev.region T2 ?_
      simp only [List.size_toArray, List.length_cons, List.length_nil, Nat.reduceAdd, Nat.zero_add, List.range, List.range.loop]
      refine Ev.still T2 rfl rfl (by decide) (fun w₁ h₁ K' hK' => ?_)
      go_simp
      refine hK' _ (T2.read _ _ (fun e he => by have hm := mem_listed he; simp [go_sem] at hm)) ?_
      clear hK' K' h₁ w₁
      try walk_nrm
      refine Ev.still T2 rfl rfl (by decide) (fun w₁ h₁ K' hK' => ?_)
      go_simp
      refine hK' _ (T2.read _ _ (fun e he => by have hm := mem_listed he; simp [go_sem, max_evs] at hm)) ?_
      clear hK' K' h₁ w₁
      try walk_nrm
      rw [show (if most < 0 then (0 : Int) else most) = most by split <;> omega]
      refine Ev.still T2 rfl rfl (by decide) (fun w₁ h₁ K' hK' => ?_)
      go_simp
      refine hK' _ (T2.read _ _ (fun e he => by have hm := mem_listed he; simp [go_sem] at hm)) ?_
      clear hK' K' h₁ w₁
      try walk_nrm
      refine Ev.still T2 rfl rfl (by decide) (fun w₁ h₁ K' hK' => ?_)
      go_simp
      refine hK' _ (T2.read _ _ (fun e he => by have hm := mem_listed he; simp [go_sem] at hm)) ?_
      clear hK' K' h₁ w₁
      try walk_nrm
      refine Ev.still T2 rfl rfl (by decide) (fun w₁ h₁ K' hK' => ?_)
      go_simp
      refine hK' _ (T2.read _ _ (fun e he => by have hm := mem_listed he; simp [go_sem, min_evs] at hm)) ?_
      clear hK' K' h₁ w₁
      try walk_nrm
      try rw [show (if (len : Int) < most then (len : Int) else most) = ((len : Nat) : Int) by split <;> omega]
      refine Ev.still T2 rfl rfl (by decide) (fun w₁ h₁ K' hK' => ?_)
      go_simp
      refine hK' _ (T2.read _ _ (fun e he => by have hm := mem_listed he; simp [go_sem] at hm)) ?_
      clear hK' K' h₁ w₁
      try walk_nrm
      refine Ev.regionEnd T2 ?_
      refine Ev.seq T2 ?_
      refine Ev.seq T2 ?_
      refine Ev.region T2 ?_
      simp only [List.size_toArray, List.length_cons, List.length_nil, Nat.reduceAdd, Nat.zero_add, List.range, List.range.loop]
      refine Ev.still T2 rfl rfl (by decide) (fun w₁ h₁ K' hK' => ?_)
      go_simp
      refine hK' _ (T2.read _ _ (fun e he => by have hm := mem_listed he; simp [go_sem] at hm)) ?_
      clear hK' K' h₁ w₁
      try walk_nrm
      refine Ev.still T2 rfl rfl (by decide) (fun w₁ h₁ K' hK' => ?_)
      go_simp
      refine hK' _ (T2.read _ _ (fun e he => by have hm := mem_listed he; simp [go_sem] at hm)) ?_
      clear hK' K' h₁ w₁
      try walk_nrm
      refine Ev.still T2 rfl rfl (by decide) (fun w₁ h₁ K' hK' => ?_)
      go_simp
      refine hK' _ (T2.read _ _ (fun e he => by have hm := mem_listed he; simp [go_sem] at hm)) ?_
      clear hK' K' h₁ w₁
      try walk_nrm
      refine Ev.still T2 rfl rfl (by decide) (fun w₁ h₁ K' hK' => ?_)
      have hsl := cut_fact sp len cap len hlc (by omega) w₁
      have hse := cut_evs sp len cap len hlc (by omega) hcap w₁
      go_simp
      refine hK' _ (T2.read _ _ (fun e he => by have hm := mem_listed he; simp [go_sem, hse] at hm)) ?_
      clear hK' K' hsl hse h₁ w₁
      try walk_nrm
      refine Ev.call T2 (f := 17) (fn := Try.f17) rfl rfl (by decide) rfl Try.func17 (by decide) f17_body ?_
      simp only [List.map_toArray, List.map_cons, List.map_nil]
      rw [args17]
      try walk_nrm
      refine ints_ev M2 (xa := xg) (xb := ad) (z := L) (by omega) hxg (fun h => hsp (by omega)) hzg (fun h => h) (fun w₁ r i hi => ?_) (fun w3 r3 => ?_)
      · have r1 := M2.rm _ _ r
        have hb := hcg i hi
        have hbx : ad.block < W.heap.size := had (by omega)
        refine ⟨(cell_of_block (r1.block _ ?_ ?_ (fun h => h))).trans hb.1, (cell_of_block (r1.block _ ?_ ?_ (fun h => h))).trans (hci i hi)⟩ <;> simp only [rowK, add_block] <;> omega
      try walk_nrm
      have F4 := hR2 _ _ r3 F3
      have G4 : Grew W w3 := G3.moved (Nat.le_refl _) ((M2.rm _ _ r3).later.moved (K := (rowK W.heap.size room sp ad len cap L 9)))
      refine Ev.still T2 rfl rfl (by decide) (fun w₁ h₁ K' hK' => ?_)
      go_simp
      refine hK' _ (T2.read _ _ (fun e he => by have hm := mem_listed he; simp [go_sem] at hm)) ?_
      clear hK' K' h₁ w₁
      try walk_nrm
      refine Ev.regionEnd T2 ?_
      refine Ev.cond T2 false rfl ?_
      simp only [if_true, if_false, Bool.false_eq_true, ↓reduceIte]
      refine Ev.skip T2 ?_
      refine Ev.seq T2 ?_
      refine Ev.seq T2 ?_
      refine Ev.region T2 ?_
      simp only [List.size_toArray, List.length_cons, List.length_nil, Nat.reduceAdd, Nat.zero_add, List.range, List.range.loop]
      refine Ev.still T2 rfl rfl (by decide) (fun w₁ h₁ K' hK' => ?_)
      go_simp
      refine hK' _ (T2.read _ _ (fun e he => by have hm := mem_listed he; simp [go_sem] at hm)) ?_
      clear hK' K' h₁ w₁
      try walk_nrm
      refine Ev.still T2 rfl rfl (by decide) (fun w₁ h₁ K' hK' => ?_)
      go_simp
      refine hK' _ (T2.read _ _ (fun e he => by have hm := mem_listed he; simp [go_sem] at hm)) ?_
      clear hK' K' h₁ w₁
      try walk_nrm
      refine Ev.still T2 rfl rfl (by decide) (fun w₁ h₁ K' hK' => ?_)
      go_simp
      refine hK' _ (T2.read _ _ (fun e he => by have hm := mem_listed he; simp [go_sem] at hm)) ?_
      clear hK' K' h₁ w₁
      try walk_nrm
      refine Ev.still T2 rfl rfl (by decide) (fun w₁ h₁ K' hK' => ?_)
      go_simp
      refine hK' _ (T2.read _ _ (fun e he => by have hm := mem_listed he; simp [go_sem] at hm)) ?_
      clear hK' K' h₁ w₁
      try walk_nrm
      refine Ev.regionEnd T2 ?_
      refine Ev.cond T2 false (by simp [Act.eval, show ¬ (most ≤ (len : Int)) by omega]) ?_
      simp only [if_true, if_false, Bool.false_eq_true, ↓reduceIte]
      refine Ev.skip T2 ?_
      refine Ev.seq T2 ?_
      refine Ev.region T2 ?_
      simp only [List.size_toArray, List.length_cons, List.length_nil, Nat.reduceAdd, Nat.zero_add, List.range, List.range.loop]
      refine Ev.still T2 rfl rfl (by decide) (fun w₁ h₁ K' hK' => ?_)
      go_simp
      refine hK' _ (T2.read _ _ (fun e he => by have hm := mem_listed he; simp [go_sem] at hm)) ?_
      clear hK' K' h₁ w₁
      try walk_nrm
      refine Ev.call T2 (f := 13) (fn := Try.f13) rfl rfl (by decide) rfl Try.func13 (by decide) f13_body ?_
      simp only [List.map_toArray, List.map_cons, List.map_nil]
      rw [args13]
      try walk_nrm
      refine (hiff2 _ _).1 ?_
      refine end_o F4 ?_
      try walk_nrm
      obtain ⟨R3, Dq3, Ok3, St3, C3, N3, M3, hl3, hg3, hiff3, hR3, hC3⟩ := Can.open (Post := PostT W) (n := 1) O F4
      refine (hiff3 _ _).2 ?_
      have T3 := M3.T
      refine Ev.still T3 rfl rfl (by decide) (fun w₁ h₁ K' hK' => ?_)
      go_simp
      refine hK' _ (T3.read _ _ (fun e he => by have hm := mem_listed he; simp [go_sem] at hm)) ?_
      clear hK' K' h₁ w₁
      try walk_nrm
      refine Ev.still T3 rfl rfl (by decide) (fun w₁ h₁ K' hK' => ?_)
      go_simp
      refine hK' _ (T3.read _ _ (fun e he => by have hm := mem_listed he; simp [go_sem] at hm)) ?_
      clear hK' K' h₁ w₁
      try walk_nrm
      refine Ev.still T3 rfl rfl (by decide) (fun w₁ h₁ K' hK' => ?_)
      go_simp
      refine hK' _ (T3.read _ _ (fun e he => by have hm := mem_listed he; simp [go_sem] at hm)) ?_
      clear hK' K' h₁ w₁
      try walk_nrm
      refine Ev.still T3 rfl rfl (by decide) (fun w₁ h₁ K' hK' => ?_)
      go_simp
      refine hK' _ (T3.read _ _ (fun e he => by have hm := mem_listed he; simp [go_sem] at hm)) ?_
      clear hK' K' h₁ w₁
      try walk_nrm
      refine Ev.still T3 rfl rfl (by decide) (fun w₁ h₁ K' hK' => ?_)
      go_simp
      refine hK' _ (T3.read _ _ (fun e he => by have hm := mem_listed he; simp [go_sem] at hm)) ?_
      clear hK' K' h₁ w₁
      try walk_nrm
      refine Ev.regionEnd T3 ?_
      refine Ev.seq T3 ?_
      refine Ev.region T3 ?_
      simp only [List.size_toArray, List.length_cons, List.length_nil, Nat.reduceAdd, Nat.zero_add, List.range, List.range.loop]
      refine Ev.still T3 rfl rfl (by decide) (fun w₁ h₁ K' hK' => ?_)
      go_simp
      refine hK' _ (T3.read _ _ (fun e he => by have hm := mem_listed he; simp [go_sem] at hm)) ?_
      clear hK' K' h₁ w₁
      try walk_nrm
      refine Ev.still T3 rfl rfl (by decide) (fun w₁ h₁ K' hK' => ?_)
      go_simp
      refine hK' _ (T3.read _ _ (fun e he => by have hm := mem_listed he; simp [go_sem] at hm)) ?_
      clear hK' K' h₁ w₁
      try walk_nrm
      refine Ev.still T3 rfl rfl (by decide) (fun w₁ h₁ K' hK' => ?_)
      go_simp
      refine hK' _ (T3.read _ _ (fun e he => by have hm := mem_listed he; simp [go_sem] at hm)) ?_
      clear hK' K' h₁ w₁
      try walk_nrm
      refine Ev.still T3 rfl rfl (by decide) (fun w₁ h₁ K' hK' => ?_)
      go_simp
      refine hK' _ (T3.read _ _ (fun e he => by have hm := mem_listed he; simp [go_sem] at hm)) ?_
      clear hK' K' h₁ w₁
      try walk_nrm
      refine Ev.still T3 rfl rfl (by decide) (fun w₁ h₁ K' hK' => ?_)
      go_simp
      refine hK' _ (T3.read _ _ (fun e he => by have hm := mem_listed he; simp [go_sem] at hm)) ?_
      clear hK' K' h₁ w₁
      try walk_nrm
      refine Ev.still T3 rfl rfl (by decide) (fun w₁ h₁ K' hK' => ?_)
      go_simp
      refine hK' _ (T3.read _ _ (fun e he => by have hm := mem_listed he; simp [go_sem] at hm)) ?_
      clear hK' K' h₁ w₁
      try walk_nrm
      refine Ev.still T3 rfl rfl (by decide) (fun w₁ h₁ K' hK' => ?_)
      go_simp
      refine hK' _ (T3.read _ _ (fun e he => by have hm := mem_listed he; simp [go_sem] at hm)) ?_
      clear hK' K' h₁ w₁
      try walk_nrm
      refine Ev.call T3 (f := 12) (fn := Try.f12) rfl rfl (by decide) rfl Try.func12 (by decide) f12_body ?_
      simp only [List.map_toArray, List.map_cons, List.map_nil]
      rw [args12]
      try walk_nrm
      refine (hiff3 _ _).1 ?_
      refine stop_o F4 ?_
      try walk_nrm
      obtain ⟨R5, Dq5, Ok5, St5, C5, N5, M5, hl5, hg5, hiff5, hR5, hC5⟩ := Can.open (Post := PostT W) (n := 1) O F4
      refine (hiff5 _ _).2 ?_
      have T5 := M5.T
      refine Ev.still T5 rfl rfl (by decide) (fun w₁ h₁ K' hK' => ?_)
      go_simp
      refine hK' _ (T5.read _ _ (fun e he => by have hm := mem_listed he; simp [go_sem] at hm)) ?_
      clear hK' K' h₁ w₁
      try walk_nrm
      refine Ev.still T5 rfl rfl (by decide) (fun w₁ h₁ K' hK' => ?_)
      go_simp
      refine hK' _ (T5.read _ _ (fun e he => by have hm := mem_listed he; simp [go_sem] at hm)) ?_
      clear hK' K' h₁ w₁
      try walk_nrm
      refine Ev.still T5 rfl rfl (by decide) (fun w₁ h₁ K' hK' => ?_)
      go_simp
      refine hK' _ (T5.read _ _ (fun e he => by have hm := mem_listed he; simp [go_sem] at hm)) ?_
      clear hK' K' h₁ w₁
      try walk_nrm
      refine (hiff5 _ _).1 ?_
      show Ev Try.prog true AtRel D1 (StopL (PostT W) 1) _ _
      have T6 := quiet1
      refine Ev.call T6 (f := 7) (fn := Try.f7) rfl rfl (by decide) rfl Try.func7 (by decide) f7_body ?_
      simp only [List.map_toArray, List.map_cons, List.map_nil]
      rw [args7]
      try walk_nrm
      refine live_c (n := 0) (fun W' G' => ?_)
      have G6 := G4.trans G'
      try walk_nrm
      refine Ev.still T6 rfl rfl (by decide) (fun w₁ h₁ K' hK' => ?_)
      go_simp
      refine hK' _ (T6.read _ _ (fun e he => by have hm := mem_listed he; simp [go_sem] at hm)) ?_
      clear hK' K' h₁ w₁
      try walk_nrm
      refine Ev.still T6 rfl rfl (by decide) (fun w₁ h₁ K' hK' => ?_)
      go_simp
      refine hK' _ (T6.read _ _ (fun e he => by have hm := mem_listed he; simp [go_sem] at hm)) ?_
      clear hK' K' h₁ w₁
      try walk_nrm
      refine Ev.regionEnd T6 ?_
      refine Ev.ret T6 ?_
      refine .stop fun w₂ r₂ => fun d' => ?_
      obtain ⟨d₂, rfl⟩ := r₂
      refine ⟨rfl, .bool true, #[], ?_, by simp, rfl, Below.of_at (Below.of_at (Grew.below G6) d₂) d'⟩
      simp [G, stepG, unwind, doReturn, results, Frame.at, base, Try.func5, Try.f5, seen, GStep.after]
end Go.Proofs.Ytnbfmbkglkjhmaa
