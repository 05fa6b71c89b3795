import Derived.Test.YtnbfmbkglkjhmaaPmSa
import Derived.Test.YtnbfmbkglkjhmaaPmZg
set_option linter.unusedSimpArgs false
set_option linter.unusedVariables false
set_option linter.unusedSectionVars false
namespace Go.Proofs.Ytnbfmbkglkjhmaa
open Go.Conc Go.RowKit Go.Pmp
noncomputable def body4 : Code := Try.f4.body.getD .skip
theorem f4_body : Try.f4.body = some body4 := by simp only [body4, Try.f4, Option.getD_some]

theorem stopK_ok {B room n : Nat} (htr : n + 1 + room ≤ 1000) : (stopK B room n).Ok (B + 6) where
  h1 := by simp [stopK]
  h2 := by simp [stopK]
  h3 := by simp [stopK]
  hpi := by simp [stopK]
  hps := by simp [stopK]
  hpd := by simp [stopK]
  hpz h := by simp [stopK] at h <;> omega
  kp := ⟨by simp [stopK], by simp [stopK]⟩
  ki := ⟨by simp [stopK], by simp [stopK]⟩
  ks := ⟨by simp [stopK], by simp [stopK]⟩
  kd := ⟨by simp [stopK], by simp [stopK]⟩
  kz k h := by rcases h with rfl | rfl <;> exact ⟨by omega, by omega⟩
  kc vb a h := by
    rcases h with ⟨m, _, rfl⟩ | rfl
    · exact .inl ⟨by simp, by simp⟩
    · exact .inr rfl
  lt k h := h.2
  cz vb a hv h := by
    rcases h with (⟨m, _, rfl⟩ | rfl) | h
    · simp [stopK]
    · simp only [stopK]; omega
    · rcases h with h | h <;> simp only [stopK] <;> omega
  c5 vb m hv hm h := by
    rcases h with ⟨k, hk, h⟩ | h
    · simp [stopK] at h <;> omega
    · simp [stopK] at h <;> omega
  hE vb i st e w w' hv r h := ⟨h.1, h.2.1, (r.cell ⟨B, 0, none⟩ (.inr (.inl rfl))).trans h.2.2.1, (r.cell ⟨B + 1, 0, none⟩ (.inr (.inr rfl))).trans h.2.2.2⟩
  hEI i st v w h := ⟨8, h.1⟩
  htop := by simp [stopK]
  hbr w w' h hk := by
    obtain ⟨a1, a2, a3, a4, a5⟩ := h
    have kB := hk B ⟨by omega, by omega⟩
    have kB1 := hk (B + 1) ⟨by omega, by omega⟩
    have kB2 := hk (B + 2) ⟨by omega, by omega⟩
    exact ⟨(cell_of_block kB2).trans a1, (cell_of_block kB).trans a2, (froz_of_block kB).trans a3, (cell_of_block kB1).trans a4, (froz_of_block kB1).trans a5⟩
  born j w hj hN hp hb d d' := by
    obtain ⟨a1, a2, a3, a4, a5⟩ := hb
    have hs : B + 6 ≤ w.heap.size := hN
    have g := goW_pb' (pb := B + 2) d d' (by omega) hp
    have o := fun (a : Addr) (h1 : a.block < w.heap.size) (h2 : a.block ≠ B + 2) => (⟨cell_of_block (goW_block (B + 2) d d' w h1 h2), froz_of_block (goW_block (B + 2) d d' w h1 h2)⟩ : _ ∧ _)
    have v := goW_vb (B + 2) d d' w (by omega)
    have z := goW_c0 (B + 2) d d' w (by omega) (by omega)
    have hO : ((stopK B room n).env j w.heap.size).Ok := env_ok hj (by simp [stopK]) (by simp [stopK]) (by simp [stopK])
      (fun a h => by
        rcases h with (⟨m, _, rfl⟩ | rfl) | h
        · simp [stopK]
        · simp only [stopK]; omega
        · rcases h with h | h <;> simp only [stopK] <;> omega) (fun i st v w w' r h => ⟨h.1, h.2.1, (r.cell ⟨B, 0, none⟩ (.inr (.inl rfl))).trans h.2.2.1, (r.cell ⟨B + 1, 0, none⟩ (.inr (.inr rfl))).trans h.2.2.2⟩)
    have ol := o ⟨B, 0, none⟩ (by show B < _; omega) (by simp)
    have oe := o ⟨B + 1, 0, none⟩ (by show B + 1 < _; omega) (by simp)
    have hA : SAt B w.heap.size 0 0 ((goW (B + 2) (w.at d)).at d') := ⟨g.p, v.1, v.2, ol.1.trans a2, ol.2.trans a3, oe.1.trans a4, oe.2.trans a5⟩
    exact ⟨_, born15_ps hO hs htr _ (fun w₁ r => ⟨hA.rp r, (r.cell ⟨B + 2, 0, none⟩ (.inl (.inl ⟨0, by omega, rfl⟩))).trans (z.1.trans a1), (r.froz ⟨B + 2, 0, none⟩ (.inl (.inl ⟨0, by omega, rfl⟩))).trans (z.2.trans (hp.z 0 (by omega)))⟩)⟩
section
variable {B room n : Nat} (O : (stopK B room n).Ok (B + 6)) {Post : Value → World → Prop} {nn : Nat} {b : Frame} {a : Act} {ops : Array Oper} {ii : Nat} {rest : List Nat} {kk : List Item} {cs0 : List Frame} {w : World}
include O
theorem next_st {m : Mode} {k F : Nat} (h : WF (stopK B room n) (B + 6) m w) (hm : ModeAt 0 m k (F + 2)) (hk : k < n + 1)
    (h1 : ∀ m' w', ModeAt 0 m' (k + 1) F → Moved (stopK B room n) w w' → WF (stopK B room n) (B + 6) m' w' → Can (stopK B room n) Post nn m' (G (b.at (a.put ((ops[ii]?).bind (·.dst)) (.tuple #[.int .i64 k, .bool true])) (.inRegion ops rest :: kk)) cs0) w') :
    Can (stopK B room n) Post nn m (G (ent10 (B + 2)) (b.at a (.inRegion ops (ii :: rest) :: kk) :: cs0)) w := by
  rcases hm with ⟨rfl, rfl⟩ | ⟨j, vb, rfl⟩
  · exact next_fresh O h F (fun j w' M W hQ => h1 _ w' (.inr ⟨j, _, rfl⟩) M W) (fun w' x M W hE => absurd hE.2.1 (by simp))
  · exact next_beside O h hk (fun w' M W hQ => h1 _ w' (.inr ⟨j, vb, rfl⟩) M W) (fun w' x M W hE => absurd hE.2.1 (by simp))
theorem stop_st {m : Mode} {k F : Nat} (h : WF (stopK B room n) (B + 6) m w) (hm : ModeAt 0 m k (F + 2))
    (h2 : ∀ w' i, Moved (stopK B room n) w w' → WF (stopK B room n) (B + 6) (.over 8) w' → k ≤ i → i ≤ k + room → w'.cell? ⟨B, 0, none⟩ = some (.int .i64 (i : Nat)) → w'.cell? ⟨B + 1, 0, none⟩ = some (.int .i64 3) → Can (stopK B room n) Post nn (.over 8) (G (b.at (a.put ((ops[ii]?).bind (·.dst)) (.int .i64 0)) (.inRegion ops rest :: kk)) cs0) w') :
    Can (stopK B room n) Post nn m (G (ent12 (B + 2)) (b.at a (.inRegion ops (ii :: rest) :: kk) :: cs0)) w := by
  rcases hm with ⟨rfl, rfl⟩ | ⟨j, vb, rfl⟩
  · exact stop_fresh O h fun w' x i st M W hi hE => by
      obtain ⟨e1, e2, e3, e4⟩ := hE
      cases e1
      exact h2 w' i M W (Nat.zero_le _) (by have h0 : i ≤ room := hi; omega) e3 e4
  · exact stop_beside O h fun w' x i st M W h3 h4 hE => by
      obtain ⟨e1, e2, e3, e4⟩ := hE
      cases e1
      exact h2 w' i M W h3 h4 e3 e4
end
/-- What the pump moves lies behind w. -/
theorem Grew.movedS {room n : Nat} {w a b : World} (h : Grew w a) (m : Moved (stopK w.heap.size room n) a b) : Grew w b :=
  ⟨m.tape.trans h.tape, m.os.trans h.os, m.output.trans h.output, Nat.le_trans h.size m.size, fun k hk => (m.block k (Nat.lt_of_lt_of_le hk h.size) (by simp only [stopK]; omega) (by simp only [stopK]; omega) (by simp only [stopK]; omega) (by simp only [stopK]; omega) (fun h => by simp only [stopK] at h; omega)).trans (h.block k hk)⟩
noncomputable def loop4 : Code := match body4 with | .seq _ (.seq _ (.seq _ (.seq _ (.seq _ (.seq (.seq _ (.block _ (.loop c))) _))))) => c | c => c
noncomputable def after4 : Code := match body4 with | .seq _ (.seq _ (.seq _ (.seq _ (.seq _ (.seq _ y))))) => y | c => c
section
variable {W : World} {tk rm n room : Nat} (O : (stopK W.heap.size room n).Ok (W.heap.size + 6))
include O
set_option maxRecDepth 100000 in
set_option maxHeartbeats 8000000 in
theorem stops_end (hn : n ≤ 29) (hroom : room ≤ 9) (hrm : rm ≤ 255) (hr : rm % 10 = room) {m : Mode} {w : World} (hF : WF (stopK W.heap.size room n) (W.heap.size + 6) m w) (hG : Grew W w) (hm : ModeAt 0 m n 2) (j11 j12 j13 j14 j15 j16 j17 j18 j19 j20 j21 j22 j23 j24 j25 j26 j27 j28 j29 j30 j31 j32 j33 j34 j35 j36 j37 j38 j39 j40 j41 j42 j43 j44 j45 j46 j47 j48 j49 j50 j51 j52 j53 j54 j55 j56 j57 j58 j59 j60 j61 j62 j63 j64 j65 j66 j67 j68 j69 j70 j71 j72 j73 j74 j75 j76 j77 j78 j79 j80 j81 j82 j83 j84 j85 j86 j87 j88 j89 j90 j91 j92 j93 j94 : Value) : Can (stopK W.heap.size room n) (PostT W) 1 m (G ((base 4).at ⟨#[.int .u8 tk, .int .u8 rm, undef, undef, .bool false, .int .i64 n, .pointer (some ⟨W.heap.size, 0, none⟩), .pointer (some ⟨W.heap.size + 1, 0, none⟩), .pointer (some ⟨W.heap.size + 2, 0, none⟩), .int .i64 0, .int .i64 n, j11, j12, j13, j14, j15, j16, j17, j18, j19, j20, j21, j22, j23, j24, j25, j26, j27, j28, j29, j30, j31, j32, j33, j34, j35, j36, j37, j38, j39, j40, j41, j42, j43, j44, j45, j46, j47, j48, j49, j50, j51, j52, j53, j54, j55, j56, j57, j58, j59, j60, j61, j62, j63, j64, j65, j66, j67, j68, j69, j70, j71, j72, j73, j74, j75, j76, j77, j78, j79, j80, j81, j82, j83, j84, j85, j86, j87, j88, j89, j90, j91, j92, j93, j94], []⟩ [.code loop4, .inLoop loop4, .inBlock 0, .code after4]) []) w := by
  have hn9 : (n : Int) ≤ 29 := by omega
  obtain ⟨R0, Dq0, Ok0, St0, C0, N0, M0, hl0, hg0, hiff0, hR0, hC0⟩ := Can.open (Post := PostT W) (n := 1) O hF
  refine (hiff0 _ _).2 ?_
  have T0 := M0.T
  simp only [loop4, after4, body4, Try.f4, Option.getD_some]
  refine Ev.seq T0 ?_
  refine Ev.seq T0 ?_
  refine Ev.region T0 ?_
  simp only [List.size_toArray, List.length_cons, List.length_nil, Nat.reduceAdd, Nat.zero_add, List.range, List.range.loop]
  refine Ev.still T0 rfl rfl (by decide) (fun w₁ h₁ K' hK' => ?_)
  go_simp
  refine hK' _ (T0.read _ _ (fun e he => by have hm := mem_listed he; simp [go_sem] at hm)) ?_
  clear hK' K' h₁ w₁
  try walk_nrm
  refine Ev.still T0 rfl rfl (by decide) (fun w₁ h₁ K' hK' => ?_)
  go_simp
  refine hK' _ (T0.read _ _ (fun e he => by have hm := mem_listed he; simp [go_sem] at hm)) ?_
  clear hK' K' h₁ w₁
  try walk_nrm
  refine Ev.still T0 rfl rfl (by decide) (fun w₁ h₁ K' hK' => ?_)
  go_simp
  refine hK' _ (T0.read _ _ (fun e he => by have hm := mem_listed he; simp [go_sem] at hm)) ?_
  clear hK' K' h₁ w₁
  try walk_nrm
  refine Ev.regionEnd T0 ?_
  refine Ev.cond T0 false (by simp [Act.eval]) ?_
  simp only [if_true, if_false, Bool.false_eq_true, ↓reduceIte]
  refine Ev.exit T0 rfl ?_
  refine Ev.seq T0 ?_
  refine Ev.region T0 ?_
  simp only [List.size_toArray, List.length_cons, List.length_nil, Nat.reduceAdd, Nat.zero_add, List.range, List.range.loop]
  refine Ev.still T0 rfl rfl (by decide) (fun w₁ h₁ K' hK' => ?_)
  go_simp
  refine hK' _ (T0.read _ _ (fun e he => by have hm := mem_listed he; simp [go_sem] at hm)) ?_
  clear hK' K' h₁ w₁
  try walk_nrm
  refine Ev.call T0 (f := 12) (fn := Try.f12) rfl rfl (by decide) rfl Try.func12 (by decide) f12_body ?_
  simp only [List.map_toArray, List.map_cons, List.map_nil]
  rw [args12]
  try walk_nrm
  refine (hiff0 _ _).1 ?_
  refine stop_st O hF (F := 0) hm (fun w4 i M4 F4 hi1 hi2 hput href => ?_)
  have G4 := hG.movedS M4
  try walk_nrm
  obtain ⟨R1, Dq1, Ok1, St1, C1, N1, M1, hl1, hg1, hiff1, hR1, hC1⟩ := Can.open (Post := PostT W) (n := 1) O F4
  refine (hiff1 _ _).2 ?_
  have T1 := M1.T
  refine Ev.still T1 rfl rfl (by decide) (fun w₁ h₁ K' hK' => ?_)
  go_simp
  refine hK' _ (T1.read _ _ (fun e he => by have hm := mem_listed he; simp [go_sem] at hm)) ?_
  clear hK' K' h₁ w₁
  try walk_nrm
  refine Ev.regionEnd T1 ?_
  refine Ev.seq T1 ?_
  refine Ev.region T1 ?_
  simp only [List.size_toArray, List.length_cons, List.length_nil, Nat.reduceAdd, Nat.zero_add, List.range, List.range.loop]
  refine Ev.still T1 rfl rfl (by decide) (fun w₁ h₁ K' hK' => ?_)
  go_simp
  refine hK' _ (T1.read _ _ (fun e he => by have hm := mem_listed he; simp [go_sem] at hm)) ?_
  clear hK' K' h₁ w₁
  try walk_nrm
  refine Ev.call T1 (f := 13) (fn := Try.f13) rfl rfl (by decide) rfl Try.func13 (by decide) f13_body ?_
  simp only [List.map_toArray, List.map_cons, List.map_nil]
  rw [args13]
  try walk_nrm
  refine (hiff1 _ _).1 ?_
  refine end_o F4 ?_
  try walk_nrm
  obtain ⟨R2, Dq2, Ok2, St2, C2, N2, M2, hl2, hg2, hiff2, hR2, hC2⟩ := Can.open (Post := PostT W) (n := 1) O F4
  refine (hiff2 _ _).2 ?_
  have T2 := M2.T
  refine Ev.still T2 rfl rfl (by decide) (fun w₁ h₁ K' hK' => ?_)
  go_simp
  refine hK' _ (T2.read _ _ (fun e he => by have hm := mem_listed he; simp [go_sem] at hm)) ?_
  clear hK' K' h₁ w₁
  try walk_nrm
  refine Ev.still T2 rfl rfl (by decide) (fun w₁ h₁ K' hK' => ?_)
  go_simp
  refine hK' _ (T2.read _ _ (fun e he => by have hm := mem_listed he; simp [go_sem] at hm)) ?_
  clear hK' K' h₁ w₁
  try walk_nrm
  refine Ev.still T2 rfl rfl (by decide) (fun w₁ h₁ K' hK' => ?_)
  go_simp
  refine hK' _ (T2.read _ _ (fun e he => by have hm := mem_listed he; simp [go_sem] at hm)) ?_
  clear hK' K' h₁ w₁
  try walk_nrm
  refine Ev.still T2 rfl rfl (by decide) (fun w₁ h₁ K' hK' => ?_)
  go_simp
  refine hK' _ (T2.read _ _ (fun e he => by have hm := mem_listed he; simp [go_sem] at hm)) ?_
  clear hK' K' h₁ w₁
  try walk_nrm
  refine Ev.still T2 rfl rfl (by decide) (fun w₁ h₁ K' hK' => ?_)
  go_simp
  refine hK' _ (T2.read _ _ (fun e he => by have hm := mem_listed he; simp [go_sem] at hm)) ?_
  clear hK' K' h₁ w₁
  try walk_nrm
  refine Ev.regionEnd T2 ?_
  refine Ev.seq T2 ?_
  refine Ev.region T2 ?_
  simp only [List.size_toArray, List.length_cons, List.length_nil, Nat.reduceAdd, Nat.zero_add, List.range, List.range.loop]
  refine Ev.still T2 rfl rfl (by decide) (fun w₁ h₁ K' hK' => ?_)
  go_simp
  refine hK' _ (T2.read _ _ (fun e he => by have hm := mem_listed he; simp [go_sem] at hm)) ?_
  clear hK' K' h₁ w₁
  try walk_nrm
  refine Ev.call T2 (f := 10) (fn := Try.f10) rfl rfl (by decide) rfl Try.func10 (by decide) f10_body ?_
  simp only [List.map_toArray, List.map_cons, List.map_nil]
  rw [args10]
  try walk_nrm
  refine (hiff2 _ _).1 ?_
  refine next_o F4 ?_
  try walk_nrm
  show Ev Try.prog true AtRel D1 (StopL (PostT W) 1) _ _
  have T6 := quiet1
  refine Ev.still T6 rfl rfl (by decide) (fun w₁ h₁ K' hK' => ?_)
  go_simp
  refine hK' _ (T6.read _ _ (fun e he => by have hm := mem_listed he; simp [go_sem] at hm)) ?_
  clear hK' K' h₁ w₁
  try walk_nrm
  refine Ev.still T6 rfl rfl (by decide) (fun w₁ h₁ K' hK' => ?_)
  go_simp
  refine hK' _ (T6.read _ _ (fun e he => by have hm := mem_listed he; simp [go_sem] at hm)) ?_
  clear hK' K' h₁ w₁
  try walk_nrm
  refine Ev.still T6 rfl rfl (by decide) (fun w₁ h₁ K' hK' => ?_)
  go_simp
  refine hK' _ (T6.read _ _ (fun e he => by have hm := mem_listed he; simp [go_sem] at hm)) ?_
  clear hK' K' h₁ w₁
  try walk_nrm
  refine Ev.still T6 rfl rfl (by decide) (fun w₁ h₁ K' hK' => ?_)
  go_simp
  refine hK' _ (T6.read _ _ (fun e he => by have hm := mem_listed he; simp [go_sem] at hm)) ?_
  clear hK' K' h₁ w₁
  try walk_nrm
  refine Ev.still T6 rfl rfl (by decide) (fun w₁ h₁ K' hK' => ?_)
  go_simp
  refine hK' _ (T6.read _ _ (fun e he => by have hm := mem_listed he; simp [go_sem] at hm)) ?_
  clear hK' K' h₁ w₁
  try walk_nrm
  refine Ev.regionEnd T6 ?_
  refine Ev.seq T6 ?_
  refine Ev.region T6 ?_
  simp only [List.size_toArray, List.length_cons, List.length_nil, Nat.reduceAdd, Nat.zero_add, List.range, List.range.loop]
  refine Ev.still T6 rfl rfl (by decide) (fun w₁ h₁ K' hK' => ?_)
  go_simp
  refine hK' _ (T6.read _ _ (fun e he => by have hm := mem_listed he; simp [go_sem] at hm)) ?_
  clear hK' K' h₁ w₁
  try walk_nrm
  refine Ev.still T6 rfl rfl (by decide) (fun w₁ h₁ K' hK' => ?_)
  go_simp
  refine hK' _ (T6.read _ _ (fun e he => by have hm := mem_listed he; simp [go_sem] at hm)) ?_
  clear hK' K' h₁ w₁
  try walk_nrm
  refine Ev.still T6 rfl rfl (by decide) (fun w₁ h₁ K' hK' => ?_)
  go_simp
  refine hK' _ (T6.read _ _ (fun e he => by have hm := mem_listed he; simp [go_sem] at hm)) ?_
  clear hK' K' h₁ w₁
  try walk_nrm
  refine Ev.still T6 rfl rfl (by decide) (fun w₁ h₁ K' hK' => ?_)
  go_simp
  refine hK' _ (T6.read _ _ (fun e he => by have hm := mem_listed he; simp [go_sem] at hm)) ?_
  clear hK' K' h₁ w₁
  try walk_nrm
  refine Ev.still T6 rfl rfl (by decide) (fun w₁ h₁ K' hK' => ?_)
  go_simp
  refine hK' _ (T6.read _ _ (fun e he => by have hm := mem_listed he; simp [go_sem] at hm)) ?_
  clear hK' K' h₁ w₁
  try walk_nrm
  refine Ev.still T6 rfl rfl (by decide) (fun w₁ h₁ K' hK' => ?_)
  go_simp
  refine hK' _ (T6.read _ _ (fun e he => by have hm := mem_listed he; simp [go_sem] at hm)) ?_
  clear hK' K' h₁ w₁
  try walk_nrm
  refine Ev.still T6 rfl rfl (by decide) (fun w₁ h₁ K' hK' => ?_)
  go_simp
  refine hK' _ (T6.read _ _ (fun e he => by have hm := mem_listed he; simp [go_sem] at hm)) ?_
  clear hK' K' h₁ w₁
  try walk_nrm
  refine Ev.still T6 rfl rfl (by decide) (fun w₁ h₁ K' hK' => ?_)
  go_simp
  refine hK' _ (T6.read _ _ (fun e he => by have hm := mem_listed he; simp [go_sem] at hm)) ?_
  clear hK' K' h₁ w₁
  try walk_nrm
  refine Ev.still T6 rfl rfl (by decide) (fun w₁ h₁ K' hK' => ?_)
  go_simp
  refine hK' _ (T6.read _ _ (fun e he => by have hm := mem_listed he; simp [go_sem] at hm)) ?_
  clear hK' K' h₁ w₁
  try walk_nrm
  refine Ev.still T6 rfl rfl (by decide) (fun w₁ h₁ K' hK' => ?_)
  go_simp
  refine hK' _ (T6.read _ _ (fun e he => by have hm := mem_listed he; simp [go_sem] at hm)) ?_
  clear hK' K' h₁ w₁
  try walk_nrm
  refine Ev.still T6 rfl rfl (by decide) (fun w₁ h₁ K' hK' => ?_)
  go_simp
  refine hK' _ (T6.read _ _ (fun e he => by have hm := mem_listed he; simp [go_sem] at hm)) ?_
  clear hK' K' h₁ w₁
  try walk_nrm
  refine Ev.still T6 rfl rfl (by decide) (fun w₁ h₁ K' hK' => ?_)
  go_simp
  refine hK' _ (T6.read _ _ (fun e he => by have hm := mem_listed he; simp [go_sem] at hm)) ?_
  clear hK' K' h₁ w₁
  try walk_nrm
  refine Ev.still T6 rfl rfl (by decide) (fun w₁ h₁ K' hK' => ?_)
  go_simp
  refine hK' _ (T6.read _ _ (fun e he => by have hm := mem_listed he; simp [go_sem] at hm)) ?_
  clear hK' K' h₁ w₁
  try walk_nrm
  refine Ev.still T6 rfl rfl (by decide) (fun w₁ h₁ K' hK' => ?_)
  go_simp
  refine hK' _ (T6.read _ _ (fun e he => by have hm := mem_listed he; simp [go_sem] at hm)) ?_
  clear hK' K' h₁ w₁
  try walk_nrm
  refine Ev.still T6 rfl rfl (by decide) (fun w₁ h₁ K' hK' => ?_)
  obtain ⟨d, rfl⟩ := h₁
  have hf0 : (w4.at d).cell? ⟨W.heap.size + 1, 0, none⟩ = some (.int .i64 3) := href
  go_simp
  refine hK' _ (T6.read _ _ (fun e he => by have hm := mem_listed he; simp [go_sem, hf0] at hm; subst hm; simp [Ev1])) ?_
  clear hK' K' hf0 d
  try walk_nrm
  refine Ev.still T6 rfl rfl (by decide) (fun w₁ h₁ K' hK' => ?_)
  go_simp
  refine hK' _ (T6.read _ _ (fun e he => by have hm := mem_listed he; simp [go_sem] at hm)) ?_
  clear hK' K' h₁ w₁
  try walk_nrm
  refine Ev.still T6 rfl rfl (by decide) (fun w₁ h₁ K' hK' => ?_)
  go_simp
  refine hK' _ (T6.read _ _ (fun e he => by have hm := mem_listed he; simp [go_sem] at hm)) ?_
  clear hK' K' h₁ w₁
  try walk_nrm
  refine Ev.still T6 rfl rfl (by decide) (fun w₁ h₁ K' hK' => ?_)
  go_simp
  refine hK' _ (T6.read _ _ (fun e he => by have hm := mem_listed he; simp [go_sem] at hm)) ?_
  clear hK' K' h₁ w₁
  try walk_nrm
  refine Ev.still T6 rfl rfl (by decide) (fun w₁ h₁ K' hK' => ?_)
  obtain ⟨d, rfl⟩ := h₁
  have hf0 : (w4.at d).cell? ⟨W.heap.size, 0, none⟩ = some (.int .i64 i) := hput
  go_simp
  refine hK' _ (T6.read _ _ (fun e he => by have hm := mem_listed he; simp [go_sem, hf0] at hm; subst hm; simp [Ev1])) ?_
  clear hK' K' hf0 d
  try walk_nrm
  refine Ev.still T6 rfl rfl (by decide) (fun w₁ h₁ K' hK' => ?_)
  go_simp
  refine hK' _ (T6.read _ _ (fun e he => by have hm := mem_listed he; simp [go_sem] at hm)) ?_
  clear hK' K' h₁ w₁
  try walk_nrm
  refine Ev.still T6 rfl rfl (by decide) (fun w₁ h₁ K' hK' => ?_)
  go_simp
  refine hK' _ (T6.read _ _ (fun e he => by have hm := mem_listed he; simp [go_sem] at hm)) ?_
  clear hK' K' h₁ w₁
  try walk_nrm
  try rw [show decide ((n : Int) ≤ (i : Int)) = true from by simp; omega]
  try rw [show decide (n ≤ i) = true from by simp; omega]
  refine Ev.still T6 rfl rfl (by decide) (fun w₁ h₁ K' hK' => ?_)
  go_simp
  refine hK' _ (T6.read _ _ (fun e he => by have hm := mem_listed he; simp [go_sem] at hm)) ?_
  clear hK' K' h₁ w₁
  try walk_nrm
  refine Ev.still T6 rfl rfl (by decide) (fun w₁ h₁ K' hK' => ?_)
  go_simp
  refine hK' _ (T6.read _ _ (fun e he => by have hm := mem_listed he; simp [go_sem] at hm)) ?_
  clear hK' K' h₁ w₁
  try walk_nrm
  refine Ev.still T6 rfl rfl (by decide) (fun w₁ h₁ K' hK' => ?_)
  obtain ⟨d, rfl⟩ := h₁
  have hf0 : (w4.at d).cell? ⟨W.heap.size, 0, none⟩ = some (.int .i64 i) := hput
  go_simp
  refine hK' _ (T6.read _ _ (fun e he => by have hm := mem_listed he; simp [go_sem, hf0] at hm; subst hm; simp [Ev1])) ?_
  clear hK' K' hf0 d
  try walk_nrm
  refine Ev.still T6 rfl rfl (by decide) (fun w₁ h₁ K' hK' => ?_)
  go_simp
  refine hK' _ (T6.read _ _ (fun e he => by have hm := mem_listed he; simp [go_sem] at hm)) ?_
  clear hK' K' h₁ w₁
  try walk_nrm
  refine Ev.still T6 rfl rfl (by decide) (fun w₁ h₁ K' hK' => ?_)
  go_simp
  refine hK' _ (T6.read _ _ (fun e he => by have hm := mem_listed he; simp [go_sem] at hm)) ?_
  clear hK' K' h₁ w₁
  try walk_nrm
  refine Ev.still T6 rfl rfl (by decide) (fun w₁ h₁ K' hK' => ?_)
  go_simp
  refine hK' _ (T6.read _ _ (fun e he => by have hm := mem_listed he; simp [go_sem] at hm)) ?_
  clear hK' K' h₁ w₁
  try walk_nrm
  try rw [show IntKind.wrap .i64 (rm : Int) = (rm : Int) from IntWalk.i64_in _ (by omega)]
  refine Ev.still T6 rfl rfl (by decide) (fun w₁ h₁ K' hK' => ?_)
  go_simp
  refine hK' _ (T6.read _ _ (fun e he => by have hm := mem_listed he; simp [go_sem] at hm)) ?_
  clear hK' K' h₁ w₁
  try walk_nrm
  try rw [show ((rm : Int).tmod 10) = (room : Int) from by rw [← hr, Int.tmod_eq_emod_of_nonneg (by omega)]; simp]
  refine Ev.still T6 rfl rfl (by decide) (fun w₁ h₁ K' hK' => ?_)
  go_simp
  refine hK' _ (T6.read _ _ (fun e he => by have hm := mem_listed he; simp [go_sem] at hm)) ?_
  clear hK' K' h₁ w₁
  try walk_nrm
  try rw [show IntKind.wrap .i64 ((n : Int) + (room : Int)) = (n : Int) + (room : Int) from IntWalk.i64_in _ (by omega)]
  refine Ev.still T6 rfl rfl (by decide) (fun w₁ h₁ K' hK' => ?_)
  go_simp
  refine hK' _ (T6.read _ _ (fun e he => by have hm := mem_listed he; simp [go_sem] at hm)) ?_
  clear hK' K' h₁ w₁
  try walk_nrm
  try rw [show IntKind.wrap .i64 ((n : Int) + (room : Int) + 1) = (n : Int) + (room : Int) + 1 from IntWalk.i64_in _ (by omega)]
  refine Ev.still T6 rfl rfl (by decide) (fun w₁ h₁ K' hK' => ?_)
  go_simp
  refine hK' _ (T6.read _ _ (fun e he => by have hm := mem_listed he; simp [go_sem] at hm)) ?_
  clear hK' K' h₁ w₁
  try walk_nrm
  try rw [show decide ((i : Int) ≤ (n : Int) + (room : Int) + 1) = true from by simp; omega]
  refine Ev.still T6 rfl rfl (by decide) (fun w₁ h₁ K' hK' => ?_)
  go_simp
  refine hK' _ (T6.read _ _ (fun e he => by have hm := mem_listed he; simp [go_sem] at hm)) ?_
  clear hK' K' h₁ w₁
  try walk_nrm
  refine Ev.still T6 rfl rfl (by decide) (fun w₁ h₁ K' hK' => ?_)
  go_simp
  refine hK' _ (T6.read _ _ (fun e he => by have hm := mem_listed he; simp [go_sem] at hm)) ?_
  clear hK' K' h₁ w₁
  try walk_nrm
  refine Ev.call T6 (f := 7) (fn := Try.f7) rfl rfl (by decide) rfl Try.func7 (by decide) f7_body ?_
  simp only [List.map_toArray, List.map_cons, List.map_nil]
  rw [args7]
  try walk_nrm
  refine live_c (n := 0) (fun W' G' => ?_)
  have G6 := G4.trans G'
  try walk_nrm
  refine Ev.still T6 rfl rfl (by decide) (fun w₁ h₁ K' hK' => ?_)
  go_simp
  refine hK' _ (T6.read _ _ (fun e he => by have hm := mem_listed he; simp [go_sem] at hm)) ?_
  clear hK' K' h₁ w₁
  try walk_nrm
  refine Ev.still T6 rfl rfl (by decide) (fun w₁ h₁ K' hK' => ?_)
  go_simp
  refine hK' _ (T6.read _ _ (fun e he => by have hm := mem_listed he; simp [go_sem] at hm)) ?_
  clear hK' K' h₁ w₁
  try walk_nrm
  refine Ev.regionEnd T6 ?_
  refine Ev.ret T6 ?_
  refine .stop fun w₂ r₂ => fun d' => ?_
  obtain ⟨d₂, rfl⟩ := r₂
  refine ⟨rfl, .bool true, #[], ?_, by simp, rfl, Below.of_at (Below.of_at (Grew.below G6) d₂) d'⟩
  simp [G, stepG, unwind, doReturn, results, Frame.at, base, Try.func4, Try.f4, seen, GStep.after]
set_option maxRecDepth 100000 in
set_option maxHeartbeats 8000000 in
theorem stops_loop (hn : n ≤ 29) (hroom : room ≤ 9) (hrm : rm ≤ 255) (hr : rm % 10 = room) : ∀ (d i : Nat), i + d = n → ∀ (m : Mode) (w : World) (j11 j12 j13 j14 j15 j16 j17 j18 j19 j20 j21 j22 j23 j24 j25 j26 j27 j28 j29 j30 j31 j32 j33 j34 j35 j36 j37 j38 j39 j40 j41 j42 j43 j44 j45 j46 j47 j48 j49 j50 j51 j52 j53 j54 j55 j56 j57 j58 j59 j60 j61 j62 j63 j64 j65 j66 j67 j68 j69 j70 j71 j72 j73 j74 j75 j76 j77 j78 j79 j80 j81 j82 j83 j84 j85 j86 j87 j88 j89 j90 j91 j92 j93 j94 : Value), WF (stopK W.heap.size room n) (W.heap.size + 6) m w → Grew W w → ModeAt 0 m i (2 * d + 2) → Can (stopK W.heap.size room n) (PostT W) 1 m (G ((base 4).at ⟨#[.int .u8 tk, .int .u8 rm, undef, undef, .bool false, .int .i64 n, .pointer (some ⟨W.heap.size, 0, none⟩), .pointer (some ⟨W.heap.size + 1, 0, none⟩), .pointer (some ⟨W.heap.size + 2, 0, none⟩), .int .i64 0, .int .i64 i, j11, j12, j13, j14, j15, j16, j17, j18, j19, j20, j21, j22, j23, j24, j25, j26, j27, j28, j29, j30, j31, j32, j33, j34, j35, j36, j37, j38, j39, j40, j41, j42, j43, j44, j45, j46, j47, j48, j49, j50, j51, j52, j53, j54, j55, j56, j57, j58, j59, j60, j61, j62, j63, j64, j65, j66, j67, j68, j69, j70, j71, j72, j73, j74, j75, j76, j77, j78, j79, j80, j81, j82, j83, j84, j85, j86, j87, j88, j89, j90, j91, j92, j93, j94], []⟩ [.code loop4, .inLoop loop4, .inBlock 0, .code after4]) []) w := by
  intro d
  induction d with
  | zero =>
    intro i hid m w j11 j12 j13 j14 j15 j16 j17 j18 j19 j20 j21 j22 j23 j24 j25 j26 j27 j28 j29 j30 j31 j32 j33 j34 j35 j36 j37 j38 j39 j40 j41 j42 j43 j44 j45 j46 j47 j48 j49 j50 j51 j52 j53 j54 j55 j56 j57 j58 j59 j60 j61 j62 j63 j64 j65 j66 j67 j68 j69 j70 j71 j72 j73 j74 j75 j76 j77 j78 j79 j80 j81 j82 j83 j84 j85 j86 j87 j88 j89 j90 j91 j92 j93 j94 hF hG hm
    obtain rfl : i = n := by omega
    exact stops_end O hn hroom hrm hr hF hG hm j11 j12 j13 j14 j15 j16 j17 j18 j19 j20 j21 j22 j23 j24 j25 j26 j27 j28 j29 j30 j31 j32 j33 j34 j35 j36 j37 j38 j39 j40 j41 j42 j43 j44 j45 j46 j47 j48 j49 j50 j51 j52 j53 j54 j55 j56 j57 j58 j59 j60 j61 j62 j63 j64 j65 j66 j67 j68 j69 j70 j71 j72 j73 j74 j75 j76 j77 j78 j79 j80 j81 j82 j83 j84 j85 j86 j87 j88 j89 j90 j91 j92 j93 j94
  | succ d ih =>
    intro i hid m w j11 j12 j13 j14 j15 j16 j17 j18 j19 j20 j21 j22 j23 j24 j25 j26 j27 j28 j29 j30 j31 j32 j33 j34 j35 j36 j37 j38 j39 j40 j41 j42 j43 j44 j45 j46 j47 j48 j49 j50 j51 j52 j53 j54 j55 j56 j57 j58 j59 j60 j61 j62 j63 j64 j65 j66 j67 j68 j69 j70 j71 j72 j73 j74 j75 j76 j77 j78 j79 j80 j81 j82 j83 j84 j85 j86 j87 j88 j89 j90 j91 j92 j93 j94 hF hG hm
    have hlt : (i : Int) < (n : Int) := by omega
    have hi9 : (i : Int) ≤ 29 := by omega
    have hih : RowKit.Hid (∀ (m : Mode) (w : World) (j11 j12 j13 j14 j15 j16 j17 j18 j19 j20 j21 j22 j23 j24 j25 j26 j27 j28 j29 j30 j31 j32 j33 j34 j35 j36 j37 j38 j39 j40 j41 j42 j43 j44 j45 j46 j47 j48 j49 j50 j51 j52 j53 j54 j55 j56 j57 j58 j59 j60 j61 j62 j63 j64 j65 j66 j67 j68 j69 j70 j71 j72 j73 j74 j75 j76 j77 j78 j79 j80 j81 j82 j83 j84 j85 j86 j87 j88 j89 j90 j91 j92 j93 j94 : Value), WF (stopK W.heap.size room n) (W.heap.size + 6) m w → Grew W w → ModeAt 0 m (i + 1) (2 * d + 2) → Can (stopK W.heap.size room n) (PostT W) 1 m (G ((base 4).at ⟨#[.int .u8 tk, .int .u8 rm, undef, undef, .bool false, .int .i64 n, .pointer (some ⟨W.heap.size, 0, none⟩), .pointer (some ⟨W.heap.size + 1, 0, none⟩), .pointer (some ⟨W.heap.size + 2, 0, none⟩), .int .i64 0, .int .i64 ((i + 1 : Nat) : Int), j11, j12, j13, j14, j15, j16, j17, j18, j19, j20, j21, j22, j23, j24, j25, j26, j27, j28, j29, j30, j31, j32, j33, j34, j35, j36, j37, j38, j39, j40, j41, j42, j43, j44, j45, j46, j47, j48, j49, j50, j51, j52, j53, j54, j55, j56, j57, j58, j59, j60, j61, j62, j63, j64, j65, j66, j67, j68, j69, j70, j71, j72, j73, j74, j75, j76, j77, j78, j79, j80, j81, j82, j83, j84, j85, j86, j87, j88, j89, j90, j91, j92, j93, j94], []⟩ [.code loop4, .inLoop loop4, .inBlock 0, .code after4]) []) w) := ih (i + 1) (by omega)
    clear ih
    obtain ⟨R0, Dq0, Ok0, St0, C0, N0, M0, hl0, hg0, hiff0, hR0, hC0⟩ := Can.open (Post := PostT W) (n := 1) O hF
    refine (hiff0 _ _).2 ?_
    have T0 := M0.T
    simp only [loop4, after4, body4, Try.f4, Option.getD_some]
    refine Ev.seq T0 ?_
    refine Ev.seq T0 ?_
    refine Ev.region T0 ?_
    simp only [List.size_toArray, List.length_cons, List.length_nil, Nat.reduceAdd, Nat.zero_add, List.range, List.range.loop]
    refine Ev.still T0 rfl rfl (by decide) (fun w₁ h₁ K' hK' => ?_)
    go_simp
    refine hK' _ (T0.read _ _ (fun e he => by have hm := mem_listed he; simp [go_sem] at hm)) ?_
    clear hK' K' h₁ w₁
    try walk_nrm
    refine Ev.still T0 rfl rfl (by decide) (fun w₁ h₁ K' hK' => ?_)
    go_simp
    refine hK' _ (T0.read _ _ (fun e he => by have hm := mem_listed he; simp [go_sem] at hm)) ?_
    clear hK' K' h₁ w₁
    try walk_nrm
    refine Ev.still T0 rfl rfl (by decide) (fun w₁ h₁ K' hK' => ?_)
    go_simp
    refine hK' _ (T0.read _ _ (fun e he => by have hm := mem_listed he; simp [go_sem] at hm)) ?_
    clear hK' K' h₁ w₁
    try walk_nrm
    refine Ev.regionEnd T0 ?_
    refine Ev.cond T0 true rfl ?_
    simp only [if_true, if_false, Bool.false_eq_true, ↓reduceIte]
    refine Ev.skip T0 ?_
    refine Ev.seq T0 ?_
    refine Ev.block T0 ?_
    refine Ev.seq T0 ?_
    refine Ev.region T0 ?_
    simp only [List.size_toArray, List.length_cons, List.length_nil, Nat.reduceAdd, Nat.zero_add, List.range, List.range.loop]
    refine Ev.still T0 rfl rfl (by decide) (fun w₁ h₁ K' hK' => ?_)
    go_simp
    refine hK' _ (T0.read _ _ (fun e he => by have hm := mem_listed he; simp [go_sem] at hm)) ?_
    clear hK' K' h₁ w₁
    try walk_nrm
    refine Ev.call T0 (f := 10) (fn := Try.f10) rfl rfl (by decide) rfl Try.func10 (by decide) f10_body ?_
    simp only [List.map_toArray, List.map_cons, List.map_nil]
    rw [args10]
    try walk_nrm
    refine (hiff0 _ _).1 ?_
    refine next_st O hF (F := 2 * d + 2) hm (by omega) (fun m4 w4 hm4 M4 F4 => ?_)
    have G4 := hG.movedS M4
    try walk_nrm
    obtain ⟨R1, Dq1, Ok1, St1, C1, N1, M1, hl1, hg1, hiff1, hR1, hC1⟩ := Can.open (Post := PostT W) (n := 1) O F4
    refine (hiff1 _ _).2 ?_
    have T1 := M1.T
    refine Ev.still T1 rfl rfl (by decide) (fun w₁ h₁ K' hK' => ?_)
    go_simp
    refine hK' _ (T1.read _ _ (fun e he => by have hm := mem_listed he; simp [go_sem] at hm)) ?_
    clear hK' K' h₁ w₁
    try walk_nrm
    refine Ev.still T1 rfl rfl (by decide) (fun w₁ h₁ K' hK' => ?_)
    go_simp
    refine hK' _ (T1.read _ _ (fun e he => by have hm := mem_listed he; simp [go_sem] at hm)) ?_
    clear hK' K' h₁ w₁
    try walk_nrm
    refine Ev.still T1 rfl rfl (by decide) (fun w₁ h₁ K' hK' => ?_)
    go_simp
    refine hK' _ (T1.read _ _ (fun e he => by have hm := mem_listed he; simp [go_sem] at hm)) ?_
    clear hK' K' h₁ w₁
    try walk_nrm
    refine Ev.still T1 rfl rfl (by decide) (fun w₁ h₁ K' hK' => ?_)
    go_simp
    refine hK' _ (T1.read _ _ (fun e he => by have hm := mem_listed he; simp [go_sem] at hm)) ?_
    clear hK' K' h₁ w₁
    try walk_nrm
    refine Ev.still T1 rfl rfl (by decide) (fun w₁ h₁ K' hK' => ?_)
    go_simp
    refine hK' _ (T1.read _ _ (fun e he => by have hm := mem_listed he; simp [go_sem] at hm)) ?_
    clear hK' K' h₁ w₁
    try walk_nrm
    refine Ev.regionEnd T1 ?_
    refine Ev.seq T1 ?_
    refine Ev.region T1 ?_
    simp only [List.size_toArray, List.length_cons, List.length_nil, Nat.reduceAdd, Nat.zero_add, List.range, List.range.loop]
    refine Ev.still T1 rfl rfl (by decide) (fun w₁ h₁ K' hK' => ?_)
    go_simp
    refine hK' _ (T1.read _ _ (fun e he => by have hm := mem_listed he; simp [go_sem] at hm)) ?_
    clear hK' K' h₁ w₁
    try walk_nrm
    refine Ev.still T1 rfl rfl (by decide) (fun w₁ h₁ K' hK' => ?_)
    go_simp
    refine hK' _ (T1.read _ _ (fun e he => by have hm := mem_listed he; simp [go_sem] at hm)) ?_
    clear hK' K' h₁ w₁
    try walk_nrm
    refine Ev.still T1 rfl rfl (by decide) (fun w₁ h₁ K' hK' => ?_)
    go_simp
    refine hK' _ (T1.read _ _ (fun e he => by have hm := mem_listed he; simp [go_sem] at hm)) ?_
    clear hK' K' h₁ w₁
    try walk_nrm
    refine Ev.still T1 rfl rfl (by decide) (fun w₁ h₁ K' hK' => ?_)
    go_simp
    refine hK' _ (T1.read _ _ (fun e he => by have hm := mem_listed he; simp [go_sem] at hm)) ?_
    clear hK' K' h₁ w₁
    try walk_nrm
    refine Ev.still T1 rfl rfl (by decide) (fun w₁ h₁ K' hK' => ?_)
    go_simp
    refine hK' _ (T1.read _ _ (fun e he => by have hm := mem_listed he; simp [go_sem] at hm)) ?_
    clear hK' K' h₁ w₁
    try walk_nrm
    refine Ev.still T1 rfl rfl (by decide) (fun w₁ h₁ K' hK' => ?_)
    go_simp
    refine hK' _ (T1.read _ _ (fun e he => by have hm := mem_listed he; simp [go_sem] at hm)) ?_
    clear hK' K' h₁ w₁
    try walk_nrm
    refine Ev.still T1 rfl rfl (by decide) (fun w₁ h₁ K' hK' => ?_)
    go_simp
    refine hK' _ (T1.read _ _ (fun e he => by have hm := mem_listed he; simp [go_sem] at hm)) ?_
    clear hK' K' h₁ w₁
    try walk_nrm
    refine Ev.regionEnd T1 ?_
    refine Ev.cond T1 false rfl ?_
    simp only [if_true, if_false, Bool.false_eq_true, ↓reduceIte]
    refine Ev.skip T1 ?_
    refine Ev.inBlock T1 ?_
    refine Ev.region T1 ?_
    simp only [List.size_toArray, List.length_cons, List.length_nil, Nat.reduceAdd, Nat.zero_add, List.range, List.range.loop]
    refine Ev.still T1 rfl rfl (by decide) (fun w₁ h₁ K' hK' => ?_)
    go_simp
    refine hK' _ (T1.read _ _ (fun e he => by have hm := mem_listed he; simp [go_sem] at hm)) ?_
    clear hK' K' h₁ w₁
    try walk_nrm
    refine Ev.still T1 rfl rfl (by decide) (fun w₁ h₁ K' hK' => ?_)
    go_simp
    refine hK' _ (T1.read _ _ (fun e he => by have hm := mem_listed he; simp [go_sem] at hm)) ?_
    clear hK' K' h₁ w₁
    try walk_nrm
    refine Ev.still T1 rfl rfl (by decide) (fun w₁ h₁ K' hK' => ?_)
    go_simp
    refine hK' _ (T1.read _ _ (fun e he => by have hm := mem_listed he; simp [go_sem] at hm)) ?_
    clear hK' K' h₁ w₁
    try walk_nrm
    refine Ev.regionEnd T1 ?_
    refine Ev.inLoop T1 ?_
    rw [show IntKind.wrap .i64 ((i : Int) + 1) = ((i + 1 : Nat) : Int) from by rw [IntWalk.i64_in _ (by omega)]; omega]
    have hfin := fun (j11 j12 j13 j14 j15 j16 j17 j18 j19 j20 j21 j22 j23 j24 j25 j26 j27 j28 j29 j30 j31 j32 j33 j34 j35 j36 j37 j38 j39 j40 j41 j42 j43 j44 j45 j46 j47 j48 j49 j50 j51 j52 j53 j54 j55 j56 j57 j58 j59 j60 j61 j62 j63 j64 j65 j66 j67 j68 j69 j70 j71 j72 j73 j74 j75 j76 j77 j78 j79 j80 j81 j82 j83 j84 j85 j86 j87 j88 j89 j90 j91 j92 j93 j94 : Value) => hih.out m4 w4 j11 j12 j13 j14 j15 j16 j17 j18 j19 j20 j21 j22 j23 j24 j25 j26 j27 j28 j29 j30 j31 j32 j33 j34 j35 j36 j37 j38 j39 j40 j41 j42 j43 j44 j45 j46 j47 j48 j49 j50 j51 j52 j53 j54 j55 j56 j57 j58 j59 j60 j61 j62 j63 j64 j65 j66 j67 j68 j69 j70 j71 j72 j73 j74 j75 j76 j77 j78 j79 j80 j81 j82 j83 j84 j85 j86 j87 j88 j89 j90 j91 j92 j93 j94 F4 G4 hm4
    clear hih
    simp only [loop4, after4, body4, Try.f4, Option.getD_some] at hfin
    exact (hiff1 _ _).1 (hfin _ _ _ _ _ _ _ _ _ _ _ _ _ _ _ _ _ _ _ _ _ _ _ _ _ _ _ _ _ _ _ _ _ _ _ _ _ _ _ _ _ _ _ _ _ _ _ _ _ _ _ _ _ _ _ _ _ _ _ _ _ _ _ _ _ _ _ _ _ _ _ _ _ _ _ _ _ _ _ _ _ _ _ _)
end
set_option maxRecDepth 100000 in
set_option maxHeartbeats 8000000 in
theorem stops_ev (W : World) {tk rm : Nat} (htk : tk ≤ 255) (hrm : rm ≤ 255) : Ev Try.prog true AtRel D1 (StopL (PostT W) 2) (G ((base 4).at ⟨#[.int .u8 tk, .int .u8 rm, undef, undef, undef, undef, undef, undef, undef, undef, undef, undef, undef, undef, undef, undef, undef, undef, undef, undef, undef, undef, undef, undef, undef, undef, undef, undef, undef, undef, undef, undef, undef, undef, undef, undef, undef, undef, undef, undef, undef, undef, undef, undef, undef, undef, undef, undef, undef, undef, undef, undef, undef, undef, undef, undef, undef, undef, undef, undef, undef, undef, undef, undef, undef, undef, undef, undef, undef, undef, undef, undef, undef, undef, undef, undef, undef, undef, undef, undef, undef, undef, undef, undef, undef, undef, undef, undef, undef, undef, undef, undef, undef, undef, undef], []⟩ [.code body4]) []) W := by
  have T := quiet1
  obtain ⟨n, hn⟩ : ∃ n, tk % 30 = n := ⟨_, rfl⟩
  obtain ⟨room, hr⟩ : ∃ n, rm % 10 = n := ⟨_, rfl⟩
  have hn29 : n ≤ 29 := by omega
  have hr9 : room ≤ 9 := by omega
  have htk' : (tk : Int) ≤ 255 := by omega
  have hrm' : (rm : Int) ≤ 255 := by omega
  have X0 := Ext.refl W
  suffices hs : ∀ W0, Ext W [] W0 → Ev Try.prog true AtRel D1 (StopL (PostT W) 2) (G ((base 4).at ⟨#[.int .u8 tk, .int .u8 rm, undef, undef, undef, undef, undef, undef, undef, undef, undef, undef, undef, undef, undef, undef, undef, undef, undef, undef, undef, undef, undef, undef, undef, undef, undef, undef, undef, undef, undef, undef, undef, undef, undef, undef, undef, undef, undef, undef, undef, undef, undef, undef, undef, undef, undef, undef, undef, undef, undef, undef, undef, undef, undef, undef, undef, undef, undef, undef, undef, undef, undef, undef, undef, undef, undef, undef, undef, undef, undef, undef, undef, undef, undef, undef, undef, undef, undef, undef, undef, undef, undef, undef, undef, undef, undef, undef, undef, undef, undef, undef, undef, undef, undef], []⟩ [.code body4]) []) W0 from hs W X0
  clear X0
  intro W0 X0
  simp only [body4, Try.f4, Option.getD_some]
  refine Ev.seq T ?_
  refine Ev.region T ?_
  simp only [List.size_toArray, List.length_cons, List.length_nil, Nat.reduceAdd, Nat.zero_add, List.range, List.range.loop]
  refine Ev.still T rfl rfl (by decide) (fun w₁ h₁ K' hK' => ?_)
  go_simp
  refine hK' _ (T.read _ _ (fun e he => by have hm := mem_listed he; simp [go_sem] at hm)) ?_
  clear hK' K' h₁ w₁
  try walk_nrm
  refine Ev.regionEnd T ?_
  refine Ev.seq T ?_
  refine Ev.region T ?_
  simp only [List.size_toArray, List.length_cons, List.length_nil, Nat.reduceAdd, Nat.zero_add, List.range, List.range.loop]
  refine Ev.still T rfl rfl (by decide) (fun w₁ h₁ K' hK' => ?_)
  go_simp
  refine hK' _ (T.read _ _ (fun e he => by have hm := mem_listed he; simp [go_sem] at hm)) ?_
  clear hK' K' h₁ w₁
  try walk_nrm
  refine Ev.still T rfl rfl (by decide) (fun w₁ h₁ K' hK' => ?_)
  go_simp
  refine hK' _ (T.read _ _ (fun e he => by have hm := mem_listed he; simp [go_sem] at hm)) ?_
  clear hK' K' h₁ w₁
  try walk_nrm
  try rw [show IntKind.wrap .i64 (tk : Int) = (tk : Int) from IntWalk.i64_in _ (by omega)]
  refine Ev.still T rfl rfl (by decide) (fun w₁ h₁ K' hK' => ?_)
  go_simp
  refine hK' _ (T.read _ _ (fun e he => by have hm := mem_listed he; simp [go_sem] at hm)) ?_
  clear hK' K' h₁ w₁
  try walk_nrm
  try rw [show ((tk : Int).tmod 30) = (n : Int) from by rw [← hn, Int.tmod_eq_emod_of_nonneg (by omega)]; simp]
  refine Ev.still T rfl rfl (by decide) (fun w₁ h₁ K' hK' => ?_)
  go_simp
  refine hK' _ (T.read _ _ (fun e he => by have hm := mem_listed he; simp [go_sem] at hm)) ?_
  clear hK' K' h₁ w₁
  try walk_nrm
  refine Ev.regionEnd T ?_
  refine Ev.seq T ?_
  refine Ev.region T ?_
  simp only [List.size_toArray, List.length_cons, List.length_nil, Nat.reduceAdd, Nat.zero_add, List.range, List.range.loop]
  refine Ev.turn rfl rfl (by decide) (fun w₁ h₁ K' hK' => ?_)
  obtain ⟨d, rfl⟩ := h₁
  go_simp
  refine hK' _ _ (fun e he => by have hm := mem_listed he; simp [go_sem] at hm) ?_
  clear hK' K'
  try walk_nrm
  have X1 : Ext W [.cells #[.int .i64 0] 3] _ := (X0.at d).alloc (.cells #[.int .i64 0] 3)
  have hs0 : W0.heap.size = W.heap.size := X0.size
  try simp only [hs0]
  generalize (W0.at d).alloc (.cells #[.int .i64 0] 3) = W1 at X1 ⊢
  refine Ev.turn rfl rfl (by decide) (fun w₁ h₁ K' hK' => ?_)
  obtain ⟨d, rfl⟩ := h₁
  go_simp
  refine hK' _ _ (fun e he => by have hm := mem_listed he; simp [go_sem] at hm) ?_
  clear hK' K'
  try walk_nrm
  have X2 : Ext W [.cells #[.int .i64 0] 3, .cells #[.int .i64 0] 3] _ := (X1.at d).alloc (.cells #[.int .i64 0] 3)
  have hs1 : W1.heap.size = W.heap.size + 1 := X1.size
  try simp only [hs1]
  generalize (W1.at d).alloc (.cells #[.int .i64 0] 3) = W2 at X2 ⊢
  refine Ev.turn rfl rfl (by decide) (fun w₁ h₁ K' hK' => ?_)
  obtain ⟨d, rfl⟩ := h₁
  have hf0 : (W2.at d).cell? ⟨W.heap.size, 0, none⟩ = some (.int .i64 0) := (X2.at d).cell 0 rfl 0
  have hf1 : (W2.at d).frozen? ⟨W.heap.size, 0, none⟩ = false := (X2.at d).froz 0 rfl 0
  have hes := fun es => events_store Try.prog (W2.at d) es ⟨W.heap.size, 0, none⟩ (.int .i64 0) .plain rfl
  go_simp
  refine hK' _ _ (fun e he => by have hm := mem_listed he; simp [go_sem, hes, storedEv, *] at hm; subst hm; simp [Ev1]) ?_
  clear hK' K' hf0 hf1 hes
  try walk_nrm
  have X3 : Ext W [.cells #[.int .i64 0] 3, .cells #[.int .i64 0] 3] _ := (X2.at d).set 0 rfl 0 (.int .i64 0)
  generalize (W2.at d).setCell ⟨W.heap.size, 0, none⟩ (.int .i64 0) = W3 at X3 ⊢
  refine Ev.turn rfl rfl (by decide) (fun w₁ h₁ K' hK' => ?_)
  obtain ⟨d, rfl⟩ := h₁
  have hf0 : (W3.at d).cell? ⟨W.heap.size + 1, 0, none⟩ = some (.int .i64 0) := (X3.at d).cell 1 rfl 0
  have hf1 : (W3.at d).frozen? ⟨W.heap.size + 1, 0, none⟩ = false := (X3.at d).froz 1 rfl 0
  have hes := fun es => events_store Try.prog (W3.at d) es ⟨W.heap.size + 1, 0, none⟩ (.int .i64 0) .plain rfl
  go_simp
  refine hK' _ _ (fun e he => by have hm := mem_listed he; simp [go_sem, hes, storedEv, *] at hm; subst hm; simp [Ev1]) ?_
  clear hK' K' hf0 hf1 hes
  try walk_nrm
  have X4 : Ext W [.cells #[.int .i64 0] 3, .cells #[.int .i64 0] 3] _ := (X3.at d).set 1 rfl 0 (.int .i64 0)
  generalize (W3.at d).setCell ⟨W.heap.size + 1, 0, none⟩ (.int .i64 0) = W4 at X4 ⊢
  refine Ev.regionEnd T ?_
  refine Ev.seq T ?_
  refine Ev.region T ?_
  simp only [List.size_toArray, List.length_cons, List.length_nil, Nat.reduceAdd, Nat.zero_add, List.range, List.range.loop]
  refine Ev.still T rfl rfl (by decide) (fun w₁ h₁ K' hK' => ?_)
  go_simp
  refine hK' _ (T.read _ _ (fun e he => by have hm := mem_listed he; simp [go_sem] at hm)) ?_
  clear hK' K' h₁ w₁
  try walk_nrm
  refine Ev.still T rfl rfl (by decide) (fun w₁ h₁ K' hK' => ?_)
  go_simp
  refine hK' _ (T.read _ _ (fun e he => by have hm := mem_listed he; simp [go_sem] at hm)) ?_
  clear hK' K' h₁ w₁
  try walk_nrm
  try rw [show IntKind.wrap .i64 (rm : Int) = (rm : Int) from IntWalk.i64_in _ (by omega)]
  refine Ev.still T rfl rfl (by decide) (fun w₁ h₁ K' hK' => ?_)
  go_simp
  refine hK' _ (T.read _ _ (fun e he => by have hm := mem_listed he; simp [go_sem] at hm)) ?_
  clear hK' K' h₁ w₁
  try walk_nrm
  try rw [show ((rm : Int).tmod 10) = (room : Int) from by rw [← hr, Int.tmod_eq_emod_of_nonneg (by omega)]; simp]
  refine Ev.still T rfl rfl (by decide) (fun w₁ h₁ K' hK' => ?_)
  go_simp
  refine hK' _ (T.read _ _ (fun e he => by have hm := mem_listed he; simp [go_sem, Instr.makeFunc] at hm)) ?_
  clear hK' K' h₁ w₁
  try walk_nrm
  refine Ev.call T (f := 14) (fn := Try.f14) rfl rfl (by decide) rfl Try.func14 (by decide) f14_body ?_
  simp only [List.map_toArray, List.map_cons, List.map_nil]
  rw [args14]
  try walk_nrm
  refine new_ok (room := room) (w := W) (by omega) X4 (fun W2 X2 => ?_)
  have O : (stopK W.heap.size room n).Ok (W.heap.size + 6) := stopK_ok (by omega)
  have hs2 : W2.heap.size = W.heap.size + 6 := X2.size
  have F2 : WF (stopK W.heap.size room n) (W.heap.size + 6) .fresh W2 := ⟨by omega, ⟨⟨X2.cell 2 rfl 1, X2.froz 2 rfl 1, X2.cell 2 rfl 2, X2.froz 2 rfl 2, X2.cell 2 rfl 3, X2.froz 2 rfl 3⟩, X2.cell 2 rfl 4, X2.cell 2 rfl 5, X2.cell 2 rfl 6, fun m _ => X2.froz 2 rfl m⟩, X2.get 3, X2.get 4, X2.get 5, X2.cell 2 rfl 0, X2.cell 0 rfl 0, X2.froz 0 rfl 0, X2.cell 1 rfl 0, X2.froz 1 rfl 0⟩
  have G2 : Grew W W2 := X2.grew
  clear hs2
  try walk_nrm
  have hL := fun (j11 j12 j13 j14 j15 j16 j17 j18 j19 j20 j21 j22 j23 j24 j25 j26 j27 j28 j29 j30 j31 j32 j33 j34 j35 j36 j37 j38 j39 j40 j41 j42 j43 j44 j45 j46 j47 j48 j49 j50 j51 j52 j53 j54 j55 j56 j57 j58 j59 j60 j61 j62 j63 j64 j65 j66 j67 j68 j69 j70 j71 j72 j73 j74 j75 j76 j77 j78 j79 j80 j81 j82 j83 j84 j85 j86 j87 j88 j89 j90 j91 j92 j93 j94 : Value) => stops_loop (tk := tk) O hn29 hr9 hrm hr n 0 (by omega) .fresh W2 j11 j12 j13 j14 j15 j16 j17 j18 j19 j20 j21 j22 j23 j24 j25 j26 j27 j28 j29 j30 j31 j32 j33 j34 j35 j36 j37 j38 j39 j40 j41 j42 j43 j44 j45 j46 j47 j48 j49 j50 j51 j52 j53 j54 j55 j56 j57 j58 j59 j60 j61 j62 j63 j64 j65 j66 j67 j68 j69 j70 j71 j72 j73 j74 j75 j76 j77 j78 j79 j80 j81 j82 j83 j84 j85 j86 j87 j88 j89 j90 j91 j92 j93 j94 F2 G2 (.inl ⟨rfl, rfl⟩)
  simp only [loop4, after4, body4, Try.f4, Option.getD_some] at hL
  refine Ev.still T rfl rfl (by decide) (fun w₁ h₁ K' hK' => ?_)
  go_simp
  refine hK' _ (T.read _ _ (fun e he => by have hm := mem_listed he; simp [go_sem] at hm)) ?_
  clear hK' K' h₁ w₁
  try walk_nrm
  refine Ev.still T rfl rfl (by decide) (fun w₁ h₁ K' hK' => ?_)
  go_simp
  refine hK' _ (T.read _ _ (fun e he => by have hm := mem_listed he; simp [go_sem] at hm)) ?_
  clear hK' K' h₁ w₁
  try walk_nrm
  refine Ev.still T rfl rfl (by decide) (fun w₁ h₁ K' hK' => ?_)
  go_simp
  refine hK' _ (T.read _ _ (fun e he => by have hm := mem_listed he; simp [go_sem] at hm)) ?_
  clear hK' K' h₁ w₁
  try walk_nrm
  refine Ev.still T rfl rfl (by decide) (fun w₁ h₁ K' hK' => ?_)
  go_simp
  refine hK' _ (T.read _ _ (fun e he => by have hm := mem_listed he; simp [go_sem] at hm)) ?_
  clear hK' K' h₁ w₁
  try walk_nrm
  refine Ev.still T rfl rfl (by decide) (fun w₁ h₁ K' hK' => ?_)
  go_simp
  refine hK' _ (T.read _ _ (fun e he => by have hm := mem_listed he; simp [go_sem] at hm)) ?_
  clear hK' K' h₁ w₁
  try walk_nrm
  refine Ev.regionEnd T ?_
  refine Ev.seq T ?_
  refine Ev.seq T ?_
  refine Ev.region T ?_
  simp only [List.size_toArray, List.length_cons, List.length_nil, Nat.reduceAdd, Nat.zero_add, List.range, List.range.loop]
  refine Ev.still T rfl rfl (by decide) (fun w₁ h₁ K' hK' => ?_)
  go_simp
  refine hK' _ (T.read _ _ (fun e he => by have hm := mem_listed he; simp [go_sem] at hm)) ?_
  clear hK' K' h₁ w₁
  try walk_nrm
  refine Ev.still T rfl rfl (by decide) (fun w₁ h₁ K' hK' => ?_)
  go_simp
  refine hK' _ (T.read _ _ (fun e he => by have hm := mem_listed he; simp [go_sem, ev_ptr] at hm)) ?_
  clear hK' K' h₁ w₁
  try walk_nrm
  refine Ev.regionEnd T ?_
  refine Ev.cond T false rfl ?_
  simp only [if_true, if_false, Bool.false_eq_true, ↓reduceIte]
  refine Ev.skip T ?_
  refine Ev.seq T ?_
  refine Ev.seq T ?_
  refine Ev.region T ?_
  simp only [List.size_toArray, List.length_cons, List.length_nil, Nat.reduceAdd, Nat.zero_add, List.range, List.range.loop]
  refine Ev.still T rfl rfl (by decide) (fun w₁ h₁ K' hK' => ?_)
  go_simp
  refine hK' _ (T.read _ _ (fun e he => by have hm := mem_listed he; simp [go_sem] at hm)) ?_
  clear hK' K' h₁ w₁
  try walk_nrm
  refine Ev.regionEnd T ?_
  refine Ev.block T ?_
  refine Ev.loop T ?_
  exact hL _ _ _ _ _ _ _ _ _ _ _ _ _ _ _ _ _ _ _ _ _ _ _ _ _ _ _ _ _ _ _ _ _ _ _ _ _ _ _ _ _ _ _ _ _ _ _ _ _ _ _ _ _ _ _ _ _ _ _ _ _ _ _ _ _ _ _ _ _ _ _ _ _ _ _ _ _ _ _ _ _ _ _ _
end Go.Proofs.Ytnbfmbkglkjhmaa
