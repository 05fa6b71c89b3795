import Derived.Test.YtnbfmbkglkjhmaaPmZh
set_option linter.unusedSimpArgs false
set_option linter.unusedVariables false
set_option linter.unusedSectionVars false
namespace Go.Proofs.Ytnbfmbkglkjhmaa
open Go.Conc Go.RowKit Go.Pmp

theorem owns_same {w w' : World} {bs : Nat} {e : TypeId} {size : Nat} {v : Value} {n : Nat} {xs : List Value} (h : w.ownsRow bs e size v n xs) (he : ∀ g, v.ownBlock = some g → w'.heap[g]? = w.heap[g]?) : w'.ownsRow bs e size v n xs := by
  refine ⟨h.1, h.2.imp id ?_⟩
  rintro ⟨g, cap, cur, rfl, h1, h2, h3⟩
  exact ⟨g, cap, cur, rfl, h1, (he g rfl).trans h2, h3⟩
/-- What was taken. -/
def vals (L : Nat → Int) (k : Nat) : List Value := (List.range k).map fun i => .int .i64 (L i)
theorem vals_len (L : Nat → Int) (k : Nat) : (vals L k).length = k := by simp [vals]
theorem vals_succ (L : Nat → Int) (k : Nat) : vals L k ++ [.int .i64 (L k)] = vals L (k + 1) := by simp [vals, List.range_succ]
theorem Moved.grown {K : PK} {ws w w' : World} {row : Option Nat} (h : Moved K ws w) (hg : w.grownBy w' row) (hr : ∀ g, row = some g → ws.heap.size ≤ g) : Moved K ws w' :=
  ⟨hg.tape.trans h.tape, hg.os.trans h.os, hg.output.trans h.output, Nat.le_trans h.size hg.size, fun k hk h1 h2 h3 h4 h5 => (hg.block k (Nat.lt_of_lt_of_le hk h.size) (fun e => by have := hr k e.symm; omega)).trans (h.block k hk h1 h2 h3 h4 h5)⟩
theorem Moved.rm {K : PK} {ws w w' : World} (h : Moved K ws w) (r : RMx K.Z K.ci K.cd w w') : Moved K ws w' := h.trans r.later.moved
theorem info3 : ∃ i, Try.prog.info? 3 = some i ∧ i.zero = some (.int .i64 0) ∧ i.size = 1 ∧ i.bytes = 8 := by
  have h : (Try.prog.info? 3).map (fun i => (i.zero, i.size, i.bytes)) = some (some (.int .i64 0), 1, 8) := by kernel_rfl
  obtain ⟨i, hi, hb⟩ := Option.map_eq_some_iff.1 h
  cases hz : i.zero <;> simp [hz] at hb
  exact ⟨i, hi, by rw [hz, hb.1], hb.2.1, hb.2.2⟩
noncomputable def loop16 : Code := match body16 with | .seq _ (.seq _ (.seq (.block _ (.loop c)) _)) => c | c => c
noncomputable def after16 : Code := match body16 with | .seq _ (.seq _ (.seq _ y)) => y | c => c
section
variable {B room : Nat} {sp : Option Addr} {ad : Addr} {len cap : Nat} {L : Nat → Int} {e : Int} (O : (rowK B room sp ad len cap L e).Ok (B + 6)) {Post : Value → World → Prop} {n : Nat} {b : Frame} {a : Act} {ops : Array Oper} {ii : Nat} {rest : List Nat} {kk : List Item} {cs0 : List Frame}
include O
set_option maxRecDepth 100000 in
set_option maxHeartbeats 4000000 in
theorem slice_loop (hlen : len ≤ 1000) (ws : World) (most : Int)
    (h1 : ∀ m w v bs k, (rowK B room sp ad len cap L e).Ok (B + 6) → ModeAt len m k (2 * (len - k) + 4) → WF (rowK B room sp ad len cap L e) (B + 6) m w → Moved (rowK B room sp ad len cap L e) ws w → B + 6 ≤ bs → ws.heap.size ≤ bs → w.ownsRow bs 3 1 v k (vals L k) → k ≤ len → (k : Int) = max most 0 →
      Can (rowK B room sp ad len cap L e) Post n m (G (b.at (a.put ((ops[ii]?).bind (·.dst)) v) (.inRegion ops rest :: kk)) cs0) w)
    (h2 : ∀ w v bs, (rowK B room sp ad len cap L e).Ok (B + 6) → WF (rowK B room sp ad len cap L e) (B + 6) (.over e) w → Moved (rowK B room sp ad len cap L e) ws w → B + 6 ≤ bs → ws.heap.size ≤ bs → w.ownsRow bs 3 1 v len (vals L len) → (len : Int) < most →
      Can (rowK B room sp ad len cap L e) Post n (.over e) (G (b.at (a.put ((ops[ii]?).bind (·.dst)) v) (.inRegion ops rest :: kk)) cs0) w) :
    ∀ (d k : Nat) (m : Mode) (w : World) (v : Value) (bs : Nat) (j6 j7 j8 j9 j10 j11 j12 j13 j14 j15 j16 j17 j18 j19 j20 j21 j22 : Value), k + d = len → ModeAt len m k (2 * (len - k) + 4) → WF (rowK B room sp ad len cap L e) (B + 6) m w → Moved (rowK B room sp ad len cap L e) ws w → B + 6 ≤ bs → ws.heap.size ≤ bs → bs ≤ w.heap.size → (∀ j vb f r, m = .beside j vb f r → vb < bs) → w.ownsRow bs 3 1 v k (vals L k) → (k = 0 → v = .slice none 0 0) → (k : Int) ≤ max most 0 →
      Can (rowK B room sp ad len cap L e) Post n m (G ((base 16).at ⟨#[.pointer (some ⟨B + 2, 0, none⟩), .int .i64 most, undef, undef, .slice none 0 0, v, j6, j7, j8, j9, j10, j11, j12, j13, j14, j15, j16, j17, j18, j19, j20, j21, j22, undef], []⟩ [.code loop16, .inLoop loop16, .inBlock 0, .code after16]) (b.at a (.inRegion ops (ii :: rest) :: kk) :: cs0)) w := by
  have rnd : ∀ (k : Nat) (m : Mode) (w : World) (v : Value) (bs : Nat) (j6 j7 j8 j9 j10 j11 j12 j13 j14 j15 j16 j17 j18 j19 j20 j21 j22 : Value), k ≤ len → ModeAt len m k (2 * (len - k) + 4) → WF (rowK B room sp ad len cap L e) (B + 6) m w → Moved (rowK B room sp ad len cap L e) ws w → B + 6 ≤ bs → ws.heap.size ≤ bs → bs ≤ w.heap.size → (∀ j vb f r, m = .beside j vb f r → vb < bs) → w.ownsRow bs 3 1 v k (vals L k) → (k = 0 → v = .slice none 0 0) → (k : Int) ≤ max most 0 →
      (k < len → ∀ (m' : Mode) (w' : World) (v' : Value) (bs' : Nat) (j6 j7 j8 j9 j10 j11 j12 j13 j14 j15 j16 j17 j18 j19 j20 j21 j22 : Value), ModeAt len m' (k + 1) (2 * (len - (k + 1)) + 4) → WF (rowK B room sp ad len cap L e) (B + 6) m' w' → Moved (rowK B room sp ad len cap L e) ws w' → B + 6 ≤ bs' → ws.heap.size ≤ bs' → bs' ≤ w'.heap.size → (∀ j vb f r, m' = .beside j vb f r → vb < bs') → w'.ownsRow bs' 3 1 v' (k + 1) (vals L (k + 1)) → (k + 1 = 0 → v' = .slice none 0 0) → ((k + 1 : Nat) : Int) ≤ max most 0 →
        Can (rowK B room sp ad len cap L e) Post n m' (G ((base 16).at ⟨#[.pointer (some ⟨B + 2, 0, none⟩), .int .i64 most, undef, undef, .slice none 0 0, v', j6, j7, j8, j9, j10, j11, j12, j13, j14, j15, j16, j17, j18, j19, j20, j21, j22, undef], []⟩ [.code loop16, .inLoop loop16, .inBlock 0, .code after16]) (b.at a (.inRegion ops (ii :: rest) :: kk) :: cs0)) w') →
      Can (rowK B room sp ad len cap L e) Post n m (G ((base 16).at ⟨#[.pointer (some ⟨B + 2, 0, none⟩), .int .i64 most, undef, undef, .slice none 0 0, v, j6, j7, j8, j9, j10, j11, j12, j13, j14, j15, j16, j17, j18, j19, j20, j21, j22, undef], []⟩ [.code loop16, .inLoop loop16, .inBlock 0, .code after16]) (b.at a (.inRegion ops (ii :: rest) :: kk) :: cs0)) w := by
    intro k m w v bs j6 j7 j8 j9 j10 j11 j12 j13 j14 j15 j16 j17 j18 j19 j20 j21 j22 hk hm hw hmv hb1 hb2 hb3 hb4 hown hnil hkm ih
    obtain ⟨vp, vc, rfl⟩ : ∃ vp vc, v = .slice vp k vc := by
      rcases hown.2 with ⟨h, h0⟩ | ⟨g, cp, cur, h, _⟩
      · subst h0; exact ⟨_, _, h⟩
      · exact ⟨_, _, h⟩
    obtain ⟨R0, Dq0, Ok0, St0, C0, N0, M0, hl0, hg0, hiff0, hR0, hC0⟩ := Can.open (Post := Post) (n := n) O hw
    refine (hiff0 _ _).2 ?_
    have T0 := M0.T
    have hO := O
    clear O
    simp only [loop16, after16, body16, Try.f16, Option.getD_some]
    by_cases hlt : (k : Int) < most
    · refine Ev.seq T0 ?_
      refine Ev.seq T0 ?_
      refine Ev.region T0 ?_
      simp only [List.size_toArray, List.length_cons, List.length_nil, Nat.reduceAdd, Nat.zero_add, List.range, List.range.loop]
      refine Ev.still T0 rfl rfl (by decide) (fun w₁ h₁ K' hK' => ?_)
      go_simp
      refine hK' _ (T0.read _ _ (fun e he => by have hm := mem_listed he; simp [go_sem] at hm)) ?_
      clear hK' K' h₁ w₁
      try walk_nrm
      refine Ev.still T0 rfl rfl (by decide) (fun w₁ h₁ K' hK' => ?_)
      go_simp
      refine hK' _ (T0.read _ _ (fun e he => by have hm := mem_listed he; simp [go_sem] at hm)) ?_
      clear hK' K' h₁ w₁
      try walk_nrm
      refine Ev.still T0 rfl rfl (by decide) (fun w₁ h₁ K' hK' => ?_)
      go_simp
      refine hK' _ (T0.read _ _ (fun e he => by have hm := mem_listed he; simp [go_sem] at hm)) ?_
      clear hK' K' h₁ w₁
      try walk_nrm
      refine Ev.still T0 rfl rfl (by decide) (fun w₁ h₁ K' hK' => ?_)
      go_simp
      refine hK' _ (T0.read _ _ (fun e he => by have hm := mem_listed he; simp [go_sem] at hm)) ?_
      clear hK' K' h₁ w₁
      try walk_nrm
      refine Ev.regionEnd T0 ?_
      refine Ev.cond T0 true (by simp [Act.eval, hlt]) ?_
      simp only [if_true, if_false, Bool.false_eq_true, ↓reduceIte]
      refine Ev.skip T0 ?_
      refine Ev.block T0 ?_
      refine Ev.seq T0 ?_
      refine Ev.region T0 ?_
      simp only [List.size_toArray, List.length_cons, List.length_nil, Nat.reduceAdd, Nat.zero_add, List.range, List.range.loop]
      refine Ev.still T0 rfl rfl (by decide) (fun w₁ h₁ K' hK' => ?_)
      go_simp
      refine hK' _ (T0.read _ _ (fun e he => by have hm := mem_listed he; simp [go_sem] at hm)) ?_
      clear hK' K' h₁ w₁
      try walk_nrm
      refine Ev.call T0 (f := 10) (fn := Try.f10) rfl rfl (by decide) rfl Try.func10 (by decide) f10_body ?_
      simp only [List.map_toArray, List.map_cons, List.map_nil]
      rw [args10]
      try walk_nrm
      refine (hiff0 _ _).1 ?_
      refine next_row hO hw (F := 2 * (len - k) + 2) hm hk (fun hkl m' w' hm' M' hw' hlk => ?_) (fun hkl w' M' hw' => ?_)
      · obtain ⟨R1, Dq1, Ok1, St1, C1, N1, M1, hl1, hg1, hiff1, hR1, hC1⟩ := Can.open (Post := Post) (n := n) hO hw'
        refine (hiff1 _ _).2 ?_
        have T1 := M1.T
        have hmv' := hmv.trans M'
        obtain ⟨bs', hb1', hb2', hb3', hb4', hown'⟩ : ∃ bs', B + 6 ≤ bs' ∧ ws.heap.size ≤ bs' ∧ bs' ≤ w'.heap.size ∧ (∀ j vb f r, m' = .beside j vb f r → vb < bs') ∧ w'.ownsRow bs' 3 1 (.slice vp k vc) k (vals L k) := by
          rcases hm with ⟨rfl, rfl⟩ | ⟨j, vb, rfl⟩
          · refine ⟨w'.heap.size, hw'.le hO, hmv'.size, Nat.le_refl _, fun j vb f r h => ?_, ?_⟩
            · subst h; exact hw'.2.2.1
            · rw [hnil rfl]; exact World.ownsRow_nil _ _ _ _
          · refine ⟨bs, hb1, hb2, Nat.le_trans hb3 M'.size, fun j' vb' f r h => ?_, owns_same hown fun g hg => ?_⟩
            · rcases hlk j' vb' f r h with ⟨h', _⟩ | ⟨f', r', h'⟩
              · cases h'
              · cases h'; exact hb4 _ _ _ _ rfl
            · have := hown.lt g hg
              exact M'.block g this.2 (by simp only [rowK]; omega) (by simp only [rowK]; omega) (by simp only [rowK]; omega) (by simp only [rowK]; omega) (fun h => h)
        have hnk : ∀ g, bs' ≤ g → ¬ (rowK B room sp ad len cap L e).Keep g := fun g hg hk => by have := hO.lt g hk; omega
        try walk_nrm
        refine Ev.still T1 rfl rfl (by decide) (fun w₁ h₁ K' hK' => ?_)
        go_simp
        refine hK' _ (T1.read _ _ (fun e he => by have hm := mem_listed he; simp [go_sem] at hm)) ?_
        clear hK' K' h₁ w₁
        try walk_nrm
        refine Ev.still T1 rfl rfl (by decide) (fun w₁ h₁ K' hK' => ?_)
        go_simp
        refine hK' _ (T1.read _ _ (fun e he => by have hm := mem_listed he; simp [go_sem] at hm)) ?_
        clear hK' K' h₁ w₁
        try walk_nrm
        refine Ev.still T1 rfl rfl (by decide) (fun w₁ h₁ K' hK' => ?_)
        go_simp
        refine hK' _ (T1.read _ _ (fun e he => by have hm := mem_listed he; simp [go_sem] at hm)) ?_
        clear hK' K' h₁ w₁
        try walk_nrm
        refine Ev.still T1 rfl rfl (by decide) (fun w₁ h₁ K' hK' => ?_)
        go_simp
        refine hK' _ (T1.read _ _ (fun e he => by have hm := mem_listed he; simp [go_sem] at hm)) ?_
        clear hK' K' h₁ w₁
        try walk_nrm
        refine Ev.still T1 rfl rfl (by decide) (fun w₁ h₁ K' hK' => ?_)
        go_simp
        refine hK' _ (T1.read _ _ (fun e he => by have hm := mem_listed he; simp [go_sem] at hm)) ?_
        clear hK' K' h₁ w₁
        try walk_nrm
        refine Ev.regionEnd T1 ?_
        refine Ev.seq T1 ?_
        refine Ev.seq T1 ?_
        refine Ev.region T1 ?_
        simp only [List.size_toArray, List.length_cons, List.length_nil, Nat.reduceAdd, Nat.zero_add, List.range, List.range.loop]
        refine Ev.still T1 rfl rfl (by decide) (fun w₁ h₁ K' hK' => ?_)
        go_simp
        refine hK' _ (T1.read _ _ (fun e he => by have hm := mem_listed he; simp [go_sem] at hm)) ?_
        clear hK' K' h₁ w₁
        try walk_nrm
        refine Ev.still T1 rfl rfl (by decide) (fun w₁ h₁ K' hK' => ?_)
        go_simp
        refine hK' _ (T1.read _ _ (fun e he => by have hm := mem_listed he; simp [go_sem] at hm)) ?_
        clear hK' K' h₁ w₁
        try walk_nrm
        refine Ev.regionEnd T1 ?_
        refine Ev.cond T1 false rfl ?_
        simp only [if_true, if_false, Bool.false_eq_true, ↓reduceIte]
        refine Ev.skip T1 ?_
        refine Ev.region T1 ?_
        simp only [List.size_toArray, List.length_cons, List.length_nil, Nat.reduceAdd, Nat.zero_add, List.range, List.range.loop]
        refine Ev.still T1 rfl rfl (by decide) (fun w₁ h₁ K' hK' => ?_)
        go_simp
        refine hK' _ (T1.read _ _ (fun e he => by have hm := mem_listed he; simp [go_sem] at hm)) ?_
        clear hK' K' h₁ w₁
        try walk_nrm
        refine Ev.still T1 rfl rfl (by decide) (fun w₁ h₁ K' hK' => ?_)
        go_simp
        refine hK' _ (T1.read _ _ (fun e he => by have hm := mem_listed he; simp [go_sem] at hm)) ?_
        clear hK' K' h₁ w₁
        try walk_nrm
        refine Ev.turn rfl rfl (by decide) (fun w₁ h₁ K' hK' => ?_)
        have r1 := M1.rm _ _ h₁
        go_simp
        have hs1 : w₁.heap.size = w'.heap.size := r1.size
        refine hK' _ _ (M1.alloc _ _ _ (by omega) (fun e he => by have hm := mem_listed he; simp [go_sem] at hm)) ?_
        clear hK' K'
        try walk_nrm
        have hw1 := (hR1 _ _ h₁ hw').alloc hO (.cells #[.int .i64 (L k)] 3)
        have hmv1 := (hmv'.rm r1).trans (Moved.alloc _ (.cells #[.int .i64 (L k)] 3))
        have hown1 := ((owns_same hown' fun g hg => r1.block g (by have := hown'.lt g hg; simp only [rowK]; omega) (by have := hown'.lt g hg; simp only [rowK]; omega) (fun h => h)).alloc (.cells #[.int .i64 (L k)] 3))
        have hnew : (w₁.alloc (.cells #[.int .i64 (L k)] 3)).cell? ⟨w₁.heap.size, 0, none⟩ = some (.int .i64 (L k)) := by
          rw [World.cell?_alloc_at _ _ _ _ rfl]; rfl
        have hss : (w₁.alloc (.cells #[.int .i64 (L k)] 3)).heap.size = w₁.heap.size + 1 := by simp
        refine Ev.turn rfl rfl (by decide) (fun w₂ h₂ K' hK' => ?_)
        have r2 := M1.rm _ _ h₂
        have hs2 : w₂.heap.size = w₁.heap.size + 1 := r2.size.trans hss
        have hw2 := hR1 _ _ h₂ hw1
        have hmv2 := hmv1.rm r2
        have hown2 := owns_same hown1 fun g hg => r2.block g (by have := hown1.lt g hg; simp only [rowK]; omega) (by have := hown1.lt g hg; simp only [rowK]; omega) (fun h => h)
        have hnew2 : w₂.cell? ⟨w₁.heap.size, 0, none⟩ = some (.int .i64 (L k)) := (cell_of_block (r2.block _ (by simp only [rowK]; omega) (by simp only [rowK]; omega) (fun h => h))).trans hnew
        obtain ⟨i0, hi, hz0, hz1, hz2⟩ := info3
        have hnews : ∀ j u, [Value.int .i64 (L k)][j]? = some u → w₂.cell? ((⟨w₁.heap.size, 0, none⟩ : Addr).add j) = some u := by
          intro j u hj
          match j, hj with
          | 0, hj => simp at hj; subst hj; simpa [Addr.add] using hnew2
        have ho1 : ∀ u ∈ [Value.int .i64 (L k)], u.oneCell' = true := by intro u hu; simp at hu; subst hu; rfl
        have h63 : k + 1 ≤ maxLen := by simp only [maxLen]; omega
        obtain ⟨out', w₃, hr, hown', hgrow, _⟩ := run_append_own (P := Try.prog) w₂ bs' 22 22 3 i0 (.int .i64 0) 1 8 Try.underlying22 hi hz0 hz1 hz2 rfl (by decide) (.slice vp k vc) k (vals L k) hown2 ⟨w₁.heap.size, 0, none⟩ 1 1 [.int .i64 (L k)] rfl hnews ho1 h63 (by omega) (by omega)
        have hevs := events_append_where (P := Try.prog) w₂ bs' 22 22 3 i0 (.int .i64 0) 1 8 Try.underlying22 hi hz0 hz1 hz2 (.slice vp k vc) k (vals L k) hown2 ⟨w₁.heap.size, 0, none⟩ 1 1 [.int .i64 (L k)] rfl hnews ho1 h63 (by omega)
        have hgb : ∀ g, (Value.slice vp k vc).ownBlock = some g → bs' ≤ g ∧ g < w₂.heap.size := fun g hg => hown2.lt g hg
        have hfr : ∀ g, bs' ≤ g → ∀ a, C1 a → a.block ≠ g := fun g hg a ha hh => by
          rcases hC1 a ha with h | ⟨j, vb, f, r, h, h'⟩
          · exact hnk g hg (hh ▸ h)
          · have := hb4' _ _ _ _ h; omega
        refine uponK_append (.tmp 19) (.tmp 21) 22 rfl rfl rfl hr (hK' _ _ (M1.grow _ _ _ _ (by omega) hgrow (fun g hg => ⟨by have := hgb g hg; simp only [rowK]; omega, by have := hgb g hg; simp only [rowK]; omega, by have := hgb g hg; simp only [rowK]; omega, fun h => h, hfr g (hgb g hg).1⟩) (fun e he => ?_)) ?_)
        · have hm := mem_listed he
          rw [events_append_op (.tmp 19) (.tmp 21) 22 rfl rfl rfl] at hm
          rcases hevs e hm with ⟨x, h2, h3⟩ | ⟨m, rfl, hn⟩
          · obtain ⟨loc, wr, sy⟩ := e
            cases h2
            refine M1.acc x wr sy (fun h => h) fun hwr hx => ?_
            rcases h3 with ⟨h4, _⟩ | h4
            · exact absurd (hwr.symm.trans h4) (by simp)
            · exact hfr x.block (hgb _ h4.symm).1 x hx rfl
          · exact M1.mark m hn
        clear hK' K'
        try walk_nrm
        refine Ev.still T1 rfl rfl (by decide) (fun w₁ h₁ K' hK' => ?_)
        go_simp
        refine hK' _ (T1.read _ _ (fun e he => by have hm := mem_listed he; simp [go_sem] at hm)) ?_
        clear hK' K' h₁ w₁
        try walk_nrm
        refine Ev.regionEnd T1 ?_
        refine Ev.inBlock T1 ?_
        refine Ev.inLoop T1 ?_
        have hs3 := hgrow.size
        have hFF : 2 * (len - k) + 2 = 2 * (len - (k + 1)) + 4 := by omega
        rw [hFF] at hm'
        have hfin := fun (j6 j7 j8 j9 j10 j11 j12 j13 j14 j15 j16 j17 j18 j19 j20 j21 j22 : Value) => ih hkl m' w₃ out' bs' j6 j7 j8 j9 j10 j11 j12 j13 j14 j15 j16 j17 j18 j19 j20 j21 j22 hm' (hw2.kept hO hs3 fun x hx => hgrow.block x (Nat.lt_of_lt_of_le (hO.lt x hx) (hw2.le hO)) (fun e => hnk x (hgb x e.symm).1 hx)) (hmv2.grown hgrow fun g hg => by have := hgb g hg; omega) hb1' hb2' (by omega) hb4' (by rw [← vals_succ]; exact hown') (fun h => by omega) (by omega)
        refine (hiff1 _ _).1 ?_
        simp only [loop16, after16, body16, Try.f16, Option.getD_some] at hfin
        exact hfin _ _ _ _ _ _ _ _ _ _ _ _ _ _ _ _ _
      · obtain ⟨R1, Dq1, Ok1, St1, C1, N1, M1, hl1, hg1, hiff1, hR1, hC1⟩ := Can.open (Post := Post) (n := n) hO hw'
        refine (hiff1 _ _).2 ?_
        have T1 := M1.T
        try walk_nrm
        refine Ev.still T1 rfl rfl (by decide) (fun w₁ h₁ K' hK' => ?_)
        go_simp
        refine hK' _ (T1.read _ _ (fun e he => by have hm := mem_listed he; simp [go_sem] at hm)) ?_
        clear hK' K' h₁ w₁
        try walk_nrm
        refine Ev.still T1 rfl rfl (by decide) (fun w₁ h₁ K' hK' => ?_)
        go_simp
        refine hK' _ (T1.read _ _ (fun e he => by have hm := mem_listed he; simp [go_sem] at hm)) ?_
        clear hK' K' h₁ w₁
        try walk_nrm
        refine Ev.still T1 rfl rfl (by decide) (fun w₁ h₁ K' hK' => ?_)
        go_simp
        refine hK' _ (T1.read _ _ (fun e he => by have hm := mem_listed he; simp [go_sem] at hm)) ?_
        clear hK' K' h₁ w₁
        try walk_nrm
        refine Ev.still T1 rfl rfl (by decide) (fun w₁ h₁ K' hK' => ?_)
        go_simp
        refine hK' _ (T1.read _ _ (fun e he => by have hm := mem_listed he; simp [go_sem] at hm)) ?_
        clear hK' K' h₁ w₁
        try walk_nrm
        refine Ev.still T1 rfl rfl (by decide) (fun w₁ h₁ K' hK' => ?_)
        go_simp
        refine hK' _ (T1.read _ _ (fun e he => by have hm := mem_listed he; simp [go_sem] at hm)) ?_
        clear hK' K' h₁ w₁
        try walk_nrm
        refine Ev.regionEnd T1 ?_
        refine Ev.seq T1 ?_
        refine Ev.seq T1 ?_
        refine Ev.region T1 ?_
        simp only [List.size_toArray, List.length_cons, List.length_nil, Nat.reduceAdd, Nat.zero_add, List.range, List.range.loop]
        refine Ev.still T1 rfl rfl (by decide) (fun w₁ h₁ K' hK' => ?_)
        go_simp
        refine hK' _ (T1.read _ _ (fun e he => by have hm := mem_listed he; simp [go_sem] at hm)) ?_
        clear hK' K' h₁ w₁
        try walk_nrm
        refine Ev.still T1 rfl rfl (by decide) (fun w₁ h₁ K' hK' => ?_)
        go_simp
        refine hK' _ (T1.read _ _ (fun e he => by have hm := mem_listed he; simp [go_sem] at hm)) ?_
        clear hK' K' h₁ w₁
        try walk_nrm
        refine Ev.regionEnd T1 ?_
        refine Ev.cond T1 true rfl ?_
        simp only [if_true, if_false, Bool.false_eq_true, ↓reduceIte]
        refine Ev.exit T1 rfl ?_
        refine Ev.seq T1 ?_
        refine Ev.region T1 ?_
        simp only [List.size_toArray, List.length_cons, List.length_nil, Nat.reduceAdd, Nat.zero_add, List.range, List.range.loop]
        refine Ev.still T1 rfl rfl (by decide) (fun w₁ h₁ K' hK' => ?_)
        go_simp
        refine hK' _ (T1.read _ _ (fun e he => by have hm := mem_listed he; simp [go_sem] at hm)) ?_
        clear hK' K' h₁ w₁
        try walk_nrm
        refine Ev.still T1 rfl rfl (by decide) (fun w₁ h₁ K' hK' => ?_)
        go_simp
        refine hK' _ (T1.read _ _ (fun e he => by have hm := mem_listed he; simp [go_sem] at hm)) ?_
        clear hK' K' h₁ w₁
        try walk_nrm
        refine Ev.regionEnd T1 ?_
        refine Ev.ret T1 ?_
        refine Ev.leave1 T1 (fn := Try.f16) rfl rfl Try.func16 rfl ?_
        try walk_nrm
        refine (hiff1 _ _).1 ?_
        subst hkl
        have hbs := Nat.le_trans hb3 M'.size
        exact h2 w' _ bs hO hw' (hmv.trans M') hb1 hb2 (owns_same hown fun g hg => by have := hown.lt g hg; exact M'.block g this.2 (by simp only [rowK]; omega) (by simp only [rowK]; omega) (by simp only [rowK]; omega) (by simp only [rowK]; omega) (fun h => h)) hlt
    · refine Ev.seq T0 ?_
      refine Ev.seq T0 ?_
      refine Ev.region T0 ?_
      simp only [List.size_toArray, List.length_cons, List.length_nil, Nat.reduceAdd, Nat.zero_add, List.range, List.range.loop]
      refine Ev.still T0 rfl rfl (by decide) (fun w₁ h₁ K' hK' => ?_)
      go_simp
      refine hK' _ (T0.read _ _ (fun e he => by have hm := mem_listed he; simp [go_sem] at hm)) ?_
      clear hK' K' h₁ w₁
      try walk_nrm
      refine Ev.still T0 rfl rfl (by decide) (fun w₁ h₁ K' hK' => ?_)
      go_simp
      refine hK' _ (T0.read _ _ (fun e he => by have hm := mem_listed he; simp [go_sem] at hm)) ?_
      clear hK' K' h₁ w₁
      try walk_nrm
      refine Ev.still T0 rfl rfl (by decide) (fun w₁ h₁ K' hK' => ?_)
      go_simp
      refine hK' _ (T0.read _ _ (fun e he => by have hm := mem_listed he; simp [go_sem] at hm)) ?_
      clear hK' K' h₁ w₁
      try walk_nrm
      refine Ev.still T0 rfl rfl (by decide) (fun w₁ h₁ K' hK' => ?_)
      go_simp
      refine hK' _ (T0.read _ _ (fun e he => by have hm := mem_listed he; simp [go_sem] at hm)) ?_
      clear hK' K' h₁ w₁
      try walk_nrm
      refine Ev.regionEnd T0 ?_
      refine Ev.cond T0 false (by simp [Act.eval, hlt]) ?_
      simp only [if_true, if_false, Bool.false_eq_true, ↓reduceIte]
      refine Ev.exit T0 rfl ?_
      refine Ev.seq T0 ?_
      refine Ev.region T0 ?_
      simp only [List.size_toArray, List.length_cons, List.length_nil, Nat.reduceAdd, Nat.zero_add, List.range, List.range.loop]
      refine Ev.still T0 rfl rfl (by decide) (fun w₁ h₁ K' hK' => ?_)
      go_simp
      refine hK' _ (T0.read _ _ (fun e he => by have hm := mem_listed he; simp [go_sem] at hm)) ?_
      clear hK' K' h₁ w₁
      try walk_nrm
      refine Ev.still T0 rfl rfl (by decide) (fun w₁ h₁ K' hK' => ?_)
      go_simp
      refine hK' _ (T0.read _ _ (fun e he => by have hm := mem_listed he; simp [go_sem] at hm)) ?_
      clear hK' K' h₁ w₁
      try walk_nrm
      refine Ev.regionEnd T0 ?_
      refine Ev.ret T0 ?_
      refine Ev.leave1 T0 (fn := Try.f16) rfl rfl Try.func16 rfl ?_
      try walk_nrm
      refine (hiff0 _ _).1 ?_
      exact h1 m w _ bs k hO hm hw hmv hb1 hb2 hown hk (by omega)
  intro d
  induction d with
  | zero =>
    intro k m w v bs j6 j7 j8 j9 j10 j11 j12 j13 j14 j15 j16 j17 j18 j19 j20 j21 j22 hkd hm hw hmv hb1 hb2 hb3 hb4 hown hnil hkm
    exact rnd k m w v bs j6 j7 j8 j9 j10 j11 j12 j13 j14 j15 j16 j17 j18 j19 j20 j21 j22 (by omega) hm hw hmv hb1 hb2 hb3 hb4 hown hnil hkm (fun h => by omega)
  | succ d ih =>
    intro k m w v bs j6 j7 j8 j9 j10 j11 j12 j13 j14 j15 j16 j17 j18 j19 j20 j21 j22 hkd hm hw hmv hb1 hb2 hb3 hb4 hown hnil hkm
    exact rnd k m w v bs j6 j7 j8 j9 j10 j11 j12 j13 j14 j15 j16 j17 j18 j19 j20 j21 j22 (by omega) hm hw hmv hb1 hb2 hb3 hb4 hown hnil hkm (fun h m' w' v' bs' j6 j7 j8 j9 j10 j11 j12 j13 j14 j15 j16 j17 j18 j19 j20 j21 j22 => ih (k + 1) m' w' v' bs' j6 j7 j8 j9 j10 j11 j12 j13 j14 j15 j16 j17 j18 j19 j20 j21 j22 (by omega))
end
end Go.Proofs.Ytnbfmbkglkjhmaa
