import Derived.Test.YtnbfmbkglkjhmaaPmX
set_option linter.unusedSimpArgs false
set_option linter.unusedVariables false
set_option linter.unusedSectionVars false
namespace Go.Proofs.Ytnbfmbkglkjhmaa
open Go.Conc Go.RowKit Go.Pmp

noncomputable abbrev ent10 (pb : Nat) : Frame := (base 10).at ⟨#[.pointer (some ⟨pb, 0, none⟩), undef, undef, undef, undef, undef, undef, undef, undef, undef, undef, undef, undef, undef, undef, undef, undef, undef, undef, undef, undef, undef, undef, undef, undef, undef, undef, undef, undef], []⟩ [.code body10]
noncomputable abbrev ent12 (pb : Nat) : Frame := (base 12).at ⟨#[.pointer (some ⟨pb, 0, none⟩), undef, undef, undef, undef, undef, undef, undef, undef, undef, undef, undef, undef, undef, undef, undef, undef, undef, undef], []⟩ [.code body12]
noncomputable abbrev ent13 (pb : Nat) : Frame := (base 13).at ⟨#[.pointer (some ⟨pb, 0, none⟩), undef, undef, undef, undef, undef, undef, undef, undef, undef, undef, undef, undef, undef, undef, undef, undef], []⟩ [.code body13]

section
variable {K : PK} {N : Nat} (O : K.Ok N) {Post : Value → World → Prop} {n : Nat} {b : Frame} {a : Act} {ops : Array Oper} {ii : Nat} {rest : List Nat} {kk : List Item} {cs0 : List Frame} {w : World}
include O
/-- The last word is laid down. -/
theorem WF.fin {w₂ : World} {e : Int} {vb : Nat} {i : Nat} {st : Bool} (hv : N ≤ vb) (hN : N ≤ w₂.heap.size) (h5 : w₂.cell? ⟨K.pb, 5, none⟩ = some (.bool true)) (h6 : ∃ t, w₂.cell? ⟨K.pb, 6, none⟩ = some t) (hz : ∀ n, n < 7 → w₂.frozen? ⟨K.pb, n, none⟩ = false) (hE : K.End i st (.int .i64 e) w₂) (d : Nat) :
    WF K N (.over e) ((w₂.at d).setCell ⟨K.pb, 6, none⟩ (.int .i64 e)) ∧ K.End i st (.int .i64 e) ((w₂.at d).setCell ⟨K.pb, 6, none⟩ (.int .i64 e)) := by
  have hE' : K.End i st (.int .i64 e) (w₂.at d) := O.hE vb i st _ w₂ _ hv ⟨fun _ _ => rfl, fun _ _ => rfl⟩ hE
  have hN' : N ≤ (w₂.at d).heap.size := hN
  refine ⟨⟨by simpa [World.setCell] using hN', ?_, ?_, fun n hn => ?_⟩, O.hE vb i st _ _ _ hv ⟨fun x hx => ?_, fun x hx => World.frozen?_setCell _ _ _ _⟩ hE'⟩
  · rw [World.cell?_setCell_other _ _ _ _ (by simp)]; exact h5
  · obtain ⟨t, ht⟩ := h6
    exact World.cell?_setCell_same _ _ _ (u := t) ht
  · rw [World.frozen?_setCell]; exact hz n hn
  · show ((w₂.at d).setCell _ _).cell? x = (w₂.at d).cell? x
    refine World.cell?_setCell_other _ _ _ _ ?_
    rintro rfl
    rcases hx with hx | hx
    · exact O.c5 vb 6 hv (by omega) hx
    · exact O.hpz hx
omit O in
theorem cells_rm {Z : Nat → Prop} {pb ci cd : Nat} {w w' : World} (h : RMx Z ci cd w w') (hpi : pb ≠ ci) (hpd : pb ≠ cd) (hpz : ¬ Z pb) (n : Nat) : w'.cell? ⟨pb, n, none⟩ = w.cell? ⟨pb, n, none⟩ ∧ w'.frozen? ⟨pb, n, none⟩ = w.frozen? ⟨pb, n, none⟩ :=
  ⟨cell_of_block (h.block pb hpi hpd hpz), froz_of_block (h.block pb hpi hpd hpz)⟩
/-- Behind the last word. -/
theorem over_of {w₀ w₁ w₂ : World} {e : Value} {vb i : Nat} {st : Bool} (hv : N ≤ vb) (hN : N ≤ w₀.heap.size) (h0 : PB K.pb K.ci K.cs K.cd true w₀) (r1 : RMx K.Z K.ci K.cd w₀ w₁) (r2 : RMx K.Z K.ci K.cd (w₁.setCell ⟨K.pb, 5, none⟩ (.bool true)) w₂) (hE : K.End i st e w₂) (d : Nat) :
    ∃ x, e = .int .i64 x ∧ WF K N (.over x) ((w₂.at d).setCell ⟨K.pb, 6, none⟩ e) ∧ K.End i st e ((w₂.at d).setCell ⟨K.pb, 6, none⟩ e) ∧ Moved K w₀ ((w₂.at d).setCell ⟨K.pb, 6, none⟩ e) := by
  obtain ⟨x, rfl⟩ := O.hEI _ _ _ _ hE
  have c1 := fun n => cells_rm r1 O.hpi O.hpd O.hpz n
  have c2 := fun n => cells_rm r2 O.hpi O.hpd O.hpz n
  have hs : w₂.heap.size = w₀.heap.size := by rw [r2.size]; simp [World.setCell, r1.size]
  obtain ⟨q1, q2⟩ := WF.fin O hv (by omega) ((c2 5).1.trans (World.cell?_setCell_same _ _ _ ((c1 5).1.trans h0.o)))
    ⟨.int .i64 0, by rw [(c2 6).1, World.cell?_setCell_other _ _ _ _ (by simp), (c1 6).1]; exact h0.t⟩ (fun n hn => by rw [(c2 n).2, World.frozen?_setCell, (c1 n).2]; exact h0.z n hn) hE d
  exact ⟨x, rfl, q1, q2, ((((r1.later).moved (K := K)).trans (Moved.set _ _ _)).trans ((r2.later).moved)).trans ((Moved.at _ d).trans (Moved.set _ _ _))⟩

theorem next_beside {j vb k r : Nat} (h : WF K N (.beside j vb (k + 2) r) w) (htop : r < K.top)
    (h1 : ∀ w', Moved K w w' → WF K N (.beside j vb k (r + 1)) w' → K.Q r → Can K Post n (.beside j vb k (r + 1)) (G (b.at (a.put ((ops[ii]?).bind (·.dst)) (.tuple #[K.f r, .bool true])) (.inRegion ops rest :: kk)) cs0) w')
    (h2 : ∀ w' e, Moved K w w' → WF K N (.over e) w' → K.End r false (.int .i64 e) w' → Can K Post n (.over e) (G (b.at (a.put ((ops[ii]?).bind (·.dst)) (.tuple #[.int .i64 0, .bool false])) (.inRegion ops rest :: kk)) cs0) w') :
    Can K Post n (.beside j vb (k + 2) r) (G (ent10 K.pb) (b.at a (.inRegion ops (ii :: rest) :: kk) :: cs0)) w := by
  obtain ⟨hj, hv, hs, hb⟩ := h
  have hN : N ≤ w.heap.size := by omega
  refine next_ms (k := k + 1) (O.env hj hv) (O.main hj hv).toMain (by have := O.lt _ O.ki; omega) (by have := O.lt _ O.kd; omega) (by have := O.lt _ O.kp; omega) O.hpz O.hpi O.hps O.hpd (O.c5 vb 5 hv (by omega)) O.hEI htop (by omega) hb.p hb.b (hb.z 4 (by omega)) hb.o (hb.z 5 (by omega)) hb.z hb.t ?_ ?_
  · intro w' L hQ
    exact h1 w' L.moved ⟨hj, hv, Nat.lt_of_lt_of_le hs L.size, hb.same (L.block _ (by have := O.lt _ O.kp; omega) O.hpi O.hpd O.hpz)⟩ hQ
  · intro w₀ w₁ w₂ i st e L r1 r2 hi hst hE d
    subst hi hst
    obtain ⟨x, rfl, q1, q2, q3⟩ := over_of O hv (Nat.le_trans hN L.size) (hb.same (L.block _ (by have := O.lt _ O.kp; omega) O.hpi O.hpd O.hpz)) r1 r2 hE d
    exact h2 _ x (L.moved.trans q3) q1 q2

theorem stop_beside {j vb k r : Nat} (h : WF K N (.beside j vb (k + 2) r) w)
    (h2 : ∀ w' e i st, Moved K w w' → WF K N (.over e) w' → r ≤ i → i ≤ r + K.room → K.End i st (.int .i64 e) w' → Can K Post n (.over e) (G (b.at (a.put ((ops[ii]?).bind (·.dst)) (.int .i64 0)) (.inRegion ops rest :: kk)) cs0) w') :
    Can K Post n (.beside j vb (k + 2) r) (G (ent12 K.pb) (b.at a (.inRegion ops (ii :: rest) :: kk) :: cs0)) w := by
  obtain ⟨hj, hv, hs, hb⟩ := h
  have hN : N ≤ w.heap.size := by omega
  refine stop_ms (k := k + 1) (O.env hj hv) (O.main hj hv).toMain (by have := O.lt _ O.ki; omega) (by have := O.lt _ O.kd; omega) (by have := O.lt _ O.kp; omega) O.hpz O.hpi O.hps O.hpd (O.c5 vb 5 hv (by omega)) O.hEI (by omega) hb.p hb.b (hb.z 4 (by omega)) hb.o hb.z hb.t ?_
  intro w₀ w₁ w₂ i st e L r1 r2 h3 h4 hE d
  have hb0 : PB K.pb K.ci K.cs K.cd true (w₀.setChan K.cs 0 #[] true 0 0 false) := hb.same ((heap_setChan_ne w₀ _ _ _ _ _ _ (Ne.symm O.hps)).trans (L.block _ (by have := O.lt _ O.kp; omega) O.hpi O.hpd O.hpz))
  obtain ⟨x, rfl, q1, q2, q3⟩ := over_of O hv (by have := L.size; simp [World.setChan]; omega) hb0 r1 r2 hE d
  exact h2 _ x i st ((L.moved.trans (Moved.chanS _ _ _ _ _ _ _)).trans q3) q1 h3 h4 q2

/-- From where begin stands alone to the go statement, and on beside the maker. -/
theorem go_fresh {b₁ : Frame} {a₁ : Act} {ops₁ : Array Oper} {kk₁ : List Item} {cs₁ : List Frame} (h : WF K N .fresh w) (km : Nat)
    (hc : ∀ j w', j ≠ 0 → Moved K w w' → w.heap.size < w'.heap.size → PB K.pb K.ci K.cs K.cd true w' → MS (K.env j w.heap.size) (Ev Try.prog true AtRel D1 (StopL Post n)) (km + 1) 0 false false (G (b₁.at (a₁.put ((ops₁[1]?).bind (·.dst)) (.tuple #[])) (.inRegion ops₁ [] :: kk₁)) cs₁) w') :
    Ev Try.prog true AtRel D1 (StopL Post (n + 1)) (G ((base 19).at ⟨#[.pointer (some ⟨K.pb, 0, none⟩), undef, undef, undef, undef, undef, undef, undef, undef, undef], []⟩ [.code body19]) (b₁.at a₁ (.inRegion ops₁ [1] :: kk₁) :: cs₁)) w := by
  obtain ⟨h1, h2, h3, h4, h5, h6⟩ := h
  have hpb : K.pb < w.heap.size := Nat.lt_of_lt_of_le (O.lt _ O.kp) h1
  have hk : ∀ k, K.Keep k → k < w.heap.size := fun k hk => Nat.lt_of_lt_of_le (O.lt _ hk) h1
  refine Ev.mono (begin_go (ii := 1) (rest := []) hpb h2.b (h2.z 4 (by omega))) fun g W hAt => .inr ?_
  obtain ⟨hrun, a', child, hgo, ⟨d, d', rfl⟩, rfl, hcont⟩ := hAt
  refine ⟨hrun, a', _, hgo, fun j hj => ?_⟩
  obtain ⟨kp, hkp⟩ := O.born j w hj h1 h2 h6 d d'
  refine ⟨K.Z, K.top, K.ci, K.cs, K.cd, K.room, K.f, K.Q, K.End, K.C w.heap.size, km + 1, kp, O.env hj h1, ?_, ?_, ?_, ?_, hkp⟩
  · rw [goW_block _ _ _ _ (hk _ O.ki) (Ne.symm O.hpi)]; exact h3
  · rw [goW_block _ _ _ _ (hk _ O.ks) (Ne.symm O.hps)]; exact h4
  · rw [goW_block _ _ _ _ (hk _ O.kd) (Ne.symm O.hpd)]; exact h5
  · exact MS_Ev (hcont _ _ _ _ _ (O.env hj h1).quietM (MS_of (hc j _ hj (goW_moved d d' w) (by rw [goW_size]; omega) (goW_pb O d d' h1 h2))))

theorem next_fresh (h : WF K N .fresh w) (k : Nat)
    (h1 : ∀ j w', Moved K w w' → WF K N (.beside j w.heap.size k 1) w' → K.Q 0 → Can K Post n (.beside j w.heap.size k 1) (G (b.at (a.put ((ops[ii]?).bind (·.dst)) (.tuple #[K.f 0, .bool true])) (.inRegion ops rest :: kk)) cs0) w')
    (h2 : ∀ w' e, Moved K w w' → WF K N (.over e) w' → K.End 0 false (.int .i64 e) w' → Can K Post n (.over e) (G (b.at (a.put ((ops[ii]?).bind (·.dst)) (.tuple #[.int .i64 0, .bool false])) (.inRegion ops rest :: kk)) cs0) w') :
    Can K Post n .fresh (G (ent10 K.pb) (b.at a (.inRegion ops (ii :: rest) :: kk) :: cs0)) w := by
  have hf := h
  obtain ⟨g1, g2, g3, g4, g5, g6⟩ := h
  have hpb : K.pb < w.heap.size := Nat.lt_of_lt_of_le (O.lt _ O.kp) g1
  refine next_head quiet1 (fun n => by simp [Ev1]) (fun w₁ ⟨d, e⟩ => by subst e; exact ⟨g2.o, g2.z 5 (by omega)⟩) ?_
  refine go_fresh O hf (k + 2) fun j w' hj M hlt hb => ?_
  refine next_tail (k := k + 1) (O.env hj g1) (O.main hj g1).toMain O.hpz O.hpi O.hps O.hpd (O.c5 _ 5 g1 (by omega)) O.hEI O.htop (by omega) hb.p hb.o hb.z hb.t ?_ ?_
  · intro w'' L hQ
    exact h1 j w'' (M.trans L.moved) ⟨hj, g1, Nat.lt_of_lt_of_le hlt L.size, hb.same (L.block _ (by omega) O.hpi O.hpd O.hpz)⟩ hQ
  · intro w₀ w₁ w₂ i st e L r1 r2 hi hst hE d
    subst hi hst
    obtain ⟨x, rfl, q1, q2, q3⟩ := over_of O g1 (by have := L.size; omega) (hb.same (L.block _ (by omega) O.hpi O.hpd O.hpz)) r1 r2 hE d
    exact h2 _ x (M.trans (L.moved.trans q3)) q1 q2

theorem stop_fresh (h : WF K N .fresh w)
    (h2 : ∀ w' e i st, Moved K w w' → WF K N (.over e) w' → i ≤ K.room → K.End i st (.int .i64 e) w' → Can K Post n (.over e) (G (b.at (a.put ((ops[ii]?).bind (·.dst)) (.int .i64 0)) (.inRegion ops rest :: kk)) cs0) w') :
    Can K Post n .fresh (G (ent12 K.pb) (b.at a (.inRegion ops (ii :: rest) :: kk) :: cs0)) w := by
  have hf := h
  obtain ⟨g1, g2, g3, g4, g5, g6⟩ := h
  have hpb : K.pb < w.heap.size := Nat.lt_of_lt_of_le (O.lt _ O.kp) g1
  refine stop_head quiet1 (fun n => by simp [Ev1]) (fun w₁ ⟨d, e⟩ => by subst e; exact ⟨g2.o, g2.z 5 (by omega)⟩) ?_
  refine go_fresh O hf 1 fun j w' hj M hlt hb => ?_
  refine stop_tail (k := 0) (O.env hj g1) (O.main hj g1).toMain O.hpz O.hpi O.hps O.hpd (O.c5 _ 5 g1 (by omega)) O.hEI (by omega) hb.p hb.o hb.z hb.t ?_
  intro w₀ w₁ w₂ i st e L r1 r2 h3 h4 hE d
  have hb0 : PB K.pb K.ci K.cs K.cd true (w₀.setChan K.cs 0 #[] true 0 0 false) := hb.same ((heap_setChan_ne w₀ _ _ _ _ _ _ (Ne.symm O.hps)).trans (L.block _ (by omega) O.hpi O.hpd O.hpz))
  obtain ⟨x, rfl, q1, q2, q3⟩ := over_of O g1 (by have := L.size; simp [World.setChan]; omega) hb0 r1 r2 hE d
  exact h2 _ x i st (M.trans ((L.moved.trans (Moved.chanS _ _ _ _ _ _ _)).trans q3)) q1 (by omega) q2

omit O in
theorem next_o {e : Int} (h : WF K N (.over e) w) (h1 : Can K Post n (.over e) (G (b.at (a.put ((ops[ii]?).bind (·.dst)) (.tuple #[.int .i64 0, .bool false])) (.inRegion ops rest :: kk)) cs0) w) :
    Can K Post n (.over e) (G (ent10 K.pb) (b.at a (.inRegion ops (ii :: rest) :: kk) :: cs0)) w :=
  next_over quiet1 (fun n => by simp [Ev1]) (fun w₁ ⟨d, e⟩ => by subst e; exact ⟨h.2.1, h.2.2.2 5 (by omega)⟩) h1
omit O in
theorem stop_o {e : Int} (h : WF K N (.over e) w) (h1 : Can K Post n (.over e) (G (b.at (a.put ((ops[ii]?).bind (·.dst)) (.int .i64 14)) (.inRegion ops rest :: kk)) cs0) w) :
    Can K Post n (.over e) (G (ent12 K.pb) (b.at a (.inRegion ops (ii :: rest) :: kk) :: cs0)) w :=
  stop_over quiet1 (fun n => by simp [Ev1]) (fun w₁ ⟨d, e⟩ => by subst e; exact ⟨h.2.1, h.2.2.2 5 (by omega)⟩) h1
omit O in
theorem end_o {e : Int} (h : WF K N (.over e) w) (h1 : Can K Post n (.over e) (G (b.at (a.put ((ops[ii]?).bind (·.dst)) (.tuple #[.int .i64 e, .bool true])) (.inRegion ops rest :: kk)) cs0) w) :
    Can K Post n (.over e) (G (ent13 K.pb) (b.at a (.inRegion ops (ii :: rest) :: kk) :: cs0)) w :=
  end_yes quiet1 (fun n => by simp [Ev1]) (fun w₁ ⟨d, e⟩ => by subst e; exact ⟨h.2.1, h.2.2.2 5 (by omega)⟩) (fun w₁ ⟨d, e⟩ => by subst e; exact ⟨h.2.2.1, h.2.2.2 6 (by omega)⟩) h1
/-- End where it is not over. -/
theorem end_not {m : Mode} (h : WF K N m w) (hm : ∀ e, m ≠ .over e) (h1 : Can K Post n m (G (b.at (a.put ((ops[ii]?).bind (·.dst)) (.tuple #[.int .i64 0, .bool false])) (.inRegion ops rest :: kk)) cs0) w) :
    Can K Post n m (G (ent13 K.pb) (b.at a (.inRegion ops (ii :: rest) :: kk) :: cs0)) w := by
  obtain ⟨R, D, Ok, Stop, C', N', M, _, _, hiff, hR, _⟩ := Can.open (Post := Post) (n := n) O h
  rw [hiff] at h1 ⊢
  refine end_no M.T (fun n => M.rd _ O.hpz) (fun w₁ h₁ => ?_) h1
  have hw := hR _ _ h₁ h
  cases m with
  | fresh => exact ⟨hw.2.1.o, hw.2.1.z 5 (by omega)⟩
  | beside j vb k r => exact ⟨hw.2.2.2.o, hw.2.2.2.z 5 (by omega)⟩
  | over e => exact absurd rfl (hm e)
end
end Go.Proofs.Ytnbfmbkglkjhmaa
