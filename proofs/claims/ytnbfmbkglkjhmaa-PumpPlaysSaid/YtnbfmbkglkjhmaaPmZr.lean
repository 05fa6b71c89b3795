import Derived.Test.YtnbfmbkglkjhmaaPmZu
set_option linter.unusedSimpArgs false
set_option linter.unusedVariables false
set_option linter.unusedSectionVars false
namespace Go.Proofs.Ytnbfmbkglkjhmaa
open Go.Conc Go.RowKit Go.Pmp
section
variable {W : World} {sp : Option Addr} {ad : Addr} {len cap room : Nat} {L : Nat → Int} {cq : Option Addr} {ac : Addr} {nc ccap : Nat} (O : (rowK W.heap.size room sp ad len cap L 7).Ok (W.heap.size + 6))
include O
set_option maxRecDepth 100000 in
set_option maxHeartbeats 8000000 in
theorem stop_v {d i : Nat} {m : Mode} {at0 : Nat} {w : World} (hi : i < nc) (hnc : nc ≤ 200) (hcq : cq = some ac) (hcb : ac.block < W.heap.size) (hcx : W.cell? (ac.add i) = some (.bool false)) (hlen : len ≤ 1000) (hI : Inv W sp ad len cap room L (d + 1) m at0 true w)  (j11 j12 j13 j14 j15 j16 j17 j18 j19 j20 j21 j22 j23 j24 j25 j26 j27 j28 j29 j30 j31 j32 j33 j34 j35 j36 j37 j38 j39 j40 j41 j42 j43 j44 j45 j46 j47 j48 j49 j50 j51 j52 j53 j54 j55 j56 j57 j58 j59 j60 j61 j62 j63 j64 j65 j66 j67 j68 j69 j70 j71 j72 j73 j74 j75 j76 j77 j78 j79 j80 j81 j82 j83 j84 j85 j86 j87 j88 j89 j90 j91 j92 j93 j94 j95 j96 j97 j98 j99 j100 j101 j102 j103 j104 j105 j106 j107 j108 j109 j110 j111 j112 j113 j114 j115 j116 j117 j118 j119 j120 j121 j122 j123 j124 j125 j126 j127 j128 j129 j130 j131 j132 j133 j134 j135 j136 j137 j138 j139 j140 : Value)
    (ih : ∀ (m : Mode) (at0 : Nat) (ov : Bool) (w : World) (j11 j12 j13 j14 j15 j16 j17 j18 j19 j20 j21 j22 j23 j24 j25 j26 j27 j28 j29 j30 j31 j32 j33 j34 j35 j36 j37 j38 j39 j40 j41 j42 j43 j44 j45 j46 j47 j48 j49 j50 j51 j52 j53 j54 j55 j56 j57 j58 j59 j60 j61 j62 j63 j64 j65 j66 j67 j68 j69 j70 j71 j72 j73 j74 j75 j76 j77 j78 j79 j80 j81 j82 j83 j84 j85 j86 j87 j88 j89 j90 j91 j92 j93 j94 j95 j96 j97 j98 j99 j100 j101 j102 j103 j104 j105 j106 j107 j108 j109 j110 j111 j112 j113 j114 j115 j116 j117 j118 j119 j120 j121 j122 j123 j124 j125 j126 j127 j128 j129 j130 j131 j132 j133 j134 j135 j136 j137 j138 j139 j140 : Value), Inv W sp ad len cap room L d m at0 ov w → Can (rowK W.heap.size room sp ad len cap L 7) (PostT W) 1 m (G ((base 3).at ⟨#[.slice sp len cap, .int .i64 room, .slice cq nc ccap, undef, undef, undef, .bool false, .pointer (some ⟨W.heap.size + 2, 0, none⟩), .int .i64 0, .pointer (some ⟨W.heap.size + 6, 0, none⟩), .int .i64 i, j11, j12, j13, j14, j15, j16, j17, j18, j19, j20, j21, j22, j23, j24, j25, j26, j27, j28, j29, j30, j31, j32, j33, j34, j35, j36, j37, j38, j39, j40, j41, j42, j43, j44, j45, j46, j47, j48, j49, j50, j51, j52, j53, j54, j55, j56, j57, j58, j59, j60, j61, j62, j63, j64, j65, j66, j67, j68, j69, j70, j71, j72, j73, j74, j75, j76, j77, j78, j79, j80, j81, j82, j83, j84, j85, j86, j87, j88, j89, j90, j91, j92, j93, j94, j95, j96, j97, j98, j99, j100, j101, j102, j103, j104, j105, j106, j107, j108, j109, j110, j111, j112, j113, j114, j115, j116, j117, j118, j119, j120, j121, j122, j123, j124, j125, j126, j127, j128, j129, j130, j131, j132, j133, j134, j135, j136, j137, j138, j139, j140], []⟩ [.code tail3, .inBlock 1, .code inc3, .inLoop loop3, .inBlock 0, .code after3]) []) w) :
    Can (rowK W.heap.size room sp ad len cap L 7) (PostT W) 1 m (G ((base 3).at ⟨#[.slice sp len cap, .int .i64 room, .slice cq nc ccap, undef, undef, undef, .bool false, .pointer (some ⟨W.heap.size + 2, 0, none⟩), .int .i64 0, .pointer (some ⟨W.heap.size + 6, 0, none⟩), .int .i64 i, j11, j12, j13, j14, j15, j16, j17, j18, j19, j20, j21, j22, j23, j24, j25, j26, j27, j28, j29, j30, j31, j32, j33, j34, j35, j36, j37, j38, j39, j40, j41, j42, j43, j44, j45, j46, j47, j48, j49, j50, j51, j52, j53, j54, j55, j56, j57, j58, j59, j60, j61, j62, j63, j64, j65, j66, j67, j68, j69, j70, j71, j72, j73, j74, j75, j76, j77, j78, j79, j80, j81, j82, j83, j84, j85, j86, j87, j88, j89, j90, j91, j92, j93, j94, j95, j96, j97, j98, j99, j100, j101, j102, j103, j104, j105, j106, j107, j108, j109, j110, j111, j112, j113, j114, j115, j116, j117, j118, j119, j120, j121, j122, j123, j124, j125, j126, j127, j128, j129, j130, j131, j132, j133, j134, j135, j136, j137, j138, j139, j140], []⟩ [.code loop3, .inLoop loop3, .inBlock 0, .code after3]) []) w := by
  have hgx := hI.gx
  subst hcq
  have hih : RowKit.Hid (∀ (m : Mode) (at0 : Nat) (ov : Bool) (w : World) (j11 j12 j13 j14 j15 j16 j17 j18 j19 j20 j21 j22 j23 j24 j25 j26 j27 j28 j29 j30 j31 j32 j33 j34 j35 j36 j37 j38 j39 j40 j41 j42 j43 j44 j45 j46 j47 j48 j49 j50 j51 j52 j53 j54 j55 j56 j57 j58 j59 j60 j61 j62 j63 j64 j65 j66 j67 j68 j69 j70 j71 j72 j73 j74 j75 j76 j77 j78 j79 j80 j81 j82 j83 j84 j85 j86 j87 j88 j89 j90 j91 j92 j93 j94 j95 j96 j97 j98 j99 j100 j101 j102 j103 j104 j105 j106 j107 j108 j109 j110 j111 j112 j113 j114 j115 j116 j117 j118 j119 j120 j121 j122 j123 j124 j125 j126 j127 j128 j129 j130 j131 j132 j133 j134 j135 j136 j137 j138 j139 j140 : Value), Inv W sp ad len cap room L d m at0 ov w → Can (rowK W.heap.size room sp ad len cap L 7) (PostT W) 1 m (G ((base 3).at ⟨#[.slice sp len cap, .int .i64 room, .slice (some ac) nc ccap, undef, undef, undef, .bool false, .pointer (some ⟨W.heap.size + 2, 0, none⟩), .int .i64 0, .pointer (some ⟨W.heap.size + 6, 0, none⟩), .int .i64 i, j11, j12, j13, j14, j15, j16, j17, j18, j19, j20, j21, j22, j23, j24, j25, j26, j27, j28, j29, j30, j31, j32, j33, j34, j35, j36, j37, j38, j39, j40, j41, j42, j43, j44, j45, j46, j47, j48, j49, j50, j51, j52, j53, j54, j55, j56, j57, j58, j59, j60, j61, j62, j63, j64, j65, j66, j67, j68, j69, j70, j71, j72, j73, j74, j75, j76, j77, j78, j79, j80, j81, j82, j83, j84, j85, j86, j87, j88, j89, j90, j91, j92, j93, j94, j95, j96, j97, j98, j99, j100, j101, j102, j103, j104, j105, j106, j107, j108, j109, j110, j111, j112, j113, j114, j115, j116, j117, j118, j119, j120, j121, j122, j123, j124, j125, j126, j127, j128, j129, j130, j131, j132, j133, j134, j135, j136, j137, j138, j139, j140], []⟩ [.code tail3, .inBlock 1, .code inc3, .inLoop loop3, .inBlock 0, .code after3]) []) w) := ih
  clear ih
  obtain ⟨x, rfl, hx7⟩ : ∃ x, m = .over x ∧ (at0 = len → x = 7) := by
    rcases hI.st with ⟨h, _⟩ | ⟨_, h⟩
    · cases h
    · exact h
  have hF := hI.wf
  have hlt : (i : Int) < (nc : Int) := by omega
  obtain ⟨R0, Dq0, Ok0, St0, C0, N0, M0, hl0, hg0, hiff0, hR0, hC0⟩ := Can.open (Post := PostT W) (n := 1) O hF
  refine (hiff0 _ _).2 ?_
  have T0 := M0.T
  have hiN : (i : Int) ≤ 200 := by omega
  simp only [loop3, tail3, inc3, after3, body3, Try.f3, Option.getD_some]
  have hnC0 : ∀ a, C0 a → a.block ≠ W.heap.size + 6 := fun a ha e => by
    rcases hC0 a ha with h | ⟨j, vb, f, r, h, h'⟩
    · have := O.lt _ h; omega
    · have := hI.vb _ _ _ _ h; omega
  refine Ev.seq T0 ?_
  refine Ev.seq T0 ?_
  refine Ev.region T0 ?_
  simp only [List.size_toArray, List.length_cons, List.length_nil, Nat.reduceAdd, Nat.zero_add, List.range, List.range.loop]
  refine Ev.still T0 rfl rfl (by decide) (fun w₁ h₁ K' hK' => ?_)
  go_simp
  refine hK' _ (T0.read _ _ (fun e he => by have hm := mem_listed he; simp [go_sem] at hm)) ?_
  clear hK' K' h₁ w₁
  try walk_nrm
  refine Ev.still T0 rfl rfl (by decide) (fun w₁ h₁ K' hK' => ?_)
  go_simp
  refine hK' _ (T0.read _ _ (fun e he => by have hm := mem_listed he; simp [go_sem] at hm)) ?_
  clear hK' K' h₁ w₁
  try walk_nrm
  refine Ev.still T0 rfl rfl (by decide) (fun w₁ h₁ K' hK' => ?_)
  go_simp
  refine hK' _ (T0.read _ _ (fun e he => by have hm := mem_listed he; simp [go_sem] at hm)) ?_
  clear hK' K' h₁ w₁
  try walk_nrm
  refine Ev.still T0 rfl rfl (by decide) (fun w₁ h₁ K' hK' => ?_)
  go_simp
  refine hK' _ (T0.read _ _ (fun e he => by have hm := mem_listed he; simp [go_sem] at hm)) ?_
  clear hK' K' h₁ w₁
  try walk_nrm
  refine Ev.regionEnd T0 ?_
  refine Ev.cond T0 true rfl ?_
  simp only [if_true, if_false, Bool.false_eq_true, ↓reduceIte]
  refine Ev.skip T0 ?_
  refine Ev.seq T0 ?_
  refine Ev.block T0 ?_
  refine Ev.seq T0 ?_
  refine Ev.seq T0 ?_
  refine Ev.region T0 ?_
  simp only [List.size_toArray, List.length_cons, List.length_nil, Nat.reduceAdd, Nat.zero_add, List.range, List.range.loop]
  refine Ev.still T0 rfl rfl (by decide) (fun w₁ h₁ K' hK' => ?_)
  go_simp
  refine hK' _ (T0.read _ _ (fun e he => by have hm := mem_listed he; simp [go_sem] at hm)) ?_
  clear hK' K' h₁ w₁
  try walk_nrm
  refine Ev.still T0 rfl rfl (by decide) (fun w₁ h₁ K' hK' => ?_)
  go_simp
  refine hK' _ (T0.read _ _ (fun e he => by have hm := mem_listed he; simp [go_sem] at hm)) ?_
  clear hK' K' h₁ w₁
  try walk_nrm
  refine Ev.still T0 rfl rfl (by decide) (fun w₁ h₁ K' hK' => ?_)
  go_simp
  refine hK' _ (T0.read _ _ (fun e he => by have hm := mem_listed he; simp [go_sem, *] at hm)) ?_
  clear hK' K' h₁ w₁
  try walk_nrm
  refine Ev.still T0 rfl rfl (by decide) (fun w₁ h₁ K' hK' => ?_)
  have hf0 : w₁.cell? (ac.add i) = some (.bool false) := (cell_of_block (((M0.rm _ _ h₁).block _ (by rw [add_block]; simp only [rowK]; omega) (by rw [add_block]; simp only [rowK]; omega) (fun h => h)).trans (hI.grew.block _ (by rw [add_block]; exact hcb)))).trans hcx
  go_simp
  refine hK' _ (T0.read _ _ (fun e he => by have hm := mem_listed he; simp [go_sem, hf0] at hm; subst hm; exact M0.acc _ _ _ (fun h => h) (fun h => by cases h))) ?_
  clear hK' K' hf0 h₁ w₁
  try walk_nrm
  refine Ev.regionEnd T0 ?_
  refine Ev.cond T0 false rfl ?_
  simp only [if_true, if_false, Bool.false_eq_true, ↓reduceIte]
  refine Ev.seq T0 ?_
  refine Ev.region T0 ?_
  simp only [List.size_toArray, List.length_cons, List.length_nil, Nat.reduceAdd, Nat.zero_add, List.range, List.range.loop]
  refine Ev.still T0 rfl rfl (by decide) (fun w₁ h₁ K' hK' => ?_)
  have hg0 : w₁.heap[W.heap.size + 6]? = some (.cells #[.slice sp len cap, .int .i64 at0, .bool true] 30) := ((M0.rm _ _ h₁).block (W.heap.size + 6) (by simp [rowK]) (by simp [rowK]) (fun h => h)).trans hgx
  have hl0 := ld30 hg0
  have hl1 := ld30e hg0
  have hq0 : w₁.cell? ⟨W.heap.size + 6, 0, none⟩ = some (.slice sp len cap) := by simp [World.cell?, hg0]
  have hq1 : w₁.cell? ⟨W.heap.size + 6, 1, none⟩ = some (.int .i64 at0) := by simp [World.cell?, hg0]
  have hq2 : w₁.cell? ⟨W.heap.size + 6, 2, none⟩ = some (.bool true) := by simp [World.cell?, hg0]
  go_simp
  refine hK' _ (T0.read _ _ (fun e he => by obtain ⟨x, h2, h3, h4⟩ := hl1 e (ev_load30 rfl rfl hl0 (mem_listed he)); obtain ⟨loc, wr, sy⟩ := e; cases h2; exact M0.acc _ _ _ (fun h => h) (fun h => by cases h.symm.trans h3))) ?_
  clear hK' K' hg0 hl0 hl1 hq0 hq1 hq2 h₁ w₁
  try walk_nrm
  refine Ev.call T0 (f := 11) (fn := Try.f11) rfl rfl (by decide) rfl Try.func11 (by decide) f11_body ?_
  simp only [List.map_toArray, List.map_cons, List.map_nil]
  rw [args11]
  try walk_nrm
  refine rstop_over M0 (cs := (rowK W.heap.size room sp ad len cap L 7).cs) hg0 (by simp only [rowK]; omega) (by simp only [rowK]; omega) (by simp only [rowK]; omega) (P := WF (rowK W.heap.size room sp ad len cap L 7) (W.heap.size + 6) (.over x)) hF (fun a b r h => hR0 a b r h) (fun a b hs hk h => h.kept O hs fun k hk' => hk k (Nat.lt_of_lt_of_le (O.lt k hk') (by omega))) (fun v1 L1 s1 P1 => ?_)
  try walk_nrm
  have hgs1 : W.heap.size + 6 < v1.heap.size := by have := hI.gs; omega
  have hgx1 := (L1.block (W.heap.size + 6) hI.gs (by simp [rowK]) (by simp [rowK]) (fun h => h)).trans hgx
  have G1 : Grew W v1 := hI.grew.moved (Nat.le_refl _) L1.moved
  have X0 : ExtM (rowK W.heap.size room sp ad len cap L 7).Z (rowK W.heap.size room sp ad len cap L 7).ci (rowK W.heap.size room sp ad len cap L 7).cd (WF (rowK W.heap.size room sp ad len cap L 7) (W.heap.size + 6) (.over x)) v1 [] v1 := ExtM.refl _ _ _ _ P1
  have hgN : N0 ≤ v1.heap.size := by omega
  have hfr1 := M0.free (w := v1) hgN (by simp only [rowK]; omega) (by simp only [rowK]; omega) (by simp only [rowK]; omega)
  have hci1 : (rowK W.heap.size room sp ad len cap L 7).ci < v1.heap.size := by simp only [rowK]; omega
  have hcd1 : (rowK W.heap.size room sp ad len cap L 7).cd < v1.heap.size := by simp only [rowK]; omega
  have hz1 : ∀ k, (rowK W.heap.size room sp ad len cap L 7).Z k → k < v1.heap.size := fun k h => h.elim
  have hPR1 : ∀ a b : World, R0 a b → WF (rowK W.heap.size room sp ad len cap L 7) (W.heap.size + 6) (.over x) a → WF (rowK W.heap.size room sp ad len cap L 7) (W.heap.size + 6) (.over x) b := fun a b r h => hR0 a b r h
  have hPk1 : ∀ a b : World, a.heap.size ≤ b.heap.size → (∀ k, k < v1.heap.size → b.heap[k]? = a.heap[k]?) → WF (rowK W.heap.size room sp ad len cap L 7) (W.heap.size + 6) (.over x) a → WF (rowK W.heap.size room sp ad len cap L 7) (W.heap.size + 6) (.over x) b := fun a b hs hk h => h.kept O hs fun k hk' => hk k (Nat.lt_of_lt_of_le (O.lt k hk') (by omega))
  clear L1 P1 s1
  refine Ev.still T0 rfl rfl (by decide) (fun w₁ h₁ K' hK' => ?_)
  go_simp
  refine hK' _ (T0.read _ _ (fun e he => by have hm := mem_listed he; simp [go_sem] at hm)) ?_
  clear hK' K' h₁ w₁
  try walk_nrm
  refine Ev.still T0 rfl rfl (by decide) (fun w₁ h₁ K' hK' => ?_)
  go_simp
  refine hK' _ (T0.read _ _ (fun e he => by have hm := mem_listed he; simp [go_sem] at hm)) ?_
  clear hK' K' h₁ w₁
  try walk_nrm
  refine Ev.still T0 rfl rfl (by decide) (fun w₁ h₁ K' hK' => ?_)
  go_simp
  refine hK' _ (T0.read _ _ (fun e he => by have hm := mem_listed he; simp [go_sem] at hm)) ?_
  clear hK' K' h₁ w₁
  try walk_nrm
  refine Ev.turn rfl rfl (by decide) (fun w₁ h₁ K' hK' => ?_)
  have Y := X0.rm hci1 hcd1 hz1 (M0.rm _ _ h₁) (hPR1 _ _ h₁ X0.keep)
  clear h₁
  go_simp
  refine hK' _ _ (M0.alloc _ _ _ (by rw [Y.size]; omega) (fun e he => by have hm := mem_listed he; simp [go_sem] at hm)) ?_
  clear hK' K'
  try walk_nrm
  have hs : w₁.heap.size = v1.heap.size := Y.size
  try simp only [hs]
  have X1 : ExtM (rowK W.heap.size room sp ad len cap L 7).Z (rowK W.heap.size room sp ad len cap L 7).ci (rowK W.heap.size room sp ad len cap L 7).cd (WF (rowK W.heap.size room sp ad len cap L 7) (W.heap.size + 6) (.over x)) v1 [.cells #[.slice none 0 0, .int .i64 0, .bool false] 30] _ := Y.alloc hPk1 (.cells #[.slice none 0 0, .int .i64 0, .bool false] 30)
  generalize w₁.alloc (.cells #[.slice none 0 0, .int .i64 0, .bool false] 30) = W1 at X1 ⊢
  clear hs Y w₁
  refine Ev.turn rfl rfl (by decide) (fun w₁ h₁ K' hK' => ?_)
  have Y := X1.rm hci1 hcd1 hz1 (M0.rm _ _ h₁) (hPR1 _ _ h₁ X1.keep)
  clear h₁
  have hg0 : w₁.heap[v1.heap.size]? = some (.cells #[.slice none 0 0, .int .i64 0, .bool false] 30) := Y.get 0 (by simp)
  have hst := st30 (v0 := .slice sp len cap) (v1 := .int .i64 at0) (v2 := .bool true) hg0 (by simp [Value.oneCell'])
  have hse := st30e (v0 := .slice sp len cap) (v1 := .int .i64 at0) (v2 := .bool true) hg0 (by simp [Value.oneCell'])
  have hq0 : w₁.cell? ⟨v1.heap.size, 0, none⟩ = some (.slice none 0 0) := by simp [World.cell?, hg0]
  have hq1 : w₁.cell? ⟨v1.heap.size, 1, none⟩ = some (.int .i64 0) := by simp [World.cell?, hg0]
  have hq2 : w₁.cell? ⟨v1.heap.size, 2, none⟩ = some (.bool false) := by simp [World.cell?, hg0]
  have hp0 : w₁.frozen? ⟨v1.heap.size, 0, none⟩ = false := by simp [World.frozen?, hg0]
  have hp1 : w₁.frozen? ⟨v1.heap.size, 1, none⟩ = false := by simp [World.frozen?, hg0]
  have hp2 : w₁.frozen? ⟨v1.heap.size, 2, none⟩ = false := by simp [World.frozen?, hg0]
  go_simp
  have hfi := hfr1 v1.heap.size (by first | exact Nat.le_refl _ | exact Nat.le_add_right _ _)
  refine hK' _ _ (M0.grow _ _ (some v1.heap.size) _ (by rw [Y.size]; omega) (grownBy_set3 _ _ _ _ _) (fun k hk => by cases hk; exact hfi) (fun e he => by obtain ⟨x, h2, h3⟩ := hse e (ev_store30 rfl rfl rfl hst (mem_listed he)); obtain ⟨loc, wr, sy⟩ := e; cases h2; have hq := hfr1 x.block (by omega); exact M0.acc _ _ _ hq.2.2.2.1 (fun _ h => hq.2.2.2.2 _ h rfl))) ?_
  clear hK' K' hg0 hst hse hfi hq0 hq1 hq2 hp0 hp1 hp2
  try walk_nrm
  have X2 : ExtM (rowK W.heap.size room sp ad len cap L 7).Z (rowK W.heap.size room sp ad len cap L 7).ci (rowK W.heap.size room sp ad len cap L 7).cd (WF (rowK W.heap.size room sp ad len cap L 7) (W.heap.size + 6) (.over x)) v1 [.cells #[.slice sp len cap, .int .i64 at0, .bool true] 30] _ := ((Y.set hPk1 0 rfl 0 (.slice sp len cap)).set hPk1 0 rfl 1 (.int .i64 at0)).set hPk1 0 rfl 2 (.bool true)
  generalize ((w₁.setCell ⟨v1.heap.size, 0, none⟩ (.slice sp len cap)).setCell ⟨v1.heap.size, 1, none⟩ (.int .i64 at0)).setCell ⟨v1.heap.size, 2, none⟩ (.bool true) = W2 at X2 ⊢
  clear Y w₁
  refine Ev.still T0 rfl rfl (by decide) (fun w₁ h₁ K' hK' => ?_)
  go_simp
  refine hK' _ (T0.read _ _ (fun e he => by have hm := mem_listed he; simp [go_sem] at hm)) ?_
  clear hK' K' h₁ w₁
  try walk_nrm
  refine Ev.regionEnd T0 ?_
  refine Ev.seq T0 ?_
  refine Ev.region T0 ?_
  simp only [List.size_toArray, List.length_cons, List.length_nil, Nat.reduceAdd, Nat.zero_add, List.range, List.range.loop]
  refine Ev.still T0 rfl rfl (by decide) (fun w₁ h₁ K' hK' => ?_)
  have hg0 : w₁.heap[v1.heap.size]? = some (.cells #[.slice sp len cap, .int .i64 at0, .bool true] 30) := (X2.rm hci1 hcd1 hz1 (M0.rm _ _ h₁) (hPR1 _ _ h₁ X2.keep)).get 0 (by simp)
  have hl0 := ld30 hg0
  have hl1 := ld30e hg0
  have hq0 : w₁.cell? ⟨v1.heap.size, 0, none⟩ = some (.slice sp len cap) := by simp [World.cell?, hg0]
  have hq1 : w₁.cell? ⟨v1.heap.size, 1, none⟩ = some (.int .i64 at0) := by simp [World.cell?, hg0]
  have hq2 : w₁.cell? ⟨v1.heap.size, 2, none⟩ = some (.bool true) := by simp [World.cell?, hg0]
  go_simp
  refine hK' _ (T0.read _ _ (fun e he => by obtain ⟨x, h2, h3, h4⟩ := hl1 e (ev_load30 rfl rfl hl0 (mem_listed he)); obtain ⟨loc, wr, sy⟩ := e; cases h2; exact M0.acc _ _ _ (hfr1 _ (by omega)).2.2.2.1 (fun h => by cases h.symm.trans h3))) ?_
  clear hK' K' hg0 hl0 hl1 hq0 hq1 hq2 h₁ w₁
  try walk_nrm
  refine Ev.turn rfl rfl (by decide) (fun w₁ h₁ K' hK' => ?_)
  have Y := X2.rm hci1 hcd1 hz1 (M0.rm _ _ h₁) (hPR1 _ _ h₁ X2.keep)
  clear h₁
  have hg0 : w₁.heap[W.heap.size + 6]? = some (.cells #[.slice sp len cap, .int .i64 at0, .bool true] 30) := (Y.later.block (W.heap.size + 6) hgs1 (by simp [rowK]) (by simp [rowK]) (fun h => h)).trans hgx1
  have hst := st30 (v0 := .slice sp len cap) (v1 := .int .i64 at0) (v2 := .bool true) hg0 (by simp [Value.oneCell'])
  have hse := st30e (v0 := .slice sp len cap) (v1 := .int .i64 at0) (v2 := .bool true) hg0 (by simp [Value.oneCell'])
  have hq0 : w₁.cell? ⟨W.heap.size + 6, 0, none⟩ = some (.slice sp len cap) := by simp [World.cell?, hg0]
  have hq1 : w₁.cell? ⟨W.heap.size + 6, 1, none⟩ = some (.int .i64 at0) := by simp [World.cell?, hg0]
  have hq2 : w₁.cell? ⟨W.heap.size + 6, 2, none⟩ = some (.bool true) := by simp [World.cell?, hg0]
  have hp0 : w₁.frozen? ⟨W.heap.size + 6, 0, none⟩ = false := by simp [World.frozen?, hg0]
  have hp1 : w₁.frozen? ⟨W.heap.size + 6, 1, none⟩ = false := by simp [World.frozen?, hg0]
  have hp2 : w₁.frozen? ⟨W.heap.size + 6, 2, none⟩ = false := by simp [World.frozen?, hg0]
  go_simp
  have hnC : ∀ a, C0 a → a.block ≠ W.heap.size + 6 := hnC0
  refine hK' _ _ (M0.grow _ _ (some (W.heap.size + 6)) _ (by rw [Y.size]; omega) (grownBy_set3 _ _ _ _ _) (fun k hk => by cases hk; exact ⟨by simp [rowK], by simp [rowK], by simp [rowK], fun h => h, hnC⟩) (fun e he => by obtain ⟨x, h2, h3⟩ := hse e (ev_store30 rfl rfl rfl hst (mem_listed he)); obtain ⟨loc, wr, sy⟩ := e; cases h2; exact M0.acc _ _ _ (fun h => h) (fun _ h => hnC _ h h3))) ?_
  clear hK' K' hst hse hq0 hq1 hq2 hp0 hp1 hp2
  try walk_nrm
  have hgx3 := set3_heap (.slice sp len cap) (.int .i64 at0) (.bool true) hg0
  have hgb := grownBy_set3 w₁ (W.heap.size + 6) (.slice sp len cap) (.int .i64 at0) (.bool true)
  generalize ((w₁.setCell ⟨W.heap.size + 6, 0, none⟩ (.slice sp len cap)).setCell ⟨W.heap.size + 6, 1, none⟩ (.int .i64 at0)).setCell ⟨W.heap.size + 6, 2, none⟩ (.bool true) = W3 at hgx3 hgb ⊢
  have G3 : Grew W W3 := (G1.moved (Nat.le_refl _) Y.later.moved).grown hgb (by omega)
  have F3 : WF (rowK W.heap.size room sp ad len cap L 7) (W.heap.size + 6) (.over x) W3 := Y.keep.kept O hgb.size (fun k hk => hgb.block k (Nat.lt_of_lt_of_le (O.lt k hk) (Y.keep.le O)) (fun e => by cases e; have := O.lt _ hk; omega))
  have hgs3 : W.heap.size + 6 < W3.heap.size := by have := hgb.size; have := Y.size; simp at this; omega
  clear hg0 hgb Y w₁
  refine Ev.regionEnd T0 ?_
  refine Ev.seq T0 ?_
  refine Ev.region T0 ?_
  simp only [List.size_toArray, List.length_cons, List.length_nil, Nat.reduceAdd, Nat.zero_add, List.range, List.range.loop]
  refine Ev.still T0 rfl rfl (by decide) (fun w₁ h₁ K' hK' => ?_)
  go_simp
  refine hK' _ (T0.read _ _ (fun e he => by have hm := mem_listed he; simp [go_sem] at hm)) ?_
  clear hK' K' h₁ w₁
  try walk_nrm
  refine Ev.call T0 (f := 12) (fn := Try.f12) rfl rfl (by decide) rfl Try.func12 (by decide) f12_body ?_
  simp only [List.map_toArray, List.map_cons, List.map_nil]
  rw [args12]
  try walk_nrm
  refine (hiff0 _ _).1 ?_
  refine stop_o F3 ?_
  try walk_nrm
  have hgx4 := hgx3
  have G4 := G3
  have hgs4 := hgs3
  have F4 := F3
  generalize W3 = w4 at *
  obtain ⟨R1, Dq1, Ok1, St1, C1, N1, M1, hl1, hg1, hiff1, hR1, hC1⟩ := Can.open (Post := PostT W) (n := 1) O F4
  refine (hiff1 _ _).2 ?_
  have T1 := M1.T
  refine Ev.still T1 rfl rfl (by decide) (fun w₁ h₁ K' hK' => ?_)
  go_simp
  refine hK' _ (T1.read _ _ (fun e he => by have hm := mem_listed he; simp [go_sem] at hm)) ?_
  clear hK' K' h₁ w₁
  try walk_nrm
  refine Ev.still T1 rfl rfl (by decide) (fun w₁ h₁ K' hK' => ?_)
  go_simp
  refine hK' _ (T1.read _ _ (fun e he => by have hm := mem_listed he; simp [go_sem] at hm)) ?_
  clear hK' K' h₁ w₁
  try walk_nrm
  refine Ev.regionEnd T1 ?_
  refine Ev.cond T1 false rfl ?_
  simp only [if_true, if_false, Bool.false_eq_true, ↓reduceIte]
  refine Ev.skip T1 ?_
  have hJ : Inv W sp ad len cap room L d (.over x) at0 true w4 := ⟨F4, G4, hgx4, hgs4, hI.le, fun _ _ _ _ h => (by cases h), .inr ⟨rfl, x, rfl, hx7⟩⟩
  have hfin := fun (j11 j12 j13 j14 j15 j16 j17 j18 j19 j20 j21 j22 j23 j24 j25 j26 j27 j28 j29 j30 j31 j32 j33 j34 j35 j36 j37 j38 j39 j40 j41 j42 j43 j44 j45 j46 j47 j48 j49 j50 j51 j52 j53 j54 j55 j56 j57 j58 j59 j60 j61 j62 j63 j64 j65 j66 j67 j68 j69 j70 j71 j72 j73 j74 j75 j76 j77 j78 j79 j80 j81 j82 j83 j84 j85 j86 j87 j88 j89 j90 j91 j92 j93 j94 j95 j96 j97 j98 j99 j100 j101 j102 j103 j104 j105 j106 j107 j108 j109 j110 j111 j112 j113 j114 j115 j116 j117 j118 j119 j120 j121 j122 j123 j124 j125 j126 j127 j128 j129 j130 j131 j132 j133 j134 j135 j136 j137 j138 j139 j140 : Value) => hih.out _ _ _ _ j11 j12 j13 j14 j15 j16 j17 j18 j19 j20 j21 j22 j23 j24 j25 j26 j27 j28 j29 j30 j31 j32 j33 j34 j35 j36 j37 j38 j39 j40 j41 j42 j43 j44 j45 j46 j47 j48 j49 j50 j51 j52 j53 j54 j55 j56 j57 j58 j59 j60 j61 j62 j63 j64 j65 j66 j67 j68 j69 j70 j71 j72 j73 j74 j75 j76 j77 j78 j79 j80 j81 j82 j83 j84 j85 j86 j87 j88 j89 j90 j91 j92 j93 j94 j95 j96 j97 j98 j99 j100 j101 j102 j103 j104 j105 j106 j107 j108 j109 j110 j111 j112 j113 j114 j115 j116 j117 j118 j119 j120 j121 j122 j123 j124 j125 j126 j127 j128 j129 j130 j131 j132 j133 j134 j135 j136 j137 j138 j139 j140 hJ
  clear hih
  simp only [loop3, tail3, inc3, after3, body3, Try.f3, Option.getD_some] at hfin
  exact (hiff1 _ _).1 (hfin _ _ _ _ _ _ _ _ _ _ _ _ _ _ _ _ _ _ _ _ _ _ _ _ _ _ _ _ _ _ _ _ _ _ _ _ _ _ _ _ _ _ _ _ _ _ _ _ _ _ _ _ _ _ _ _ _ _ _ _ _ _ _ _ _ _ _ _ _ _ _ _ _ _ _ _ _ _ _ _ _ _ _ _ _ _ _ _ _ _ _ _ _ _ _ _ _ _ _ _ _ _ _ _ _ _ _ _ _ _ _ _ _ _ _ _ _ _ _ _ _ _ _ _ _ _ _ _ _ _)
end
end Go.Proofs.Ytnbfmbkglkjhmaa
