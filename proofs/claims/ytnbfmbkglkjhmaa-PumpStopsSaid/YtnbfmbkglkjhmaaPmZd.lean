import Derived.Test.YtnbfmbkglkjhmaaPmZc
set_option linter.unusedSimpArgs false
set_option linter.unusedVariables false
set_option linter.unusedSectionVars false
namespace Go.Proofs.Ytnbfmbkglkjhmaa
open Go.Conc Go.RowKit Go.Pmp

theorem goW_pb' {pb ci cs cd : Nat} (d d' : Nat) {w : World} (hpb : pb < w.heap.size) (h : PB pb ci cs cd false w) : PB pb ci cs cd true ((goW pb (w.at d)).at d') := by
  have e : ((w.at d).alloc (.cells #[.pointer (some ⟨pb, 0, none⟩)] 25)).heap[pb]? = w.heap[pb]? := Below.heap_alloc _ _ _ (by exact hpb)
  have c : ∀ n, ((w.at d).alloc (.cells #[.pointer (some ⟨pb, 0, none⟩)] 25)).cell? ⟨pb, n, none⟩ = w.cell? ⟨pb, n, none⟩ := fun n => cell_of_block e
  have z : ∀ n, ((w.at d).alloc (.cells #[.pointer (some ⟨pb, 0, none⟩)] 25)).frozen? ⟨pb, n, none⟩ = w.frozen? ⟨pb, n, none⟩ := fun n => froz_of_block e
  have cc : ∀ n, n ≠ 4 → ((goW pb (w.at d)).at d').cell? ⟨pb, n, none⟩ = w.cell? ⟨pb, n, none⟩ := fun n hn => by
    show (((w.at d).alloc _).setCell _ _).cell? _ = _
    rw [World.cell?_setCell_other _ _ _ _ (by simp [Ne.symm hn])]; exact c n
  have zz : ∀ n, ((goW pb (w.at d)).at d').frozen? ⟨pb, n, none⟩ = w.frozen? ⟨pb, n, none⟩ := fun n => by
    show (((w.at d).alloc _).setCell _ _).frozen? _ = _
    rw [World.frozen?_setCell]; exact z n
  refine ⟨⟨(cc 1 (by omega)).trans h.p.i, (zz 1).trans h.p.iz, (cc 2 (by omega)).trans h.p.s, (zz 2).trans h.p.sz, (cc 3 (by omega)).trans h.p.d, (zz 3).trans h.p.dz⟩, ?_, (cc 5 (by omega)).trans h.o, (cc 6 (by omega)).trans h.t, fun n hn => (zz n).trans (h.z n hn)⟩
  show (((w.at d).alloc _).setCell _ _).cell? _ = _
  exact World.cell?_setCell_same _ _ _ (by rw [c 4, h.b])
theorem goW_c0 (pb d d' : Nat) (w : World) (h : 0 < w.heap.size) (hpb : pb < w.heap.size) : ((goW pb (w.at d)).at d').cell? ⟨pb, 0, none⟩ = w.cell? ⟨pb, 0, none⟩ ∧ ((goW pb (w.at d)).at d').frozen? ⟨pb, 0, none⟩ = w.frozen? ⟨pb, 0, none⟩ := by
  have e : ((w.at d).alloc (.cells #[.pointer (some ⟨pb, 0, none⟩)] 25)).heap[pb]? = w.heap[pb]? := Below.heap_alloc _ _ _ (by exact hpb)
  constructor
  · show (((w.at d).alloc _).setCell _ _).cell? _ = _
    rw [World.cell?_setCell_other _ _ _ _ (by simp)]; exact cell_of_block e
  · show (((w.at d).alloc _).setCell _ _).frozen? _ = _
    rw [World.frozen?_setCell]; exact froz_of_block e
theorem goW_vb (pb d d' : Nat) (w : World) (hpb : pb < w.heap.size) : ((goW pb (w.at d)).at d').cell? ⟨w.heap.size, 0, none⟩ = some (.pointer (some ⟨pb, 0, none⟩)) ∧ ((goW pb (w.at d)).at d').frozen? ⟨w.heap.size, 0, none⟩ = false := by
  have ne : (⟨pb, 4, none⟩ : Addr) ≠ ⟨w.heap.size, 0, none⟩ := by simp
  constructor
  · show (((w.at d).alloc _).setCell _ _).cell? _ = _
    rw [World.cell?_setCell_other _ _ _ _ ne]
    show ((w.at d).alloc _).cell? ⟨(w.at d).heap.size, 0, none⟩ = _
    rw [World.cell?_alloc_at _ _ _ _ rfl]; rfl
  · show (((w.at d).alloc _).setCell _ _).frozen? _ = _
    rw [World.frozen?_setCell]
    show ((w.at d).alloc _).frozen? ⟨(w.at d).heap.size, 0, none⟩ = _
    rw [World.frozen?_alloc_at _ _ _ _ rfl]
theorem add_block (ad : Addr) (i : Nat) : (ad.add i).block = ad.block := by unfold Addr.add; split <;> rfl

/-- The pump of a row: its blocks from B on. -/
noncomputable def rowK (B room : Nat) (sp : Option Addr) (ad : Addr) (len cap : Nat) (L : Nat → Int) (e : Int) : PK where
  pb := B + 2
  ci := B + 3
  cs := B + 4
  cd := B + 5
  room := room
  top := len + 1
  f i := .int .i64 (L i)
  Q i := i < len
  End i st v _ := (st = false → i = len ∧ v = .int .i64 e) ∧ (st = true → i < len ∧ v = .int .i64 10)
  Z _ := False
  C vb a := (∃ n, n < 4 ∧ a = ⟨B + 2, n, none⟩) ∨ a = ⟨vb, 0, none⟩ ∨ a = ⟨B, 0, none⟩ ∨ a = ⟨B + 1, 0, none⟩ ∨ ∃ i, i < len ∧ a = ad.add i
  Keep k := (B ≤ k ∧ k < B + 6) ∨ (0 < len ∧ k = ad.block)
  Br w := w.cell? ⟨B + 2, 0, none⟩ = some (.func (.func 18) #[] #[.pointer (some ⟨B, 0, none⟩), .pointer (some ⟨B + 1, 0, none⟩)]) ∧ w.cell? ⟨B, 0, none⟩ = some (.slice sp len cap) ∧ w.frozen? ⟨B, 0, none⟩ = false ∧
    w.cell? ⟨B + 1, 0, none⟩ = some (.int .i64 e) ∧ w.frozen? ⟨B + 1, 0, none⟩ = false ∧ ∀ i, i < len → w.cell? (ad.add i) = some (.int .i64 (L i))

theorem rowK_ok {B room : Nat} {sp : Option Addr} {ad : Addr} {len cap : Nat} {L : Nat → Int} {e : Int} (hlen : len ≤ 1000) (hsp : 0 < len → sp = some ad) (had : 0 < len → ad.block < B) : (rowK B room sp ad len cap L e).Ok (B + 6) where
  h1 := by simp [rowK]
  h2 := by simp [rowK]
  h3 := by simp [rowK]
  hpi := by simp [rowK]
  hps := by simp [rowK]
  hpd := by simp [rowK]
  hpz h := h.elim
  kp := .inl ⟨by simp [rowK], by simp [rowK]⟩
  ki := .inl ⟨by simp [rowK], by simp [rowK]⟩
  ks := .inl ⟨by simp [rowK], by simp [rowK]⟩
  kd := .inl ⟨by simp [rowK], by simp [rowK]⟩
  kz k h := h.elim
  kc vb a h := by
    rcases h with ⟨n, _, rfl⟩ | rfl | rfl | rfl | ⟨i, hi, rfl⟩
    · exact .inl (.inl ⟨by simp, by simp⟩)
    · exact .inr rfl
    · exact .inl (.inl ⟨by simp, by simp⟩)
    · exact .inl (.inl ⟨by simp, by simp⟩)
    · exact .inl (.inr ⟨by omega, add_block _ _⟩)
  lt k h := by
    rcases h with h | ⟨h, rfl⟩
    · exact h.2
    · have := had h; omega
  cz vb a hv h := by
    rcases h with h | h
    · rcases h with ⟨n, _, rfl⟩ | rfl | rfl | rfl | ⟨i, hi, rfl⟩
      · simp [rowK]
      · simp only [rowK]; omega
      · simp [rowK]
      · simp [rowK]
      · have := had (by omega); simp only [rowK, add_block]; omega
    · exact h.elim
  c5 vb n hv hn h := by
    rcases h with ⟨m, hm, h⟩ | h | h | h | ⟨i, hi, h⟩
    · simp [rowK] at h <;> omega
    · simp [rowK] at h <;> omega
    · simp [rowK] at h
    · simp [rowK] at h
    · have h1 := had (by omega)
      have h2 := congrArg Addr.block h
      rw [add_block] at h2
      simp [rowK] at h2; omega
  hE vb i st v w w' _ _ h := h
  hEI i st v w h := by
    cases st with
    | false => exact ⟨e, (h.1 rfl).2⟩
    | true => exact ⟨10, (h.2 rfl).2⟩
  htop := by simp [rowK]
  hbr w w' h hk := by
    obtain ⟨a1, a2, a3, a4, a5, a6⟩ := h
    have kB := hk B (.inl ⟨by simp, by simp⟩)
    have kB1 := hk (B + 1) (.inl ⟨by simp, by simp⟩)
    have kB2 := hk (B + 2) (.inl ⟨by simp, by simp⟩)
    refine ⟨(cell_of_block kB2).trans a1, (cell_of_block kB).trans a2, (froz_of_block kB).trans a3, (cell_of_block kB1).trans a4, (froz_of_block kB1).trans a5, fun i hi => (cell_of_block ?_).trans (a6 i hi)⟩
    · rw [add_block]; exact hk _ (.inr ⟨by omega, rfl⟩)
  born j w hj hN hp hb d d' := by
    obtain ⟨a1, a2, a3, a4, a5, a6⟩ := hb
    have hs : B + 6 ≤ w.heap.size := hN
    have g := goW_pb' (pb := B + 2) d d' (by omega) hp
    have o := fun (a : Addr) (h1 : a.block < w.heap.size) (h2 : a.block ≠ B + 2) => (⟨cell_of_block (goW_block (B + 2) d d' w h1 h2), froz_of_block (goW_block (B + 2) d d' w h1 h2)⟩ : _ ∧ _)
    have v := goW_vb (B + 2) d d' w (by omega)
    have z := goW_c0 (B + 2) d d' w (by omega) (by omega)
    have hO := env_ok (Z := (rowK B room sp ad len cap L e).Z) (top := len + 1) (ci := B + 3) (cs := B + 4) (cd := B + 5) (room := room) (f := fun i => .int .i64 (L i)) (Q := fun i => i < len) (End := (rowK B room sp ad len cap L e).End) (C := (rowK B room sp ad len cap L e).C w.heap.size) hj (by omega) (by omega) (by omega)
      (fun a h => by
        rcases h with h | h
        · rcases h with ⟨n, _, rfl⟩ | rfl | rfl | rfl | ⟨i, hi, rfl⟩
          · simp
          · simp only; omega
          · simp
          · simp
          · have := had (by omega); simp only [add_block]; omega
        · exact h.elim) (fun i st v w w' _ h => h)
    refine ⟨_, born_ps (pb := B + 2) (vb := w.heap.size) (lb := B) (eb := B + 1) (sp := sp) (ad := ad) (len := len) (cap := cap) (L := L) (e := e) hO hlen hsp (fun i hi => hi) (fun i hi => rfl) (fun n hn => ⟨_, .inl ⟨n, hn, rfl⟩, rfl⟩) ⟨_, .inr (.inl rfl), rfl⟩ ⟨_, .inr (.inr (.inl rfl)), rfl⟩ ⟨_, .inr (.inr (.inr (.inl rfl))), rfl⟩
      (fun i hi => ⟨_, .inr (.inr (.inr (.inr ⟨i, hi, rfl⟩))), rfl⟩) (fun w => ⟨fun _ => ⟨rfl, rfl⟩, fun h => by cases h⟩) (fun i w hi => ⟨fun h => (by cases h), fun _ => ⟨hi, rfl⟩⟩) _ (fun w₁ r => ?_)⟩
    have rc : ∀ a, (rowK B room sp ad len cap L e).C w.heap.size a → w₁.cell? a = ((goW (B + 2) (w.at d)).at d').cell? a ∧ w₁.frozen? a = ((goW (B + 2) (w.at d)).at d').frozen? a := fun a ha => ⟨r.cell a (.inl ha), r.froz a (.inl ha)⟩
    have rp := fun n hn => rc ⟨B + 2, n, none⟩ (.inl ⟨n, hn, rfl⟩)
    have rv := rc ⟨w.heap.size, 0, none⟩ (.inr (.inl rfl))
    have rl := rc ⟨B, 0, none⟩ (.inr (.inr (.inl rfl)))
    have re := rc ⟨B + 1, 0, none⟩ (.inr (.inr (.inr (.inl rfl))))
    have ol := o ⟨B, 0, none⟩ (by show B < _; omega) (by simp)
    have oe := o ⟨B + 1, 0, none⟩ (by show B + 1 < _; omega) (by simp)
    refine ⟨⟨⟨(rp 1 (by omega)).1.trans g.p.i, (rp 1 (by omega)).2.trans g.p.iz, (rp 2 (by omega)).1.trans g.p.s, (rp 2 (by omega)).2.trans g.p.sz, (rp 3 (by omega)).1.trans g.p.d, (rp 3 (by omega)).2.trans g.p.dz⟩,
      rv.1.trans v.1, rv.2.trans v.2, rl.1.trans (ol.1.trans a2), rl.2.trans (ol.2.trans a3), re.1.trans (oe.1.trans a4), re.2.trans (oe.2.trans a5), fun i hi => ?_⟩, (rp 0 (by omega)).1.trans (z.1.trans a1), (rp 0 (by omega)).2.trans (z.2.trans (hp.z 0 (by omega)))⟩
    · have hb := had (by omega)
      exact (rc _ (.inr (.inr (.inr (.inr ⟨i, hi, rfl⟩))))).1.trans ((o _ (by rw [add_block]; omega) (by rw [add_block]; omega)).1.trans (a6 i hi))

/-- The pump just made. -/
theorem made_fresh {room : Nat} {sp : Option Addr} {ad : Addr} {len cap : Nat} {L : Nat → Int} {e : Int} {w w' : World} (had : 0 < len → ad.block < w.heap.size) (hx : ∀ i, i < len → w.cell? (ad.add i) = some (.int .i64 (L i)))
    (X : Ext w (obs8 sp len cap e w.heap.size room) w') : WF (rowK w.heap.size room sp ad len cap L e) (w.heap.size + 6) .fresh w' := by
  have hs : w'.heap.size = w.heap.size + 6 := X.size
  have c2 := fun n => X.cell 2 (hl := rfl) n
  have z2 := fun n => X.froz 2 (hl := rfl) n
  have c0 := fun n => X.cell 0 (hl := rfl) n
  have z0 := fun n => X.froz 0 (hl := rfl) n
  have c1 := fun n => X.cell 1 (hl := rfl) n
  have z1 := fun n => X.froz 1 (hl := rfl) n
  refine ⟨by show w.heap.size + 6 ≤ _; omega, ⟨⟨c2 1, z2 1, c2 2, z2 2, c2 3, z2 3⟩, c2 4, c2 5, c2 6, fun n _ => z2 n⟩, X.get 3, X.get 4, X.get 5, c2 0, c0 0, z0 0, c1 0, z1 0, fun i hi => ?_⟩
  · rw [cell_of_block (X.old (k := (ad.add i).block) (by rw [add_block]; exact had (by omega)))]; exact hx i hi
end Go.Proofs.Ytnbfmbkglkjhmaa
