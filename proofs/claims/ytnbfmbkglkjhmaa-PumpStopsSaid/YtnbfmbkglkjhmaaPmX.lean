import Derived.Test.YtnbfmbkglkjhmaaPmW
set_option linter.unusedSimpArgs false
set_option linter.unusedVariables false
set_option linter.unusedSectionVars false
namespace Go.Proofs.Ytnbfmbkglkjhmaa
open Go.Conc Go.RowKit Go.Pmp

/-! A pump as goroutine 0 sees it: not begun, beside its maker, over. -/
structure PK where
  pb : Nat
  ci : Nat
  cs : Nat
  cd : Nat
  room : Nat
  top : Nat
  f : Nat → Value
  Q : Nat → Prop
  End : Nat → Bool → Value → World → Prop
  Z : Nat → Prop
  C : Nat → Addr → Prop
  Keep : Nat → Prop
  Br : World → Prop

noncomputable abbrev PK.env (K : PK) (j vb : Nat) : Env := envC K.Z K.top j K.ci K.cs K.cd K.room K.f K.Q K.End (K.C vb)

/-- The pump's own cells. -/
structure PB (pb ci cs cd : Nat) (b : Bool) (w : World) : Prop where
  p : PumpAt pb ci cs cd w
  b : w.cell? ⟨pb, 4, none⟩ = some (.bool b)
  o : w.cell? ⟨pb, 5, none⟩ = some (.bool false)
  t : w.cell? ⟨pb, 6, none⟩ = some (.int .i64 0)
  z : ∀ n, n < 7 → w.frozen? ⟨pb, n, none⟩ = false
theorem PB.same {pb ci cs cd : Nat} {b : Bool} {w w' : World} (h : PB pb ci cs cd b w) (e : w'.heap[pb]? = w.heap[pb]?) : PB pb ci cs cd b w' := by
  have c : ∀ n, w'.cell? ⟨pb, n, none⟩ = w.cell? ⟨pb, n, none⟩ := fun n => cell_of_block e
  have z : ∀ n, w'.frozen? ⟨pb, n, none⟩ = w.frozen? ⟨pb, n, none⟩ := fun n => froz_of_block e
  exact ⟨⟨(c 1).trans h.p.i, (z 1).trans h.p.iz, (c 2).trans h.p.s, (z 2).trans h.p.sz, (c 3).trans h.p.d, (z 3).trans h.p.dz⟩, (c 4).trans h.b, (c 5).trans h.o, (c 6).trans h.t, fun n hn => (z n).trans (h.z n hn)⟩

structure PK.Ok (K : PK) (N : Nat) : Prop where
  h1 : K.ci ≠ K.cs
  h2 : K.ci ≠ K.cd
  h3 : K.cs ≠ K.cd
  hpi : K.pb ≠ K.ci
  hps : K.pb ≠ K.cs
  hpd : K.pb ≠ K.cd
  hpz : ¬ K.Z K.pb
  kp : K.Keep K.pb
  ki : K.Keep K.ci
  ks : K.Keep K.cs
  kd : K.Keep K.cd
  kz : ∀ k, K.Z k → K.Keep k
  kc : ∀ vb a, K.C vb a → K.Keep a.block ∨ a.block = vb
  lt : ∀ k, K.Keep k → k < N
  cz : ∀ vb a, N ≤ vb → K.C vb a ∨ K.Z a.block → a.block ≠ K.ci ∧ a.block ≠ K.cs ∧ a.block ≠ K.cd
  c5 : ∀ vb n, N ≤ vb → 4 ≤ n → ¬ K.C vb ⟨K.pb, n, none⟩
  hE : ∀ vb i st e w w', N ≤ vb → RPx (fun a => K.C vb a ∨ K.Z a.block) w w' → K.End i st e w → K.End i st e w'
  hEI : ∀ i st e w, K.End i st e w → ∃ x, e = .int .i64 x
  htop : 0 < K.top
  hbr : ∀ w w', K.Br w → (∀ k, K.Keep k → w'.heap[k]? = w.heap[k]?) → K.Br w'
  born : ∀ j w, j ≠ 0 → N ≤ w.heap.size → PB K.pb K.ci K.cs K.cd false w → K.Br w → ∀ d d', ∃ kp, PS (K.env j w.heap.size) kp 0 false false (born Try.prog (call22 w.heap.size)) ((goW K.pb (w.at d)).at d')

inductive Mode | fresh | beside (j vb k r : Nat) | over (e : Int)

noncomputable def Can (K : PK) (Post : Value → World → Prop) (n : Nat) : Mode → GW
  | .fresh => Ev Try.prog true AtRel D1 (StopL Post (n + 1))
  | .beside j vb k r => MS (K.env j vb) (Ev Try.prog true AtRel D1 (StopL Post n)) (k + 1) r false false
  | .over _ => Ev Try.prog true AtRel D1 (StopL Post n)

def WF (K : PK) (N : Nat) : Mode → World → Prop
  | .fresh, w => N ≤ w.heap.size ∧ PB K.pb K.ci K.cs K.cd false w ∧ w.heap[K.ci]? = some (.chan K.room #[] false 0 0 false) ∧ w.heap[K.cs]? = some (.chan 0 #[] false 0 0 false) ∧ w.heap[K.cd]? = some (.chan 1 #[] false 0 0 false) ∧ K.Br w
  | .beside j vb k r, w => j ≠ 0 ∧ N ≤ vb ∧ vb < w.heap.size ∧ PB K.pb K.ci K.cs K.cd true w
  | .over e, w => N ≤ w.heap.size ∧ w.cell? ⟨K.pb, 5, none⟩ = some (.bool true) ∧ w.cell? ⟨K.pb, 6, none⟩ = some (.int .i64 e) ∧ ∀ n, n < 7 → w.frozen? ⟨K.pb, n, none⟩ = false

/-- What Next and Stop turn: the pump, its channels, what the maker owns. -/
structure Moved (K : PK) (w w' : World) : Prop where
  tape : w'.tape = w.tape
  os : w'.os = w.os
  output : w'.output = w.output
  size : w.heap.size ≤ w'.heap.size
  block : ∀ k, k < w.heap.size → k ≠ K.pb → k ≠ K.ci → k ≠ K.cs → k ≠ K.cd → ¬ K.Z k → w'.heap[k]? = w.heap[k]?
theorem Moved.refl (K : PK) (w : World) : Moved K w w := ⟨rfl, rfl, rfl, Nat.le_refl _, fun _ _ _ _ _ _ _ => rfl⟩
theorem Moved.trans {K : PK} {a b c : World} (h : Moved K a b) (h' : Moved K b c) : Moved K a c :=
  ⟨h'.tape.trans h.tape, h'.os.trans h.os, h'.output.trans h.output, Nat.le_trans h.size h'.size, fun k hk h1 h2 h3 h4 h5 => (h'.block k (Nat.lt_of_lt_of_le hk h.size) h1 h2 h3 h4 h5).trans (h.block k hk h1 h2 h3 h4 h5)⟩
theorem Later.moved {K : PK} {w w' : World} (h : Later K.Z K.ci K.cd w w') : Moved K w w' := ⟨h.tape, h.os, h.output, h.size, fun k hk _ h2 _ h4 h5 => h.block k hk h2 h4 h5⟩
theorem Moved.set {K : PK} (w : World) (n : Nat) (v : Value) : Moved K w (w.setCell ⟨K.pb, n, none⟩ v) := ⟨rfl, rfl, rfl, by simp [World.setCell], fun k _ h1 _ _ _ _ => heap_setCell _ _ _ (Ne.symm h1)⟩
theorem Moved.chanS {K : PK} (w : World) (cap : Nat) (buf : Array Value) (cl : Bool) (a b : Nat) (tm : Bool) : Moved K w (w.setChan K.cs cap buf cl a b tm) := ⟨rfl, rfl, rfl, by simp [World.setChan], fun k _ _ _ h3 _ _ => heap_setChan_ne w _ _ _ _ _ _ (Ne.symm h3)⟩
theorem Moved.at {K : PK} (w : World) (d : Nat) : Moved K w (w.at d) := ⟨rfl, rfl, rfl, Nat.le_refl _, fun _ _ _ _ _ _ _ => rfl⟩
theorem Moved.alloc {K : PK} (w : World) (o : Obj) : Moved K w (w.alloc o) := ⟨rfl, rfl, rfl, by simp, fun k hk _ _ _ _ _ => Below.heap_alloc _ _ _ hk⟩

section
variable {K : PK} {N : Nat} (O : K.Ok N)
include O
theorem PK.Ok.env {j vb : Nat} (hj : j ≠ 0) (hv : N ≤ vb) : (K.env j vb).Ok := env_ok hj O.h1 O.h2 O.h3 (fun a ha => O.cz vb a hv ha) (fun i st e w w' h h' => O.hE vb i st e w w' hv h h')
theorem PK.Ok.below {vb : Nat} (hv : N ≤ vb) : ∀ a, K.C vb a ∨ K.Z a.block → a.block < vb + 1 := fun a h => by
  rcases h with h | h
  · rcases O.kc _ _ h with h | h
    · have := O.lt _ h; omega
    · omega
  · have := O.lt _ (O.kz _ h); omega
theorem PK.Ok.main {j vb : Nat} (hj : j ≠ 0) (hv : N ≤ vb) : MainD K.Z K.ci K.cs K.cd (vb + 1) (K.C vb) (RMx K.Z K.ci K.cd) (DM (K.env j vb)) (EvM (fun l => l = .obj K.ci ∨ ∃ a : Addr, K.Z a.block ∧ l = .cell a) (fun l => ∃ a, K.C vb a ∧ l = .cell a)) :=
  mainD_with (O.env hj hv) (by have := O.lt _ O.ki; omega) (by have := O.lt _ O.ks; omega) (by have := O.lt _ O.kd; omega) (O.below hv) (fun k h => by have := O.lt _ (O.kz _ h); omega)

/-- The walk of whoever calls, in whatever mode. -/
theorem Can.open {Post : Value → World → Prop} {n : Nat} {m : Mode} {w : World} (h : WF K N m w) : ∃ R D Ok Stop C' N', MainD K.Z K.ci K.cs K.cd N' C' R D Ok ∧ N ≤ N' ∧ N' ≤ w.heap.size ∧ (∀ g w, Can K Post n m g w ↔ Ev Try.prog true R D Stop g w) ∧ (∀ w w₁, R w w₁ → WF K N m w → WF K N m w₁) ∧
    ∀ a, C' a → K.Keep a.block ∨ ∃ j vb k r, m = .beside j vb k r ∧ a.block = vb := by
  cases m with
  | fresh =>
    refine ⟨_, _, _, _, fun _ => False, N, mainD_alone K.Z K.ci K.cs K.cd N _ (fun k hk => O.lt _ (O.kz _ hk)) (fun a h => h.elim), Nat.le_refl _, h.1, fun g w => Iff.rfl, ?_, fun a h => h.elim⟩
    rintro w w₁ ⟨d, rfl⟩ ⟨h1, h2, h3, h4, h5, h6⟩
    exact ⟨h1, h2.same rfl, h3, h4, h5, O.hbr _ _ h6 fun _ _ => rfl⟩
  | over e =>
    refine ⟨_, _, _, _, fun _ => False, N, mainD_alone K.Z K.ci K.cs K.cd N _ (fun k hk => O.lt _ (O.kz _ hk)) (fun a h => h.elim), Nat.le_refl _, h.1, fun g w => Iff.rfl, ?_, fun a h => h.elim⟩
    rintro w w₁ ⟨d, rfl⟩ h
    exact h
  | beside j vb k r =>
    obtain ⟨h1, h2, h3, h4⟩ := h
    refine ⟨_, _, _, _, _, vb + 1, O.main h1 h2, by omega, h3, fun g w => Iff.rfl, ?_, fun a h => (O.kc _ _ h).imp id fun e => ⟨j, vb, k, r, rfl, e⟩⟩
    rintro w w₁ h ⟨a1, a2, a3, a4⟩
    exact ⟨a1, a2, by rw [h.size]; exact a3, a4.same (h.block _ O.hpi O.hpd O.hpz)⟩
/-- What stands as long as the blocks that are kept stand. -/
theorem WF.kept {m : Mode} {w w' : World} (h : WF K N m w) (hs : w.heap.size ≤ w'.heap.size) (hk : ∀ k, K.Keep k → w'.heap[k]? = w.heap[k]?) : WF K N m w' := by
  cases m with
  | fresh =>
    obtain ⟨h1, h2, h3, h4, h5, h6⟩ := h
    exact ⟨by omega, h2.same (hk _ O.kp), (hk _ O.ki).trans h3, (hk _ O.ks).trans h4, (hk _ O.kd).trans h5, O.hbr _ _ h6 hk⟩
  | over e =>
    obtain ⟨h1, h2, h3, h4⟩ := h
    exact ⟨by omega, (cell_of_block (hk _ O.kp)).trans h2, (cell_of_block (hk _ O.kp)).trans h3, fun n hn => (froz_of_block (hk _ O.kp)).trans (h4 n hn)⟩
  | beside j vb k r =>
    obtain ⟨h1, h2, h3, h4⟩ := h
    exact ⟨h1, h2, by omega, h4.same (hk _ O.kp)⟩
theorem WF.le {m : Mode} {w : World} (h : WF K N m w) : N ≤ w.heap.size := by
  cases m with
  | fresh => exact h.1
  | over e => exact h.1
  | beside j vb k r => obtain ⟨h1, h2, h3, h4⟩ := h; omega
theorem WF.alloc {m : Mode} {w : World} (h : WF K N m w) (o : Obj) : WF K N m (w.alloc o) := h.kept O (by simp) fun k hk => Below.heap_alloc _ _ _ (Nat.lt_of_lt_of_le (O.lt _ hk) (h.le O))
theorem WF.set {m : Mode} {w : World} (h : WF K N m w) {a : Addr} (ha : ¬ K.Keep a.block) (v : Value) : WF K N m (w.setCell a v) := h.kept O (by simp [World.setCell]) fun k hk => heap_setCell _ _ _ (by rintro rfl; exact ha hk)

omit O in
theorem goW_block (pb d d' : Nat) (w : World) {k : Nat} (h : k < w.heap.size) (hk : k ≠ pb) : ((goW pb (w.at d)).at d').heap[k]? = w.heap[k]? := by
  show (((w.at d).alloc _).setCell _ _).heap[k]? = _
  rw [heap_setCell _ _ _ (by exact Ne.symm hk), Below.heap_alloc _ _ _ (by exact h)]
  rfl
theorem goW_pb (d d' : Nat) {w : World} (hN : N ≤ w.heap.size) (h : PB K.pb K.ci K.cs K.cd false w) : PB K.pb K.ci K.cs K.cd true ((goW K.pb (w.at d)).at d') := by
  have hpb : K.pb < w.heap.size := Nat.lt_of_lt_of_le (O.lt _ O.kp) hN
  have e : ((w.at d).alloc (.cells #[.pointer (some ⟨K.pb, 0, none⟩)] 25)).heap[K.pb]? = w.heap[K.pb]? := Below.heap_alloc _ _ _ (by exact hpb)
  have c : ∀ n, ((w.at d).alloc (.cells #[.pointer (some ⟨K.pb, 0, none⟩)] 25)).cell? ⟨K.pb, n, none⟩ = w.cell? ⟨K.pb, n, none⟩ := fun n => cell_of_block e
  have z : ∀ n, ((w.at d).alloc (.cells #[.pointer (some ⟨K.pb, 0, none⟩)] 25)).frozen? ⟨K.pb, n, none⟩ = w.frozen? ⟨K.pb, n, none⟩ := fun n => froz_of_block e
  have cc : ∀ n, n ≠ 4 → ((goW K.pb (w.at d)).at d').cell? ⟨K.pb, n, none⟩ = w.cell? ⟨K.pb, n, none⟩ := fun n hn => by
    show (((w.at d).alloc _).setCell _ _).cell? _ = _
    rw [World.cell?_setCell_other _ _ _ _ (by simp [Ne.symm hn])]; exact c n
  have zz : ∀ n, ((goW K.pb (w.at d)).at d').frozen? ⟨K.pb, n, none⟩ = w.frozen? ⟨K.pb, n, none⟩ := fun n => by
    show (((w.at d).alloc _).setCell _ _).frozen? _ = _
    rw [World.frozen?_setCell]; exact z n
  refine ⟨⟨(cc 1 (by omega)).trans h.p.i, (zz 1).trans h.p.iz, (cc 2 (by omega)).trans h.p.s, (zz 2).trans h.p.sz, (cc 3 (by omega)).trans h.p.d, (zz 3).trans h.p.dz⟩, ?_, (cc 5 (by omega)).trans h.o, (cc 6 (by omega)).trans h.t, fun n hn => (zz n).trans (h.z n hn)⟩
  show (((w.at d).alloc _).setCell _ _).cell? _ = _
  exact World.cell?_setCell_same _ _ _ (by rw [c 4, h.b])
omit O in
theorem goW_moved (d d' : Nat) (w : World) : Moved K w ((goW K.pb (w.at d)).at d') :=
  ((((Moved.at w d).trans (Moved.alloc _ _)).trans (Moved.set _ 4 (.bool true))).trans (Moved.at _ d'))
omit O in
theorem goW_size (pb d d' : Nat) (w : World) : ((goW pb (w.at d)).at d').heap.size = w.heap.size + 1 := by
  show (((w.at d).alloc _).setCell _ _).heap.size = _
  simp [World.setCell, World.at]
end
end Go.Proofs.Ytnbfmbkglkjhmaa
