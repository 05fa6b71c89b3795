import Derived.Test.YtnbfmbkglkjhmaaPmU
import Derived.Conc.CompanyMem
set_option linter.unusedSimpArgs false
set_option linter.unusedVariables false
set_option linter.unusedSectionVars false
namespace Go.Pmp
open Go.Conc

/-! From the walks whose steps are counted to those whose steps are not. -/
section
variable {P : Program} {main : Bool} {R : World → World → Prop} {D : World → World → Array Event → Prop} {Ok : Event → Prop} {Stop S' : GW}
theorem Quiet.terms (T : Quiet R D Ok) : Terms R D := ⟨T.trans, T.idle⟩
theorem Ev.ofGoes (T : Quiet R D Ok) : ∀ {n : Nat} {g : Goroutine} {w : World}, Goes P main R D S' n g w → (∀ g w, S' g w → Ev P main R D Stop g w) → Ev P main R D Stop g w
  | 0, g, w, h, hS => hS g w (h w (T.refl w))
  | n + 1, g, w, h, hS => by
    rcases h with h | ⟨hs, h⟩
    · exact hS g w (h w (T.refl w))
    · refine .step hs (fun w₁ h₁ => ?_) fun w₁ g' w' es h₁ e => ?_
      · obtain ⟨g', w', es, e, hd, _⟩ := goes_elim (h w₁ h₁)
        exact ⟨g', w', es, e, hd⟩
      · have := h w₁ h₁
        rw [e] at this
        exact Ev.ofGoes T this.2 hS

/-- Where the walk goes on behind a piece of code. -/
def AfterE (P : Program) (main : Bool) (R : World → World → Prop) (D : World → World → Array Event → Prop) (Stop : GW) (b : Frame) (k : List Item) (cs : List Frame) : Exit → Act → World → Prop
  | .normal, a, w => Ev P main R D Stop (G (b.at a k) cs) w
  | .exit id, a, w => ∃ k', exitTo id k = some k' ∧ Ev P main R D Stop (G (b.at a k') cs) w
  | .ret, a, w => ∀ todo, Ev P main R D Stop (G { b.at a todo with mode := .returning } cs) w
  | _, _, _ => False
/-- A piece of code that is walked at the kit's grain. -/
theorem Ev.code (T : Quiet R D Ok) {c : Code} {n : Nat} {Q : Exit → Act → World → Prop} {b : Frame} {a : Act} {k : List Item} {cs : List Frame} {w : World} (h : c.wpC P main R D b.fn n Q a w) (hk : b.kind ≠ .early)
    (hc : ∀ e a' w', Q e a' w' → AfterE P main R D Stop b k cs e a' w') : Ev P main R D Stop (G (b.at a (.code c :: k)) cs) w := by
  refine Ev.ofGoes T (S' := fun g w => Ev P main R D Stop g w) (h b k cs _ 0 rfl hk fun e a' w' q => ?_) (fun _ _ h => h)
  have := hc e a' w' q
  cases e with
  | normal => exact fun w₁ h₁ => Ev.rely T.trans this h₁
  | exit id =>
    obtain ⟨k', hk', hg⟩ := this
    exact ⟨k', hk', fun w₁ h₁ => hg.rely T.trans h₁⟩
  | ret => exact fun todo w₁ h₁ => (this todo).rely T.trans h₁
  | goto l => exact this.elim
  | panic ch => exact this.elim
  | outgrown => exact this.elim
end
end Go.Pmp

namespace Go.Proofs.Ytnbfmbkglkjhmaa
open Go.Conc Go.RowKit Go.Pmp

/-- Goroutine 0 stands at a go statement; both follow their scripts. -/
def AtPumps (Fin : GW) : GW := AtGo fun a' child W => ∀ j, j ≠ 0 → ∃ (Z : Nat → Prop) (top ci cs cd room : Nat) (f : Nat → Value) (Q : Nat → Prop) (End : Nat → Bool → Value → World → Prop) (C : Addr → Prop) (km kp : Nat),
  (envC Z top j ci cs cd room f Q End C).Ok ∧ W.heap[ci]? = some (.chan room #[] false 0 0 false) ∧ W.heap[cs]? = some (.chan 0 #[] false 0 0 false) ∧ W.heap[cd]? = some (.chan 1 #[] false 0 0 false) ∧
  MS (envC Z top j ci cs cd room f Q End C) Fin km 0 false false a' W ∧ PS (envC Z top j ci cs cd room f Q End C) kp 0 false false child W

/-- Goroutine 0 on its way: it comes to its end, behind at most n pumps. -/
def StopL (Post : Value → World → Prop) : Nat → GW
  | 0 => fun g w => ∀ d, AtDone Try.prog Post g (w.at d)
  | n + 1 => fun g w => (∀ d, AtDone Try.prog Post g (w.at d)) ∨ AtPumps (Ev Try.prog true AtRel D1 (StopL Post n)) g w

theorem StopL.more (Post : Value → World → Prop) : ∀ (n : Nat) (g : Goroutine) (w : World), StopL Post n g w → StopL Post (n + 1) g w
  | 0, g, w, h => .inl h
  | n + 1, g, w, h => by
    rcases h with h | ⟨h1, a', child, h2, h3⟩
    · exact .inl h
    · refine .inr ⟨h1, a', child, h2, fun j hj => ?_⟩
      obtain ⟨Z, top, ci, cs, cd, room, f, Q, End, C, km, kp, e1, e2, e3, e4, e5, e6⟩ := h3 j hj
      refine ⟨Z, top, ci, cs, cd, room, f, Q, End, C, km, kp, e1, e2, e3, e4, ?_, e6⟩
      exact MS.fin (fun g w h => Ev.mono h (StopL.more Post n)) _ _ _ _ _ _ e5
where MS.fin {E : Env} {F F' : GW} (hF : ∀ g w, F g w → F' g w) : ∀ (k r : Nat) (X S : Bool) (g : Goroutine) (w : World), MS E F k r X S g w → MS E F' k r X S g w
  | 0, _, _, _, _, _, h => h.elim
  | k + 1, r, X, S, g, w, h => Ev.mono h fun g w hs => by
    rcases hs with ⟨e, e', h1, h0, es, h2, h3, h4, h5⟩ | ⟨e, e', h1, h2, g', h3, h4, h5⟩ | ⟨h0, h1, es, h2, h3, h4⟩
    · exact .inl ⟨e, e', h1, h0, es, h2, h3, fun w₁ h hq => MS.fin hF k _ _ _ _ _ (h4 w₁ h hq), fun w₁ h => MS.fin hF k _ _ _ _ _ (h5 w₁ h)⟩
    · exact .inr (.inl ⟨e, e', h1, h2, g', h3, h4, MS.fin hF k _ _ _ _ _ h5⟩)
    · exact .inr (.inr ⟨h0, h1, es, h2, h3, fun w₁ i st e a1 a2 a3 a4 a5 a6 => hF _ _ (h4 w₁ i st e a1 a2 a3 a4 a5 a6)⟩)

theorem lives_glue {Post : Value → World → Prop} {N : Nat} {gs gs' : Array Goroutine} {w w' : World} {sl sl' : Option (Nat × Nat)} {t t' : Trace} (e : runNT Try.prog N (crowd gs w sl) t = (.next (crowd gs' w' sl'), t'))
      (h : ∃ N last o w'' t'', runNT Try.prog (N + 1) (crowd gs' w' sl') t' = (.ended o w'', t'') ∧ runN Try.prog N (crowd gs' w' sl') = .next last ∧ step Try.prog last = .ended o w'' ∧ Conc.Good Try.prog Post last o w'' t'') :
      ∃ N last o w'' t'', runNT Try.prog (N + 1) (crowd gs w sl) t = (.ended o w'', t'') ∧ runN Try.prog N (crowd gs w sl) = .next last ∧ step Try.prog last = .ended o w'' ∧ Conc.Good Try.prog Post last o w'' t'' := by
    obtain ⟨M, last, o, w'', t'', e1, e2, e3, e4⟩ := h
    refine ⟨N + M, last, o, w'', t'', by rw [Nat.add_assoc, runNT_add, e]; exact e1, ?_, e3, e4⟩
    rw [← runNT_fst Try.prog _ _ t, runNT_add, e]
    show (runNT Try.prog M (crowd gs' w' sl') t').1 = _
    rw [runNT_fst]
    exact e2

/-- The whole run. -/
theorem lives {Post : Value → World → Prop} : ∀ (n : Nat) (a : Goroutine) (w : World), Ev Try.prog true AtRel D1 (StopL Post n) a w → ∀ (gs : Array Goroutine) (sl : Option (Nat × Nat)) (t : Trace) (q : Nat → Nat), Lone Try.prog a gs t q →
    ∃ N last o w' t', runNT Try.prog (N + 1) (crowd gs w sl) t = (.ended o w', t') ∧ runN Try.prog N (crowd gs w sl) = .next last ∧ step Try.prog last = .ended o w' ∧ Conc.Good Try.prog Post last o w' t'
  | 0, a, w, h, gs, sl, t, q, H => Lone.ends (fun _ _ _ h => h) H h
  | n + 1, a, w, h, gs, sl, t, q, H => by
    obtain ⟨N1, a1, gs1, w1, sl1, t1, q1, r1, s1, H1, hs⟩ := Lone.walk (fun _ _ _ h => h) h gs sl t q H
    rcases hs with hs | ⟨hrun, a', child, hgo, hK⟩
    · exact lives_glue r1 (Lone.ends (D := D1) (fun _ _ _ h => h) H1 (.stop fun w₁ ⟨d, e⟩ d' => by subst e; exact hs d'))
    · have hpos : gs1.size ≠ 0 := by
        have := (Array.getElem?_eq_some_iff.1 H1.h0).1
        omega
      obtain ⟨Z, top, ci, cs, cd, room, f, Q, End, C, km, kp, O, c1, c2, c3, hm, hp⟩ := hK gs1.size hpos
      obtain ⟨N2, b, gs2, w2, sl2, t2, q2, r2, H2, hF⟩ := pump (sl := sl1) O rfl H1 hrun hgo (by simp) c1 c2 c3 hm hp
      exact lives_glue r1 (lives_glue r2 (lives n b w2 hF gs2 sl2 t2 q2 H2))
/-- How goroutine 0 may go, with draws. -/
structure MainD (Z : Nat → Prop) (ci cs cd N : Nat) (C : Addr → Prop) (R : World → World → Prop) (D : World → World → Array Event → Prop) (Ok : Event → Prop) : Prop extends Main Z ci cs cd N C R D Ok where
  cb : ∀ a, C a → a.block < N
  draw : LetsDraw D
  grow : ∀ (w w' : World) (row : Option Nat) (es : Array Event), N ≤ w.heap.size → w.grownBy w' row → (∀ k, row = some k → k ≠ ci ∧ k ≠ cs ∧ k ≠ cd ∧ ¬ Z k ∧ ∀ a, C a → a.block ≠ k) → (∀ e ∈ es, Ok e) → D w w' es
  acc : ∀ (a : Addr) (wr sy : Bool), ¬ Z a.block → (wr = true → ¬ C a) → Ok ⟨.cell a, wr, sy⟩
  mark : ∀ m, Neutral m → Ok ⟨.mark m, false, true⟩
  rdraw : ∀ w d, R w (w.at d)
theorem mainD_alone (Z : Nat → Prop) (ci cs cd N : Nat) (C : Addr → Prop) (hz : ∀ k, Z k → k < N) (hc : ∀ a, C a → a.block < N) : MainD Z ci cs cd N C AtRel D1 Ev1 := ⟨main_alone Z ci cs cd N C hz, hc, fun w e he => by simp at he, fun _ _ _ _ _ _ _ h => h, fun a wr sy _ _ => by simp [Ev1], fun m h => ⟨fun e => h.ne_disable (by cases e; rfl), fun e => h.ne_enable (by cases e; rfl)⟩, fun w d => ⟨d, rfl⟩⟩
theorem mainD_with {Z : Nat → Prop} {top j ci cs cd room N : Nat} {f : Nat → Value} {Q : Nat → Prop} {End : Nat → Bool → Value → World → Prop} {C : Addr → Prop} (O : (envC Z top j ci cs cd room f Q End C).Ok) (h1 : ci < N) (h2 : cs < N) (h3 : cd < N) (hC : ∀ a, C a ∨ Z a.block → a.block < N) (hz : ∀ k, Z k → k < N) : MainD Z ci cs cd N C (RMx Z ci cd) (DM (envC Z top j ci cs cd room f Q End C)) (EvM (fun l => l = .obj ci ∨ ∃ a : Addr, Z a.block ∧ l = .cell a) (fun l => ∃ a, C a ∧ l = .cell a)) :=
  ⟨main_with O h1 h2 h3 hC hz, fun a h => hC a (.inl h), fun w => ⟨by simp, rfl, rfl, rfl, O.rpAt w _⟩,
  fun w w' row es hN hg hr h => ⟨h, hg.block ci (by omega) (fun e => (hr _ e.symm).1 rfl), hg.block cs (by omega) (fun e => (hr _ e.symm).2.1 rfl), hg.block cd (by omega) (fun e => (hr _ e.symm).2.2.1 rfl),
    ⟨fun a ha => cell_of_block (hg.block a.block (by have := hC a ha; omega) (fun e => ha.elim (fun ha => (hr _ e.symm).2.2.2.2 a ha rfl) (hr _ e.symm).2.2.2.1)), fun a ha => froz_of_block (hg.block a.block (by have := hC a ha; omega) (fun e => ha.elim (fun ha => (hr _ e.symm).2.2.2.2 a ha rfl) (hr _ e.symm).2.2.2.1))⟩⟩,
  fun a wr sy hz hc => ⟨fun x hx => by simp [MemAct.ofEvent, MemAct.touch?] at hx; subst hx; exact ⟨fun h => h.elim (fun h => by cases h) (fun ⟨b, hb, e⟩ => hz ((Loc.cell.inj e) ▸ hb)), fun ⟨b, hb, e⟩ => by cases wr with | false => rfl | true => exact absurd ((Loc.cell.inj e) ▸ hb) (hc rfl)⟩, by simp [Ev1]⟩,
  fun m h => ⟨fun x hx => by unfold Neutral at h; subst h; simp [MemAct.ofEvent, MemAct.touch?] at hx, fun e => h.ne_disable (by cases e; rfl), fun e => h.ne_enable (by cases e; rfl)⟩, fun w d => ⟨rfl, rfl, rfl, rfl, fun _ _ _ _ => rfl⟩⟩
end Go.Proofs.Ytnbfmbkglkjhmaa
