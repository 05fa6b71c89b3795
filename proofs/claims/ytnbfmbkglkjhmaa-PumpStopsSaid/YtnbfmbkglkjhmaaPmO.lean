import Derived.Test.YtnbfmbkglkjhmaaPmN
set_option linter.unusedSimpArgs false
set_option linter.unusedVariables false
namespace Go.Proofs.Ytnbfmbkglkjhmaa
open Go.Conc Go.RowKit Go.Pmp

/-- What the maker does to the world, as goroutine 0 sees it: the blocks of two channels. -/
structure RMx (Z : Nat → Prop) (ci cd : Nat) (w w₁ : World) : Prop where
  tape : w₁.tape = w.tape
  os : w₁.os = w.os
  output : w₁.output = w.output
  size : w₁.heap.size = w.heap.size
  block : ∀ k, k ≠ ci → k ≠ cd → ¬ Z k → w₁.heap[k]? = w.heap[k]?
/-- What goroutine 0 does to the world, as the maker sees it: the still cells stand. -/
structure RPx (C : Addr → Prop) (w w₁ : World) : Prop where
  cell : ∀ a, C a → w₁.cell? a = w.cell? a
  froz : ∀ a, C a → w₁.frozen? a = w.frozen? a

theorem cell_of_block {w w₁ : World} {a : Addr} (h : w₁.heap[a.block]? = w.heap[a.block]?) : w₁.cell? a = w.cell? a := by simp only [World.cell?, h]
theorem froz_of_block {w w₁ : World} {a : Addr} (h : w₁.heap[a.block]? = w.heap[a.block]?) : w₁.frozen? a = w.frozen? a := by simp only [World.frozen?, h]

theorem RMx.refl (Z : Nat → Prop) (ci cd : Nat) (w : World) : RMx Z ci cd w w := ⟨rfl, rfl, rfl, rfl, fun _ _ _ _ => rfl⟩
theorem RMx.trans {Z : Nat → Prop} {ci cd : Nat} {a b c : World} (h : RMx Z ci cd a b) (h' : RMx Z ci cd b c) : RMx Z ci cd a c :=
  ⟨h'.tape.trans h.tape, h'.os.trans h.os, h'.output.trans h.output, h'.size.trans h.size, fun k h1 h2 h3 => (h'.block k h1 h2 h3).trans (h.block k h1 h2 h3)⟩
theorem RMx.chan {Z : Nat → Prop} {ci cd c : Nat} (hc : c = ci ∨ c = cd) (w : World) (cap : Nat) (buf : Array Value) (cl : Bool) (s r : Nat) (tm : Bool) : RMx Z ci cd w (w.setChan c cap buf cl s r tm) :=
  ⟨rfl, rfl, rfl, by simp [World.setChan], fun k h1 h2 _ => heap_setChan_ne w _ _ _ _ _ _ (by omega)⟩
theorem RPx.chan {C : Addr → Prop} {c : Nat} (hc : ∀ a, C a → a.block ≠ c) (w : World) (cap : Nat) (buf : Array Value) (cl : Bool) (s r : Nat) (tm : Bool) : RPx C w (w.setChan c cap buf cl s r tm) :=
  ⟨fun a ha => cell_of_block (heap_setChan_ne w _ _ _ _ _ _ (Ne.symm (hc a ha))), fun a ha => froz_of_block (heap_setChan_ne w _ _ _ _ _ _ (Ne.symm (hc a ha)))⟩

/-- The concrete making. -/
noncomputable abbrev envC (Z : Nat → Prop) (top j ci cs cd room : Nat) (f : Nat → Value) (Q : Nat → Prop) (End : Nat → Bool → Value → World → Prop) (C : Addr → Prop) : Env :=
  env top j ci cs cd room f Q End (fun l => l = .obj ci ∨ ∃ a : Addr, Z a.block ∧ l = .cell a) (fun l => ∃ a, C a ∧ l = .cell a) (RMx Z ci cd) (RPx fun a => C a ∨ Z a.block)

theorem env_ok {Z : Nat → Prop} {top j ci cs cd room : Nat} {f : Nat → Value} {Q : Nat → Prop} {End : Nat → Bool → Value → World → Prop} {C : Addr → Prop} (hj : j ≠ 0) (h1 : ci ≠ cs) (h2 : ci ≠ cd) (h3 : cs ≠ cd)
    (hC : ∀ a, C a ∨ Z a.block → a.block ≠ ci ∧ a.block ≠ cs ∧ a.block ≠ cd) (hE : ∀ i st e w w', RPx (fun a => C a ∨ Z a.block) w w' → End i st e w → End i st e w') : (envC Z top j ci cs cd room f Q End C).Ok where
  hj := hj
  h1 := h1
  h2 := h2
  h3 := h3
  rmT _ _ _ h h' := h.trans h'
  rmAt w d := ⟨rfl, rfl, rfl, rfl, fun _ _ _ _ => rfl⟩
  rmI w := RMx.chan (.inl rfl) w
  rmD w := RMx.chan (.inr rfl) w
  rpT _ _ _ h h' := ⟨fun a ha => (h'.cell a ha).trans (h.cell a ha), fun a ha => (h'.froz a ha).trans (h.froz a ha)⟩
  rpAt w d := ⟨fun _ _ => rfl, fun _ _ => rfl⟩
  rpI w := RPx.chan (fun a ha => (hC a ha).1) w
  rpS w := RPx.chan (fun a ha => (hC a ha).2.1) w
  rpD w := RPx.chan (fun a ha => (hC a ha).2.2) w
  endR i st e w w' h h' := hE i st e w w' h h'
  ownI := .inl rfl
  notS := ⟨fun h => h.elim (fun h => h1 (Loc.obj.inj h).symm) (fun ⟨a, _, h⟩ => by cases h), fun ⟨a, _, h⟩ => by cases h⟩
end Go.Proofs.Ytnbfmbkglkjhmaa
