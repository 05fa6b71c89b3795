import Derived.Test.YtnbfmbkglkjhmaaPmZg
import Derived.Conc.AppendWalk
set_option linter.unusedSimpArgs false
set_option linter.unusedVariables false
set_option linter.unusedSectionVars false
namespace Go.Proofs.Ytnbfmbkglkjhmaa
open Go.Conc Go.RowKit Go.Pmp

/-- Where goroutine 0 stands when k things were taken and it is not over. -/
def ModeAt (len : Nat) (m : Mode) (k : Nat) (F : Nat) : Prop := (m = .fresh ∧ k = 0) ∨ ∃ j vb, m = .beside j vb F k
/-- A block that neither the pump nor its maker knows. -/
def FreeB (K : PK) (m : Mode) (k : Nat) : Prop := ¬ K.Keep k ∧ ∀ j vb f r, m = .beside j vb f r → k ≠ vb

/-- What the mode behind a Next has to do with the one ahead of it. -/
def Link (w : World) (m m' : Mode) : Prop := ∀ j vb f r, m' = .beside j vb f r → (m = .fresh ∧ vb = w.heap.size) ∨ ∃ f' r', m = .beside j vb f' r'
theorem Link.free {K : PK} {w : World} {m m' : Mode} (h : Link w m m') {x : Nat} (hx : x < w.heap.size) (hf : FreeB K m x) : FreeB K m' x :=
  ⟨hf.1, fun j vb f r e => by
    rcases h j vb f r e with ⟨_, rfl⟩ | ⟨f', r', e'⟩
    · omega
    · exact hf.2 _ _ _ _ e'⟩

section
variable {B room : Nat} {sp : Option Addr} {ad : Addr} {len cap : Nat} {L : Nat → Int} {e : Int} (O : (rowK B room sp ad len cap L e).Ok (B + 6)) {Post : Value → World → Prop} {n : Nat} {b : Frame} {a : Act} {ops : Array Oper} {ii : Nat} {rest : List Nat} {kk : List Item} {cs0 : List Frame} {w : World}
include O
theorem next_row {m : Mode} {k F : Nat} (h : WF (rowK B room sp ad len cap L e) (B + 6) m w) (hm : ModeAt len m k (F + 2)) (hk : k ≤ len)
    (h1 : k < len → ∀ m' w', ModeAt len m' (k + 1) F → Moved (rowK B room sp ad len cap L e) w w' → WF (rowK B room sp ad len cap L e) (B + 6) m' w' → Link w m m' → Can (rowK B room sp ad len cap L e) Post n m' (G (b.at (a.put ((ops[ii]?).bind (·.dst)) (.tuple #[.int .i64 (L k), .bool true])) (.inRegion ops rest :: kk)) cs0) w')
    (h2 : k = len → ∀ w', Moved (rowK B room sp ad len cap L e) w w' → WF (rowK B room sp ad len cap L e) (B + 6) (.over e) w' → Can (rowK B room sp ad len cap L e) Post n (.over e) (G (b.at (a.put ((ops[ii]?).bind (·.dst)) (.tuple #[.int .i64 0, .bool false])) (.inRegion ops rest :: kk)) cs0) w') :
    Can (rowK B room sp ad len cap L e) Post n m (G (ent10 (B + 2)) (b.at a (.inRegion ops (ii :: rest) :: kk) :: cs0)) w := by
  rcases hm with ⟨rfl, rfl⟩ | ⟨j, vb, rfl⟩
  · refine next_fresh O h F (fun j w' M W hQ => ?_) (fun w' x M W hE => ?_)
    · exact h1 hQ _ w' (.inr ⟨j, _, rfl⟩) M W fun _ _ _ _ e => by cases e; exact .inl ⟨rfl, rfl⟩
    · obtain ⟨i1, i2⟩ := hE.1 rfl
      cases i2
      exact h2 i1 w' M W
  · refine next_beside O h (by show k < len + 1; omega) (fun w' M W hQ => ?_) (fun w' x M W hE => ?_)
    · exact h1 hQ _ w' (.inr ⟨j, vb, rfl⟩) M W fun _ _ _ _ e => by cases e; exact .inr ⟨_, _, rfl⟩
    · obtain ⟨i1, i2⟩ := hE.1 rfl
      cases i2
      exact h2 i1 w' M W
theorem stop_row {m : Mode} {k F : Nat} (h : WF (rowK B room sp ad len cap L e) (B + 6) m w) (hm : ModeAt len m k (F + 2))
    (h2 : ∀ w' x, Moved (rowK B room sp ad len cap L e) w w' → WF (rowK B room sp ad len cap L e) (B + 6) (.over x) w' → (len ≤ k → x = e) → Can (rowK B room sp ad len cap L e) Post n (.over x) (G (b.at (a.put ((ops[ii]?).bind (·.dst)) (.int .i64 0)) (.inRegion ops rest :: kk)) cs0) w') :
    Can (rowK B room sp ad len cap L e) Post n m (G (ent12 (B + 2)) (b.at a (.inRegion ops (ii :: rest) :: kk) :: cs0)) w := by
  have fin : ∀ (w' : World) x i st, k ≤ i → (rowK B room sp ad len cap L e).End i st (.int .i64 x) w' → len ≤ k → x = e := by
    intro w' x i st hi hE hk
    cases st with
    | false => exact (Value.int.inj (hE.1 rfl).2).2
    | true => have := (hE.2 rfl).1; omega
  rcases hm with ⟨rfl, rfl⟩ | ⟨j, vb, rfl⟩
  · exact stop_fresh O h fun w' x i st M W hi hE => h2 w' x M W (fin w' x i st (Nat.zero_le _) hE)
  · exact stop_beside O h fun w' x i st M W h3 h4 hE => h2 w' x M W (fin w' x i st h3 hE)
theorem end_row {m : Mode} {k F : Nat} (h : WF (rowK B room sp ad len cap L e) (B + 6) m w) (hm : ModeAt len m k F)
    (h1 : Can (rowK B room sp ad len cap L e) Post n m (G (b.at (a.put ((ops[ii]?).bind (·.dst)) (.tuple #[.int .i64 0, .bool false])) (.inRegion ops rest :: kk)) cs0) w) :
    Can (rowK B room sp ad len cap L e) Post n m (G (ent13 (B + 2)) (b.at a (.inRegion ops (ii :: rest) :: kk) :: cs0)) w :=
  end_not O h (fun x hx => by subst hx; rcases hm with ⟨h, _⟩ | ⟨_, _, h⟩ <;> cases h) h1
end
end Go.Proofs.Ytnbfmbkglkjhmaa
