import Derived.Test.YtnbfmbkglkjhmaaPmZf
import Derived.Conc.LeavingOf
import Derived.Conc.Beside
import Derived.JoinedCond
import Derived.KernelRfl
import Derived.Laws.Rows
import Derived.Laws.NewBlocks
import Derived.Laws.Alloc2
set_option linter.unusedSimpArgs false
set_option linter.unusedVariables false
set_option linter.unusedSectionVars false
namespace Go.Proofs.Ytnbfmbkglkjhmaa
open Go.Conc Go.RowKit Go.Pmp

theorem lone0 (a : Goroutine) : Lone Try.prog a #[a] #[] (fun _ => 0) where
  h0 := rfl
  old y g hy h := by
    rw [Array.getElem?_eq_none (by simp; omega)] at h
    cases h
  above y _ := rfl
  cl := ⟨past_nil.clean, fun i a h _ => by simp [touchAt, Trace.act?] at h, rfl⟩
/-- From the walk to the run. -/
theorem the_run {f : FuncId} {args : Array Value} {fr : Frame} {n : Nat} (W : World) (he : Frame.enter Try.prog f args .normal = fr) (h : Ev Try.prog true AtRel D1 (StopL (PostT W) n) (G fr []) W) :
    ∃ M last o w' t', runNT Try.prog (M + 1) (solo (G (Frame.enter Try.prog f args .normal) []) W) #[] = (.ended o w', t') ∧ runN Try.prog M (solo (G (Frame.enter Try.prog f args .normal) []) W) = .next last ∧ step Try.prog last = .ended o w' ∧ Conc.Good Try.prog (PostT W) last o w' t' := by
  rw [he, solo_eq_crowd]
  exact lives n _ _ h _ _ _ _ (lone0 _)
end Go.Proofs.Ytnbfmbkglkjhmaa
