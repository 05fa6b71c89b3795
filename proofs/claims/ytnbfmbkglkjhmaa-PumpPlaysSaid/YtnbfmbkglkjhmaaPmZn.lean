import Derived.Test.YtnbfmbkglkjhmaaPmZm
set_option linter.unusedSimpArgs false
set_option linter.unusedVariables false
set_option linter.unusedSectionVars false
namespace Go.Proofs.Ytnbfmbkglkjhmaa
open Go.Conc Go.RowKit Go.Pmp
noncomputable def body3 : Code := Try.f3.body.getD .skip
theorem f3_body : Try.f3.body = some body3 := by simp only [body3, Try.f3, Option.getD_some]

theorem ev_bneq (a b : Bool) (w : World) (es : Array Event) : (binOp BinOp.neq 4 (.bool a) (.bool b)).events Try.prog w es = es := by
  cases a <;> cases b <;> first | rfl | kernel_rfl
noncomputable def loop3 : Code := match body3 with | .seq _ (.seq _ (.seq _ (.seq _ (.seq _ (.seq _ (.seq (.seq _ (.block _ (.loop c))) _)))))) => c | c => c
noncomputable def after3 : Code := match body3 with | .seq _ (.seq _ (.seq _ (.seq _ (.seq _ (.seq _ (.seq _ y)))))) => y | c => c
noncomputable def tail3 : Code := match loop3 with | .seq _ (.seq (.block _ (.seq _ y)) _) => y | c => c
noncomputable def inc3 : Code := match loop3 with | .seq _ (.seq _ y) => y | c => c
/-- Where goroutine 0 stands ahead of a call of the pump: at0 things were taken; ov: it is over. -/
structure Inv (W : World) (sp : Option Addr) (ad : Addr) (len cap room : Nat) (L : Nat → Int) (d : Nat) (m : Mode) (at0 : Nat) (ov : Bool) (w : World) : Prop where
  wf : WF (rowK W.heap.size room sp ad len cap L 7) (W.heap.size + 6) m w
  grew : Grew W w
  gx : w.heap[W.heap.size + 6]? = some (.cells #[.slice sp len cap, .int .i64 at0, .bool ov] 30)
  gs : W.heap.size + 6 < w.heap.size
  le : at0 ≤ len
  vb : ∀ j vb f r, m = .beside j vb f r → W.heap.size + 6 < vb
  st : (ov = false ∧ ModeAt len m at0 (2 * d + 2)) ∨ (ov = true ∧ ∃ x, m = .over x ∧ (at0 = len → x = 7))
end Go.Proofs.Ytnbfmbkglkjhmaa
