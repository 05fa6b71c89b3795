/- What is taken from a pump of a row is what was put, in its order, and what is told at the end: for every row, room and number. -/
import Derived.Test.YtnbfmbkglkjhmaaPmZk
import Derived.Test.YtnbfmbkglkjhmaaPmZl
set_option linter.unusedSimpArgs false
set_option linter.unusedVariables false
namespace Go.Proofs.Ytnbfmbkglkjhmaa
open Go.Conc Go.RowKit Go.Pmp
open Go.ChangeShapes Go.WideShapes Go.ChangeAt
theorem own5 : ownKnob Try.prog.godebug = none := by kernel_rfl
theorem runs5 (H : Type) (enc : TypeId × Value → H) (W : World) (bs : Nat) (args : Array Value) (ds gs : List (DataW H)) (before : List MemPlace)
    (hval0 : ∀ (j : Nat) t v, Try.f5.params[j]? = some t → args[j]? = some v → Value.okWide Try.prog W .any bs t v)
    (hW : DataW.Whole enc Try.prog Try.f5.params.toList Rows.pumpTakesSpec.vars false W args.toList ds gs before) :
    ∃ M last o w' t', runNT Try.prog (M + 1) (solo (G (Frame.enter Try.prog 5 args .normal) []) W) #[] = (.ended o w', t') ∧ runN Try.prog M (solo (G (Frame.enter Try.prog 5 args .normal) []) W) = .next last ∧
      step Try.prog last = .ended o w' ∧ Conc.Good Try.prog (fun v W' => Rows.pumpTakesSpec.post enc Try.prog Try.f5 false true false false W args v W') last o w' t' := by
  have hval : ∀ (j : Nat) t v, Try.f5.params[j]? = some t → args[j]? = some v → Value.okWide Try.prog W .any bs t v := hval0
  have hW' := hW
  obtain ⟨p, q, hA0, hV, rfl, _, _⟩ := hW
  have hA : DataW.TrodAll enc Try.prog W 0 (fun _ => true) true Try.f5.params.toList args.toList ds p := hA0
  rw [Try.params5] at hA hval
  obtain ⟨v0, v1, v2, d0, d1, d2, p0, p1, p2, rfl, rfl, rfl, h0, h1, h2⟩ := trodAll_three hA
  obtain ⟨rfl, rfl⟩ := trodVars_none hV
  obtain ⟨sp, ad, len, cap, L, rfl, hlc, hcap, hsp, had, hx⟩ := open_row22 (hval 0 22 v0 rfl rfl) h0
  obtain ⟨rm, rfl, rfl, rfl, wr⟩ := open_int Try.underlying5 (hval 1 5 v1 rfl rfl) h1
  obtain ⟨most, rfl, rfl, rfl, wm⟩ := open_int Try.underlying3 (hval 2 3 v2 rfl rfl) h2
  obtain ⟨r0, r255⟩ := wf_u8 wr
  obtain ⟨m0, m1⟩ := wf_i64 wm
  obtain ⟨room, rfl⟩ : ∃ n : Nat, rm = (n : Int) := ⟨rm.toNat, by omega⟩
  clear hA0 hval0
  simp only [List.append_nil] at hW' 
  have hlt : ∀ x ∈ p0, x.block < W.heap.size := fun x hx => by simpa using hW'.lt x hx
  have hev := (takes_ev W (room := room) hlc hcap hsp had hx (by omega) m0 m1)
  obtain ⟨M, last, o, w', t', r1, r2, r3, r4⟩ := the_run (f := 5) (args := #[.slice sp len cap, .int .u8 room, .int .i64 most]) W (by simp [Frame.enter, Frame.at, Try.func5, base, body5, Try.f5]) hev
  refine ⟨M, last, o, w', t', r1, r2, r3, r4.mono fun v hF => ?_⟩
  obtain ⟨rfl, hbelow⟩ := hF
  exact ⟨_, _, _, [], _, [], hW', trodAll_mk1 (shut_bool Try.underlying4 true), trodAll_mk3 (Below.trod laidOut (by kernel_rfl) (of_decide_eq_true (by kernel_rfl)) h0 hbelow hlt) (shut_int Try.underlying5 wr) (shut_int Try.underlying3 wm), rfl, hbelow.frame _, fun h => by cases h⟩
set_option maxRecDepth 100000 in
theorem lifted5 (os : Os) (started : os.Started) (H : Type) (enc : TypeId × Value → H) :
    ReturnsInLeavingWide {} Try.checked os 5 .any (Rows.pumpTakesSpec.pre6 enc Try.prog Try.f5 Rows.pumpTakesRow.domain false) (Rows.pumpTakesSpec.post enc Try.prog Try.f5 false true false false) := by
  refine returnsInLeavingWide_of_change_sized (C := Try.checked) own5 started Try.func5
    (ChangeSpec.witness6 (enc := enc) (C := Try.checked) false ⟨#[], #[.slice none 0 0, .int .u8 0, .int .i64 0], []⟩ 8 (by kernel_rfl) (by kernel_rfl) (by kernel_rfl) (by kernel_rfl)) ?_
  intro W bs args ds gs before hval hW _ _ _
  exact runs5 H enc W bs args ds gs before hval hW

theorem pumpTakes.proved : Rows.PumpTakesSaid :=
  OpenClaim.holds_of_wide_leaving 5 Try.f5 rfl rfl rfl rfl rfl rfl rfl ⟨rfl, rfl, rfl, rfl, rfl⟩ rfl rfl rfl rfl rfl (by kernel_rfl) Try.func5 (by kernel_rfl)
    (of_decide_eq_true (by kernel_rfl)) (by unfold Func.isWrapper; first | (rw [if_pos (by decide +kernel)]; kernel_rfl) | (rw [if_neg (by decide +kernel)]; exact ⟨rfl, rfl⟩))
    (fun os started H enc _ => lifted5 os started H enc)
#print axioms pumpTakes.proved
end Go.Proofs.Ytnbfmbkglkjhmaa
