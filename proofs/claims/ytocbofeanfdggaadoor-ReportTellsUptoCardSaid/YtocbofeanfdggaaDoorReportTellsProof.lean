/- The law ReportTells holds of every input that its statement speaks of; no condition of our own. The frame follows the kit's worked toy of a law over package-level tables. -/
import Derived.Test.YtocbofeanfdggaaDoorRows
import Derived.Test.YtocbofeanfdggaaDoorCards
import Derived.Test.YtocbofeanfdggaaDoorTie
import Derived.Test.YtocbofeanfdggaaDoorRpG
import Derived.Test.YtocbofeanfdggaaDoorRpS
import Derived.Test.YtocbofeanfdggaaDoorS18
import Derived.WalkKit
import Derived.ProofKit
import Derived.OpenShut
import Derived.ShutString
import Derived.ChangeOld
import Derived.Below
import Derived.Deep.DeepHandedRow
import Derived.Lib.LaidTab
import Derived.Lib.SmallJoins
namespace Go.Proofs.YtocbofeanfdggaaDoor.reportTells
open Go.ChangeShapes Go.WideShapes Go.ChangeAt Go.RowKit
open Go.ChangeMaps (open_string shut_string)
set_option linter.unusedVariables false
theorem own : ownKnob Tryd.prog.godebug = none := by kernel_rfl
theorem laidOut : laidOutB Tryd.prog = true := by kernel_rfl
theorem classesOf {W : World} (h : laidMet Tryd.prog Rows.reportTellsUptoRow.laid W) : TabS W 0 classL := by
  obtain ⟨T, fr, hb⟩ := laid_block h "narthex/report.classes" Rows.laid_narthex_report_classes (by repeat (first | exact List.mem_cons_self | apply List.mem_cons_of_mem)) 0 8 classRow (by kernel_rfl) (by kernel_rfl)
  exact TabS.of classL classRow rfl hb
theorem wordsOf {W : World} (h : laidMet Tryd.prog Rows.reportTellsUptoRow.laid W) : TabS W 1 wordL := by
  obtain ⟨T, fr, hb⟩ := laid_block h "narthex/report.words" Rows.laid_narthex_report_words (by repeat (first | exact List.mem_cons_self | apply List.mem_cons_of_mem)) 1 8 wordRow (by kernel_rfl) (by kernel_rfl)
  exact TabS.of wordL wordRow rfl hb
theorem powOf {W : World} (h : laidMet Tryd.prog Rows.reportTellsUptoRow.laid W) : Lib.TabIs Tryd.prog W "internal/strconv.uint64pow10" .u64 Lib.pow10Tab := by
  exact laid_var h "internal/strconv.uint64pow10" Rows.laid_internal_strconv_uint64pow10 (by repeat (first | exact List.mem_cons_self | apply List.mem_cons_of_mem)) 2 8 (Lib.pow10Tab.map fun z => Value.int .u64 z) (by kernel_rfl) (by kernel_rfl)
set_option maxRecDepth 100000 in
theorem contract (H : Type) (enc : TypeId × Value → H) (W : World) (base : Nat) (args : Array Value) (ds gs : List (DataW H)) (before : List MemPlace)
    (hval : ∀ (j : Nat) t v, Tryd.f3.params[j]? = some t → args[j]? = some v → Value.okWide Tryd.prog W .any base t v)
    (hW : DataW.Whole enc Tryd.prog Tryd.f3.params.toList Rows.reportTellsSpec.vars false W args.toList ds gs before) (hL : laidMet Tryd.prog Rows.reportTellsUptoRow.laid W) (hsh : W.ShapedOpen Tryd.prog) (hk : Rows.uptoSmall H (ds ++ gs) = true) :
    Calls Tryd.prog 3 args W fun e W' => ∃ v, e = .returned v ∧ Rows.reportTellsSpec.post enc Tryd.prog Tryd.f3 false true false false W args v W' := by
  have hW' := hW
  obtain ⟨p, q, hA0, hV, rfl, hfz, hnd⟩ := hW
  have hA : DataW.TrodAll enc Tryd.prog W 0 (fun _ => true) true Tryd.f3.params.toList args.toList ds p := hA0
  rw [Tryd.params3] at hA hval
  obtain ⟨v0, vs0, d0, ds0, p0, q0, hargs, rfl, rfl, h0, r0⟩ := trodAll_cons hA
  obtain ⟨rfl, rfl, rfl⟩ := trodAll_nil r0
  obtain rfl : args = #[v0] := by cases args; simp_all
  obtain ⟨rfl, rfl⟩ := trodVars_none hV
  obtain ⟨c0, rfl, s0⟩ := okWide_struct Tryd.underlying26 (hval 0 26 v0 rfl rfl)
  have k0 := h0
  have lt0 : ∀ x ∈ p0, x.block < W.heap.size := by obtain ⟨m, hm⟩ := k0; exact DataW.trod_lt m _ _ _ hm
  obtain ⟨EA, en, ec, vs, e, c, SA, sn, sc, ss, z0, z1, z2, z3, e9, g0, g1, g2, g3, g4, g5, g6, g7⟩ : ∃ EA en ec vs e c SA sn sc ss z0 z1 z2 z3, c0 = ([Value.slice EA en ec, .int .i64 e, .int .i64 c, .slice SA sn sc, .int .i64 z0, .int .i64 z1, .int .i64 z2, .int .i64 z3]).toArray ∧ ERd W W.heap.size EA en ec vs ∧ en ≤ 1048576 ∧ (∀ v ∈ vs, EvLe 1048576 v) ∧ RRd cSt 1 W W.heap.size SA sn sc ss ∧ I64 z0 ∧ I64 z1 ∧ I64 z2 ∧ I64 z3 := by
    obtain ⟨fuel, hf⟩ := h0
    obtain ⟨EA, en, ec, vs, e, c, SA, sn, sc, ss, z0, z1, z2, z3, e9, g0, g1, g2, g3, g4⟩ := sheet_open hf
    have hb : Rows.uptoBulkAll ([d0] ++ []) ≤ 1048576 := of_decide_eq_true hk
    have hb2 := bulk_part (d := d0) (l := [d0] ++ []) (by simp)
    simp only at g1 g2
    have e2 : c0.toList = [Value.slice EA en ec, .int .i64 e, .int .i64 c, .slice SA sn sc, .int .i64 z0, .int .i64 z1, .int .i64 z2, .int .i64 z3] := e9
    exact ⟨EA, en, ec, vs, e, c, SA, sn, sc, ss, z0, z1, z2, z3, by rw [← e2], g0, by omega, fun v hv => (g2 v hv).mono (by omega), g3, g4⟩
  subst e9
  clear hA0
  refine (reportTells_walk EA en ec vs e c SA sn sc ss z0 z1 z2 z3 W g0 g1 g2 g3 g4 g5 g6 g7 ⟨classesOf hL, wordsOf hL, powOf hL⟩).mono fun e W' ⟨he, bel⟩ => ?_
  subst he
  exact ⟨_, rfl, _, _, _, [], _, [], hW', trodAll_mk1 (shut_bool Tryd.underlying4 _), (trodAll_cons_mk (Below.trod laidOut (by kernel_rfl) (of_decide_eq_true (by kernel_rfl)) k0 bel lt0) trodAll_mk0), rfl, bel.frame _, fun h => by cases h⟩
noncomputable def laidWorld (os : Os) : World := laidWorldOf [(7, Rows.laid_math_bits_deBruijn32tab), (8, Rows.laid_math_bits_deBruijn64tab), (2, Rows.laid_internal_strconv_uint64pow10), (0, Rows.laid_narthex_report_classes), (1, Rows.laid_narthex_report_words)] os
set_option maxRecDepth 100000 in
theorem laid_met (os : Os) : laidMet Tryd.prog Rows.reportTellsUptoRow.laid ((laidWorld os).forCall (fun _ _ => 0) ⟨#[], #[Value.agg #[Value.slice none 0 0, Value.int .i64 0, Value.int .i64 0, Value.slice none 0 0, Value.int .i64 0, Value.int .i64 0, Value.int .i64 0, Value.int .i64 0]], []⟩).memory :=
  laidMet_of_run' 8 (by kernel_rfl) (by kernel_rfl)
set_option maxRecDepth 100000 in
theorem reads (os : Os) {H : Type} (enc : TypeId × Value → H) : ∃ places, DataW.whole enc Tryd.prog ((laidWorld os).forCall (fun _ _ => 0) ⟨#[], #[Value.agg #[Value.slice none 0 0, Value.int .i64 0, Value.int .i64 0, Value.slice none 0 0, Value.int .i64 0, Value.int .i64 0, Value.int .i64 0, Value.int .i64 0]], []⟩).memory Tryd.f3.params.toList Rows.reportTellsSpec.vars false #[Value.agg #[Value.slice none 0 0, Value.int .i64 0, Value.int .i64 0, Value.slice none 0 0, Value.int .i64 0, Value.int .i64 0, Value.int .i64 0, Value.int .i64 0]].toList 8 = some ([.agg [.nil, .lit (.int .i64 0), .lit (.int .i64 0), .nil, .agg [.lit (.int .i64 0), .lit (.int .i64 0), .lit (.int .i64 0), .lit (.int .i64 0)]]], [], places) :=
  ⟨[], by kernel_rfl⟩
set_option maxRecDepth 100000 in
theorem lifted (os : Os) (started : os.Started) (H : Type) (enc : TypeId × Value → H) (F : Stop.Interp) :
    ReturnsInHanded {} Tryd.checked os 3 .any ((Rows.OpenSpec.upto Rows.reportTellsSpec).preRow enc Tryd.prog Tryd.f3 Rows.reportTellsUptoRow.domain false Rows.reportTellsUptoRow.laid) (((Rows.OpenSpec.upto Rows.reportTellsSpec).at F).post enc Tryd.prog Tryd.f3 false true false false) := by
  obtain ⟨places, hx⟩ := reads os enc
  refine returnsInHanded_of_row (C := Tryd.checked) (s := Rows.OpenSpec.upto Rows.reportTellsSpec) own started (by kernel_rfl) Tryd.func3
    (witness_row_at (enc := enc) (C := Tryd.checked) false (laidWorld os) #[Value.agg #[Value.slice none 0 0, Value.int .i64 0, Value.int .i64 0, Value.slice none 0 0, Value.int .i64 0, Value.int .i64 0, Value.int .i64 0, Value.int .i64 0]] rfl (by kernel_rfl) (by kernel_rfl) (by kernel_rfl)
      (OpenSpec.preRow_of_cond 8 hx (by kernel_rfl) (fun k hk => by cases hk; kernel_rfl) (by kernel_rfl) (laid_met os))) ?_
  intro W base args ds gs before hval hW h1 h2 h3 hL hsh _
  exact contract H enc W base args ds gs before hval hW hL hsh (by first | exact h1 _ rfl | exact h2 _ rfl | exact h3 _ rfl)
theorem said : Rows.ReportTellsUptoSaid :=
  OpenClaim.holds_of_cond 3 Tryd.f3 rfl rfl rfl rfl rfl rfl rfl ⟨rfl, rfl, rfl, rfl, rfl⟩ rfl rfl rfl rfl rfl (by kernel_rfl) Tryd.func3 (by kernel_rfl)
    (of_decide_eq_true (by kernel_rfl)) (by unfold Func.isWrapper; first | (rw [if_pos (by decide +kernel)]; kernel_rfl) | (rw [if_neg (by decide +kernel)]; exact ⟨rfl, rfl⟩))
    (fun os started H enc _ F => by rw [OpenClaim.pre_eq_preRow]; exact lifted os started H enc F)
theorem plain (f : FuncId) (fn : Func) (hf : Tryd.pinned.checked.prog.funcNamed "narthex/narthexlaw44.ReportTells" = some f) (hfn : Tryd.pinned.checked.prog.funcs[f]? = some fn) :
    false = Tryd.pinned.checked.prog.looks [] ∧ ∀ (j : Nat) t, fn.params[j]? = some t → Tryd.pinned.checked.prog.wantsStandIn t = false := by
  obtain rfl : f = 3 := Option.some.inj ((show Tryd.prog.funcNamed "narthex/narthexlaw44.ReportTells" = some 3 by kernel_rfl).symm.trans hf) |>.symm
  obtain rfl : fn = Tryd.f3 := (Option.some.inj (Tryd.func3.symm.trans hfn)).symm
  refine ⟨by kernel_rfl, fun j t ht => ?_⟩
  have hall : (Tryd.f3.params.toList.all fun t => Tryd.prog.wantsStandIn t == false) = true := by kernel_rfl
  have := List.all_eq_true.1 hall t (by rw [Array.mem_toList_iff]; exact Array.mem_of_getElem? ht)
  have h2 : Tryd.prog.wantsStandIn t = false := by simpa using this
  exact h2
/-- The statement. -/
theorem proved : Rows.ReportTellsUptoCardSaid :=
  Claim7.holds_tied_plain_at .later [] _ _ _ _ said (fun _ h => by cases h) (by kernel_rfl) (fun _ h => by cases h) reportTellsUpto_row_tie rfl ⟨rfl, rfl⟩ (by kernel_rfl) rfl plain (by kernel_rfl)
#print axioms proved
end Go.Proofs.YtocbofeanfdggaaDoor.reportTells
