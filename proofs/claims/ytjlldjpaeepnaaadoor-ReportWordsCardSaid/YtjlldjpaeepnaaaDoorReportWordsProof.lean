/- The law ReportWords holds of every input that its statement speaks of; no condition of our own. The frame follows the kit's worked toy of a law over package-level tables. -/
import Derived.Test.YtjlldjpaeepnaaaDoorRows
import Derived.Test.YtjlldjpaeepnaaaDoorCards
import Derived.Test.YtjlldjpaeepnaaaDoorTie
import Derived.Test.YtjlldjpaeepnaaaDoorLaid0
import Derived.Test.YtjlldjpaeepnaaaDoorRep
import Derived.Test.YtjlldjpaeepnaaaDoorRep4
import Derived.WalkKit
import Derived.ProofKit
import Derived.OpenShut
import Derived.ShutString
import Derived.ChangeOld
import Derived.Below
import Derived.Deep.DeepHandedRow
import Derived.Lib.LaidTab
import Derived.Lib.SmallJoins
namespace Go.Proofs.YtjlldjpaeepnaaaDoor.reportWords
open Go.ChangeShapes Go.WideShapes Go.ChangeAt Go.RowKit
open Go.ChangeMaps (open_string shut_string)
set_option linter.unusedVariables false
theorem own : ownKnob Tryd.prog.godebug = none := by kernel_rfl
theorem laidOut : laidOutB Tryd.prog = true := by kernel_rfl
theorem classesOf {W : World} (h : laidMet Tryd.prog Rows.reportWordsRow.laid W) : TabS W 0 classL := by
  obtain ⟨T, fr, hb⟩ := laid_block h "narthex/report.classes" Rows.laid_narthex_report_classes (by repeat (first | exact List.mem_cons_self | apply List.mem_cons_of_mem)) 0 8 classRow (by kernel_rfl) (by kernel_rfl)
  exact TabS.of classL classRow rfl hb
theorem wordsOf {W : World} (h : laidMet Tryd.prog Rows.reportWordsRow.laid W) : TabS W 1 wordL := by
  obtain ⟨T, fr, hb⟩ := laid_block h "narthex/report.words" Rows.laid_narthex_report_words (by repeat (first | exact List.mem_cons_self | apply List.mem_cons_of_mem)) 1 8 wordRow (by kernel_rfl) (by kernel_rfl)
  exact TabS.of wordL wordRow rfl hb
theorem powOf {W : World} (h : laidMet Tryd.prog Rows.reportWordsRow.laid W) : Lib.TabIs Tryd.prog W "internal/strconv.uint64pow10" .u64 Lib.pow10Tab := by
  exact laid_var h "internal/strconv.uint64pow10" Rows.laid_internal_strconv_uint64pow10 (by repeat (first | exact List.mem_cons_self | apply List.mem_cons_of_mem)) 2 8 (Lib.pow10Tab.map fun z => Value.int .u64 z) (by kernel_rfl) (by kernel_rfl)
theorem cells23 : Tryd.prog.cellsOf 23 = 2 := by kernel_rfl
set_option maxRecDepth 100000 in
theorem contract (H : Type) (enc : TypeId × Value → H) (W : World) (base : Nat) (args : Array Value) (ds gs : List (DataW H)) (before : List MemPlace)
    (hval : ∀ (j : Nat) t v, Tryd.f3.params[j]? = some t → args[j]? = some v → Value.okWide Tryd.prog W .any base t v)
    (hW : DataW.Whole enc Tryd.prog Tryd.f3.params.toList Rows.reportWordsSpec.vars false W args.toList ds gs before) (hL : laidMet Tryd.prog Rows.reportWordsRow.laid W) :
    Calls Tryd.prog 3 args W fun e W' => ∃ v, e = .returned v ∧ Rows.reportWordsSpec.post enc Tryd.prog Tryd.f3 false true false false W args v W' := by
  have hW' := hW
  obtain ⟨p, q, hA0, hV, rfl, hfz, hnd⟩ := hW
  have hA : DataW.TrodAll enc Tryd.prog W 0 (fun _ => true) true Tryd.f3.params.toList args.toList ds p := hA0
  rw [Tryd.params3] at hA hval
  obtain ⟨v0, vs0, d0, ds0, p0, q0, hargs, rfl, rfl, h0, r0⟩ := trodAll_cons hA
  obtain ⟨v1, vs1, d1, ds1, p1, q1, rfl, rfl, rfl, h1, r1⟩ := trodAll_cons r0
  obtain ⟨v2, vs2, d2, ds2, p2, q2, rfl, rfl, rfl, h2, r2⟩ := trodAll_cons r1
  obtain ⟨rfl, rfl, rfl⟩ := trodAll_nil r2
  obtain rfl : args = #[v0, v1, v2] := by cases args; simp_all
  obtain ⟨rfl, rfl⟩ := trodVars_none hV
  obtain ⟨a0, rfl, rfl, rfl, w0⟩ := open_int Tryd.underlying3 (hval 0 3 v0 rfl rfl) h0
  obtain ⟨a1, rfl, rfl, rfl, w1⟩ := open_int Tryd.underlying3 (hval 1 3 v1 rfl rfl) h1
  obtain ⟨c2_0, c2_1, y2_0, y2_1, m2, rfl, rfl, rfl, hy2_0, hy2_1⟩ := Go.Joins.open_agg2 Tryd.underlying23 (by kernel_rfl) cells23 (hval 2 23 v2 rfl rfl) h2
  obtain ⟨a2_0, e2_0, rfl, w2_0⟩ := DataW.trod_string Tryd.underlying9 hy2_0
  obtain ⟨a2_1, e2_1, rfl, w2_1⟩ := DataW.trod_string Tryd.underlying9 hy2_1
  simp at e2_0 e2_1
  subst e2_0 e2_1
  clear hA0
  refine (reportWords_walk a0 a1 a2_0 a2_1 W (classesOf hL) (wordsOf hL)).mono fun e W' ⟨he, bel⟩ => ?_
  subst he
  exact ⟨_, rfl, _, _, _, [], _, [], hW', trodAll_mk1 (shut_bool Tryd.underlying4 _), (trodAll_cons_mk (shut_int Tryd.underlying3 w0) (trodAll_cons_mk (shut_int Tryd.underlying3 w1) (trodAll_cons_mk (Go.Joins.shut_agg2 (y0 := (.lit (.string a2_0.data.toList), [])) (y1 := (.lit (.string a2_1.data.toList), [])) Tryd.underlying23 (by kernel_rfl) cells23 ⟨1, by simp [DataW.trod, Tryd.underlying9, w2_0]⟩ ⟨1, by simp [DataW.trod, Tryd.underlying9, w2_1]⟩) trodAll_mk0))), rfl, bel.frame _, fun h => by cases h⟩
noncomputable def laidWorld (os : Os) : World := laidWorldOf [(4, Rows.laid_math_bits_deBruijn32tab), (5, Rows.laid_math_bits_deBruijn64tab), (2, Rows.laid_internal_strconv_uint64pow10), (0, Rows.laid_narthex_report_classes), (1, Rows.laid_narthex_report_words)] os
set_option maxRecDepth 100000 in
theorem laid_met (os : Os) : laidMet Tryd.prog Rows.reportWordsRow.laid ((laidWorld os).forCall (fun _ _ => 0) ⟨#[], #[Value.int .i64 0, .int .i64 0, .agg #[Value.string ⟨#[]⟩, Value.string ⟨#[]⟩]], []⟩).memory :=
  laidMet_of_run' 8 (by kernel_rfl) (by kernel_rfl)
set_option maxRecDepth 100000 in
theorem reads (os : Os) {H : Type} (enc : TypeId × Value → H) : ∃ places, DataW.whole enc Tryd.prog ((laidWorld os).forCall (fun _ _ => 0) ⟨#[], #[Value.int .i64 0, .int .i64 0, .agg #[Value.string ⟨#[]⟩, Value.string ⟨#[]⟩]], []⟩).memory Tryd.f3.params.toList Rows.reportWordsSpec.vars false #[Value.int .i64 0, .int .i64 0, .agg #[Value.string ⟨#[]⟩, Value.string ⟨#[]⟩]].toList 8 = some ([.lit (.int .i64 0), .lit (.int .i64 0), .agg [.lit (.string []), .lit (.string [])]], [], places) :=
  ⟨[], by kernel_rfl⟩
set_option maxRecDepth 100000 in
theorem lifted (os : Os) (started : os.Started) (H : Type) (enc : TypeId × Value → H) (F : Stop.Interp) :
    ReturnsInHanded {} Tryd.checked os 3 .any ((OpenSpec.ofChange Rows.reportWordsSpec).preRow enc Tryd.prog Tryd.f3 Rows.reportWordsRow.domain false Rows.reportWordsRow.laid) (((OpenSpec.ofChange Rows.reportWordsSpec).at F).post enc Tryd.prog Tryd.f3 false true false false) := by
  obtain ⟨places, hx⟩ := reads os enc
  refine returnsInHanded_of_row (C := Tryd.checked) (s := OpenSpec.ofChange Rows.reportWordsSpec) own started (by kernel_rfl) Tryd.func3
    (witness_row_at (enc := enc) (C := Tryd.checked) false (laidWorld os) #[Value.int .i64 0, .int .i64 0, .agg #[Value.string ⟨#[]⟩, Value.string ⟨#[]⟩]] rfl (by kernel_rfl) (by kernel_rfl) (by kernel_rfl)
      (OpenSpec.preRow_of_cond 8 hx (by kernel_rfl) (fun k hk => by cases hk) (by kernel_rfl) (laid_met os))) ?_
  intro W base args ds gs before hval hW _ _ _ hL _ _
  exact contract H enc W base args ds gs before hval hW hL
theorem said : Rows.ReportWordsSaid :=
  OpenClaim.holds_of_cond 3 Tryd.f3 rfl rfl rfl rfl rfl rfl rfl ⟨rfl, rfl, rfl, rfl, rfl⟩ rfl rfl rfl rfl rfl (by kernel_rfl) Tryd.func3 (by kernel_rfl)
    (of_decide_eq_true (by kernel_rfl)) (by unfold Func.isWrapper; first | (rw [if_pos (by decide +kernel)]; kernel_rfl) | (rw [if_neg (by decide +kernel)]; exact ⟨rfl, rfl⟩))
    (fun os started H enc _ F => by rw [OpenClaim.pre_eq_preRow]; exact lifted os started H enc F)
theorem plain (f : FuncId) (fn : Func) (hf : Tryd.pinned.checked.prog.funcNamed "narthex/narthexlaw44.ReportWords" = some f) (hfn : Tryd.pinned.checked.prog.funcs[f]? = some fn) :
    false = Tryd.pinned.checked.prog.looks [] ∧ ∀ (j : Nat) t, fn.params[j]? = some t → Tryd.pinned.checked.prog.wantsStandIn t = false := by
  obtain rfl : f = 3 := Option.some.inj ((show Tryd.prog.funcNamed "narthex/narthexlaw44.ReportWords" = some 3 by kernel_rfl).symm.trans hf) |>.symm
  obtain rfl : fn = Tryd.f3 := (Option.some.inj (Tryd.func3.symm.trans hfn)).symm
  refine ⟨by kernel_rfl, fun j t ht => ?_⟩
  have hall : (Tryd.f3.params.toList.all fun t => Tryd.prog.wantsStandIn t == false) = true := by kernel_rfl
  have := List.all_eq_true.1 hall t (by rw [Array.mem_toList_iff]; exact Array.mem_of_getElem? ht)
  have h2 : Tryd.prog.wantsStandIn t = false := by simpa using this
  exact h2
/-- The statement. -/
theorem proved : Rows.ReportWordsCardSaid :=
  Claim7.holds_tied_plain_at .later [] _ _ _ _ said (fun _ h => by cases h) (by kernel_rfl) (fun _ h => by cases h) reportWords_row_tie rfl ⟨rfl, rfl⟩ (by kernel_rfl) rfl plain (by kernel_rfl)
#print axioms proved
end Go.Proofs.YtjlldjpaeepnaaaDoor.reportWords
