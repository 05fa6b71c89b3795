/- The law AtypeTrims holds of every input that its statement speaks of; no condition of our own. The frame follows the kit's worked toy of a law over package-level tables. -/
import Derived.Test.YtbfdomipkfbaeaaDoorRows
import Derived.Test.YtbfdomipkfbaeaaDoorCards
import Derived.Test.YtbfdomipkfbaeaaDoorTie
import Derived.Test.YtbfdomipkfbaeaaDoorAtR
import Derived.Test.YtbfdomipkfbaeaaDoorA8
import Derived.WalkKit
import Derived.ProofKit
import Derived.OpenShut
import Derived.ShutString
import Derived.ChangeOld
import Derived.Below
import Derived.Deep.DeepHandedRow
import Derived.Lib.LaidTab
import Derived.Lib.SmallJoins
namespace Go.Proofs.YtbfdomipkfbaeaaDoor.atypeTrims
open Go.ChangeShapes Go.WideShapes Go.ChangeAt Go.RowKit
open Go.ChangeMaps (open_string shut_string)
set_option linter.unusedVariables false
theorem own : ownKnob Tryd.prog.godebug = none := by kernel_rfl
theorem laidOut : laidOutB Tryd.prog = true := by kernel_rfl
theorem formsOf {W : World} (h : laidMet Tryd.prog Rows.atypeTrimsRow.laid W) : Forms W := by
  obtain ⟨T, fr, hb⟩ := laid_block h "narthex/utf.forms" Rows.laid_narthex_utf_forms (by repeat (first | exact List.mem_cons_self | apply List.mem_cons_of_mem)) 8 8 formsRow (by kernel_rfl) (by kernel_rfl)
  intro i u hu
  rw [cell_of i hb, List.getElem?_toArray]
  exact hu
theorem tabsOf {W : World} (h : laidMet Tryd.prog Rows.atypeTrimsRow.laid W) : Tabs W := by
  obtain ⟨T0, f0, h0⟩ := laid_block h "narthex/chars.documents" Rows.laid_narthex_chars_documents (by repeat (first | exact List.mem_cons_self | apply List.mem_cons_of_mem)) 5 8 (tabDocs.flatMap fun p => [Value.int .i64 p.1, Value.int .i64 p.2]) (by kernel_rfl) (by kernel_rfl)
  obtain ⟨T1, f1, h1⟩ := laid_block h "narthex/chars.starts" Rows.laid_narthex_chars_starts (by repeat (first | exact List.mem_cons_self | apply List.mem_cons_of_mem)) 6 8 (tabStarts.flatMap fun p => [Value.int .i64 p.1, Value.int .i64 p.2]) (by kernel_rfl) (by kernel_rfl)
  obtain ⟨T2, f2, h2⟩ := laid_block h "narthex/chars.more" Rows.laid_narthex_chars_more (by repeat (first | exact List.mem_cons_self | apply List.mem_cons_of_mem)) 7 8 (tabMore.flatMap fun p => [Value.int .i64 p.1, Value.int .i64 p.2]) (by kernel_rfl) (by kernel_rfl)
  exact ⟨tab_of tabDocs h0, tab_of tabStarts h1, tab_of tabMore h2⟩
theorem tabnOf {W : World} (h : laidMet Tryd.prog Rows.atypeTrimsRow.laid W) : TabN W := by
  obtain ⟨T1, f1, h1⟩ := laid_block h "narthex/chars.starts" Rows.laid_narthex_chars_starts (by repeat (first | exact List.mem_cons_self | apply List.mem_cons_of_mem)) 6 8 (tabStarts.flatMap fun p => [Value.int .i64 p.1, Value.int .i64 p.2]) (by kernel_rfl) (by kernel_rfl)
  obtain ⟨T2, f2, h2⟩ := laid_block h "narthex/chars.more" Rows.laid_narthex_chars_more (by repeat (first | exact List.mem_cons_self | apply List.mem_cons_of_mem)) 7 8 (tabMore.flatMap fun p => [Value.int .i64 p.1, Value.int .i64 p.2]) (by kernel_rfl) (by kernel_rfl)
  exact ⟨tab_of tabStarts h1, tab_of tabMore h2⟩
set_option maxRecDepth 100000 in
theorem utf8Of {W : World} (h : laidMet Tryd.prog Rows.atypeTrimsRow.laid W) : Lib.Utf8Tabs 9 10 W := by
  obtain ⟨T0, f0, h0⟩ := laid_block h "unicode/utf8.first" Rows.laid_unicode_utf8_first (by repeat (first | exact List.mem_cons_self | apply List.mem_cons_of_mem)) 9 8 ((List.range 256).map fun c => Value.int .u8 (Lib.firstT c)) (by kernel_rfl) (by kernel_rfl)
  obtain ⟨T1, f1, h1⟩ := laid_block h "unicode/utf8.acceptRanges" Rows.laid_unicode_utf8_acceptRanges (by repeat (first | exact List.mem_cons_self | apply List.mem_cons_of_mem)) 10 8 ((List.range 16).flatMap fun i => [Value.int .u8 (Lib.accLo i), Value.int .u8 (Lib.accHi i)]) (by kernel_rfl) (by kernel_rfl)
  refine ⟨fun c hc => ?_, fun i hi => ?_⟩
  · rw [cell_of c h0]
    simp [List.getElem?_map, List.getElem?_range hc]
  · rcases (show i = 0 ∨ i = 1 ∨ i = 2 ∨ i = 3 ∨ i = 4 ∨ i = 5 ∨ i = 6 ∨ i = 7 ∨ i = 8 ∨ i = 9 ∨ i = 10 ∨ i = 11 ∨ i = 12 ∨ i = 13 ∨ i = 14 ∨ i = 15 by omega) with rfl | rfl | rfl | rfl | rfl | rfl | rfl | rfl | rfl | rfl | rfl | rfl | rfl | rfl | rfl | rfl
    all_goals exact ⟨by rw [cell_of _ h1]; kernel_rfl, by rw [cell_of _ h1]; kernel_rfl⟩
theorem w15Of {W : World} (h : laidMet Tryd.prog Rows.atypeTrimsRow.laid W) : W15 W := by
  obtain ⟨T, fr, hb⟩ := laid_block h "narthex/atype.kinds" Rows.laid_narthex_atype_kinds (by repeat (first | exact List.mem_cons_self | apply List.mem_cons_of_mem)) 2 8 [.string ⟨#[]⟩, .string ⟨#[67, 68, 65, 84, 65]⟩, .string ⟨#[73, 68]⟩, .string ⟨#[73, 68, 82, 69, 70]⟩, .string ⟨#[73, 68, 82, 69, 70, 83]⟩, .string ⟨#[69, 78, 84, 73, 84, 89]⟩, .string ⟨#[69, 78, 84, 73, 84, 73, 69, 83]⟩, .string ⟨#[78, 77, 84, 79, 75, 69, 78]⟩, .string ⟨#[78, 77, 84, 79, 75, 69, 78, 83]⟩, .string ⟨#[78, 79, 84, 65, 84, 73, 79, 78]⟩] (by kernel_rfl) (by kernel_rfl)
  exact ⟨tabsOf h, formsOf h, cell_of 0 hb, lt_of hb⟩
theorem cells51 : Tryd.prog.cellsOf 51 = 5 := by kernel_rfl
set_option maxRecDepth 100000 in
theorem contract (H : Type) (enc : TypeId × Value → H) (W : World) (base : Nat) (args : Array Value) (ds gs : List (DataW H)) (before : List MemPlace)
    (hval : ∀ (j : Nat) t v, Tryd.f6.params[j]? = some t → args[j]? = some v → Value.okWide Tryd.prog W .any base t v)
    (hW : DataW.Whole enc Tryd.prog Tryd.f6.params.toList Rows.atypeTrimsSpec.vars false W args.toList ds gs before) (hL : laidMet Tryd.prog Rows.atypeTrimsRow.laid W) (hsh : W.ShapedOpen Tryd.prog) :
    Calls Tryd.prog 6 args W fun e W' => ∃ v, e = .returned v ∧ Rows.atypeTrimsSpec.post enc Tryd.prog Tryd.f6 false true false false W args v W' := by
  have hW' := hW
  obtain ⟨p, q, hA0, hV, rfl, hfz, hnd⟩ := hW
  have hA : DataW.TrodAll enc Tryd.prog W 0 (fun _ => true) true Tryd.f6.params.toList args.toList ds p := hA0
  rw [Tryd.params6] at hA hval
  obtain ⟨v0, vs0, d0, ds0, p0, q0, hargs, rfl, rfl, h0, r0⟩ := trodAll_cons hA
  obtain ⟨v1, vs1, d1, ds1, p1, q1, rfl, rfl, rfl, h1, r1⟩ := trodAll_cons r0
  obtain ⟨v2, vs2, d2, ds2, p2, q2, rfl, rfl, rfl, h2, r2⟩ := trodAll_cons r1
  obtain ⟨rfl, rfl, rfl⟩ := trodAll_nil r2
  obtain rfl : args = #[v0, v1, v2] := by cases args; simp_all
  obtain ⟨rfl, rfl⟩ := trodVars_none hV
  obtain ⟨a0, rfl, rfl, rfl, w0⟩ := open_int Tryd.underlying3 (hval 0 3 v0 rfl rfl) h0
  obtain ⟨a1, rfl, rfl, rfl, w1⟩ := open_string Tryd.underlying9 (hval 1 9 v1 rfl rfl) h1
  have k2 := h2
  have lt2 : ∀ x ∈ p2, x.block < W.heap.size := by obtain ⟨m, hm⟩ := k2; exact DataW.trod_lt m _ _ _ hm
  obtain ⟨c2_0, c2_1, c2_2, c2_3, c2_4, y2_0, y2_1, y2_2, y2_3, y2_4, m2, rfl, hd2, hp2, hy2_0, hy2_1, hy2_2, hy2_3, hy2_4⟩ := agg5_open Tryd.underlying51 (by kernel_rfl) cells51 (hval 2 51 v2 rfl rfl) h2
  obtain ⟨a2_0, e2_0, rfl, w2_0⟩ := DataW.trod_string Tryd.underlying9 hy2_0
  obtain ⟨a2_1, e2_1, rfl, w2_1⟩ := DataW.trod_int Tryd.underlying3 hy2_1
  obtain ⟨a2_2, l2_2, u2_2, z2_2, e2_2, w2_2, g2_2⟩ := srd_of_trod hy2_2
  obtain ⟨a2_3, e2_3, rfl, w2_3⟩ := DataW.trod_int Tryd.underlying3 hy2_3
  obtain ⟨a2_4, e2_4, rfl, w2_4⟩ := DataW.trod_string Tryd.underlying9 hy2_4
  simp at e2_0 e2_1 e2_2 e2_3 e2_4
  subst e2_0 e2_1 e2_2 e2_3 e2_4
  clear hA0
  refine (atypeTrims_walk a0 a1 a2_0 a2_1 a2_2 l2_2 u2_2 z2_2 a2_3 a2_4 W w2_2 g2_2 (w15Of hL)).mono fun e W' ⟨he, bel⟩ => ?_
  subst he
  exact ⟨_, rfl, _, _, _, [], _, [], hW', trodAll_mk1 (shut_bool Tryd.underlying4 _), (trodAll_cons_mk (shut_int Tryd.underlying3 w0) (trodAll_cons_mk (shut_string Tryd.underlying9 w1) (trodAll_cons_mk (Below.trod laidOut (by kernel_rfl) (of_decide_eq_true (by kernel_rfl)) k2 bel lt2) trodAll_mk0))), rfl, bel.frame _, fun h => by cases h⟩
noncomputable def laidWorld (os : Os) : World := laidWorldOf [(10, Rows.laid_unicode_utf8_acceptRanges), (8, Rows.laid_narthex_utf_forms), (5, Rows.laid_narthex_chars_documents), (6, Rows.laid_narthex_chars_starts), (7, Rows.laid_narthex_chars_more), (2, Rows.laid_narthex_atype_kinds), (3, Rows.laid_narthex_atype_modes), (9, Rows.laid_unicode_utf8_first)] os
set_option maxRecDepth 100000 in
theorem laid_met (os : Os) : laidMet Tryd.prog Rows.atypeTrimsRow.laid ((laidWorld os).forCall (fun _ _ => 0) ⟨#[], #[Value.int .i64 0, .string ⟨#[]⟩, .agg #[Value.string ⟨#[]⟩, Value.int .i64 0, Value.slice none 0 0, Value.int .i64 0, Value.string ⟨#[]⟩]], []⟩).memory :=
  laidMet_of_run' 8 (by kernel_rfl) (by kernel_rfl)
set_option maxRecDepth 100000 in
theorem reads (os : Os) {H : Type} (enc : TypeId × Value → H) : ∃ places, DataW.whole enc Tryd.prog ((laidWorld os).forCall (fun _ _ => 0) ⟨#[], #[Value.int .i64 0, .string ⟨#[]⟩, .agg #[Value.string ⟨#[]⟩, Value.int .i64 0, Value.slice none 0 0, Value.int .i64 0, Value.string ⟨#[]⟩]], []⟩).memory Tryd.f6.params.toList Rows.atypeTrimsSpec.vars false #[Value.int .i64 0, .string ⟨#[]⟩, .agg #[Value.string ⟨#[]⟩, Value.int .i64 0, Value.slice none 0 0, Value.int .i64 0, Value.string ⟨#[]⟩]].toList 8 = some ([.lit (.int .i64 0), .lit (.string []), .agg [.lit (.string []), .lit (.int .i64 0), .nil, .lit (.int .i64 0), .lit (.string [])]], [], places) :=
  ⟨[], by kernel_rfl⟩
set_option maxRecDepth 100000 in
theorem lifted (os : Os) (started : os.Started) (H : Type) (enc : TypeId × Value → H) (F : Stop.Interp) :
    ReturnsInHanded {} Tryd.checked os 6 .any ((OpenSpec.ofChange Rows.atypeTrimsSpec).preRow enc Tryd.prog Tryd.f6 Rows.atypeTrimsRow.domain false Rows.atypeTrimsRow.laid) (((OpenSpec.ofChange Rows.atypeTrimsSpec).at F).post enc Tryd.prog Tryd.f6 false true false false) := by
  obtain ⟨places, hx⟩ := reads os enc
  refine returnsInHanded_of_row (C := Tryd.checked) (s := OpenSpec.ofChange Rows.atypeTrimsSpec) own started (by kernel_rfl) Tryd.func6
    (witness_row_at (enc := enc) (C := Tryd.checked) false (laidWorld os) #[Value.int .i64 0, .string ⟨#[]⟩, .agg #[Value.string ⟨#[]⟩, Value.int .i64 0, Value.slice none 0 0, Value.int .i64 0, Value.string ⟨#[]⟩]] rfl (by kernel_rfl) (by kernel_rfl) (by kernel_rfl)
      (OpenSpec.preRow_of_cond 8 hx (by kernel_rfl) (fun k hk => by cases hk) (by kernel_rfl) (laid_met os))) ?_
  intro W base args ds gs before hval hW _ _ _ hL hsh _
  exact contract H enc W base args ds gs before hval hW hL hsh
theorem said : Rows.AtypeTrimsSaid :=
  OpenClaim.holds_of_cond 6 Tryd.f6 rfl rfl rfl rfl rfl rfl rfl ⟨rfl, rfl, rfl, rfl, rfl⟩ rfl rfl rfl rfl rfl (by kernel_rfl) Tryd.func6 (by kernel_rfl)
    (of_decide_eq_true (by kernel_rfl)) (by unfold Func.isWrapper; first | (rw [if_pos (by decide +kernel)]; kernel_rfl) | (rw [if_neg (by decide +kernel)]; exact ⟨rfl, rfl⟩))
    (fun os started H enc _ F => by rw [OpenClaim.pre_eq_preRow]; exact lifted os started H enc F)
theorem plain (f : FuncId) (fn : Func) (hf : Tryd.pinned.checked.prog.funcNamed "narthex/narthexlaw15.AtypeTrims" = some f) (hfn : Tryd.pinned.checked.prog.funcs[f]? = some fn) :
    false = Tryd.pinned.checked.prog.looks [] ∧ ∀ (j : Nat) t, fn.params[j]? = some t → Tryd.pinned.checked.prog.wantsStandIn t = false := by
  obtain rfl : f = 6 := Option.some.inj ((show Tryd.prog.funcNamed "narthex/narthexlaw15.AtypeTrims" = some 6 by kernel_rfl).symm.trans hf) |>.symm
  obtain rfl : fn = Tryd.f6 := (Option.some.inj (Tryd.func6.symm.trans hfn)).symm
  refine ⟨by kernel_rfl, fun j t ht => ?_⟩
  have hall : (Tryd.f6.params.toList.all fun t => Tryd.prog.wantsStandIn t == false) = true := by kernel_rfl
  have := List.all_eq_true.1 hall t (by rw [Array.mem_toList_iff]; exact Array.mem_of_getElem? ht)
  have h2 : Tryd.prog.wantsStandIn t = false := by simpa using this
  exact h2
/-- The statement. -/
theorem proved : Rows.AtypeTrimsCardSaid :=
  Claim7.holds_tied_plain_at .later [] _ _ _ _ said (fun _ h => by cases h) (by kernel_rfl) (fun _ h => by cases h) atypeTrims_row_tie rfl ⟨rfl, rfl⟩ (by kernel_rfl) rfl plain (by kernel_rfl)
#print axioms proved
end Go.Proofs.YtbfdomipkfbaeaaDoor.atypeTrims
