/- The law LoadLong holds of every input that its statement speaks of; no condition of our own. The frame follows the kit's worked toy of a law over package-level tables. -/
import Derived.Test.YtljmpghijlibaaaDoorRows
import Derived.Test.YtljmpghijlibaaaDoorCards
import Derived.Test.YtljmpghijlibaaaDoorTie
import Derived.Test.YtljmpghijlibaaaDoorZ2
import Derived.WalkKit
import Derived.ProofKit
import Derived.OpenShut
import Derived.ShutString
import Derived.ChangeOld
import Derived.Below
import Derived.Deep.DeepHandedRow
import Derived.Lib.LaidTab
import Derived.Lib.SmallJoins
import Derived.Deep.DeepWitnessRowRef
import Derived.Lib.LaidCaseMet
import Derived.Deep.DeepLaidRun
namespace Go.Proofs.YtljmpghijlibaaaDoor.loadLong
open Go.ChangeShapes Go.WideShapes Go.ChangeAt Go.RowKit
open Go.ChangeMaps (open_string shut_string)
set_option linter.unusedVariables false
theorem own : ownKnob Tryd.prog.godebug = none := by kernel_rfl
theorem laidOut : laidOutB Tryd.prog = true := by kernel_rfl
theorem formsOf {W : World} (h : laidMet Tryd.prog Rows.loadLongRow.laid W) : Forms W := by
  obtain ⟨T, fr, hb⟩ := laid_block h "narthex/utf.forms" Rows.laid_narthex_utf_forms (by repeat (first | exact List.mem_cons_self | apply List.mem_cons_of_mem)) 2 8 formsRow (by kernel_rfl) (by kernel_rfl)
  intro i u hu
  rw [cell_of i hb, List.getElem?_toArray]
  exact hu
theorem tabsOf {W : World} (h : laidMet Tryd.prog Rows.loadLongRow.laid W) : Tabs W := by
  obtain ⟨T0, f0, h0⟩ := laid_block h "narthex/chars.documents" Rows.laid_narthex_chars_documents (by repeat (first | exact List.mem_cons_self | apply List.mem_cons_of_mem)) 0 8 (tabDocs.flatMap fun p => [Value.int .i64 p.1, Value.int .i64 p.2]) (by kernel_rfl) (by kernel_rfl)
  exact ⟨tab_of tabDocs h0⟩
set_option maxRecDepth 100000 in
theorem foldOf {W : World} (h : laidMet Tryd.prog Rows.loadLongRow.laid W) : FoldT W := by
  obtain ⟨T, fr, hb⟩ := laid_block h "unicode.asciiFold" Rows.laid_unicode_asciiFold (by repeat (first | exact List.mem_cons_self | apply List.mem_cons_of_mem)) 3 8 (flatV 8 (Rows.laid_unicode_asciiFold : DataW Unit)) (by kernel_rfl) (by kernel_rfl)
  intro p hp
  rw [cell_of p.1 hb]
  simp only [foldPairs, List.mem_cons, List.not_mem_nil, or_false] at hp
  rcases hp with rfl | rfl | rfl | rfl | rfl | rfl | rfl | rfl | rfl | rfl | rfl | rfl | rfl | rfl
  all_goals kernel_rfl
set_option maxRecDepth 100000 in
theorem contract (H : Type) (enc : TypeId × Value → H) (W : World) (base : Nat) (args : Array Value) (ds gs : List (DataW H)) (before : List MemPlace)
    (hval : ∀ (j : Nat) t v, Tryd.f5.params[j]? = some t → args[j]? = some v → Value.okWide Tryd.prog W .any base t v)
    (hW : DataW.Whole enc Tryd.prog Tryd.f5.params.toList Rows.loadLongSpec.vars false W args.toList ds gs before) (hL : laidMet Tryd.prog Rows.loadLongRow.laid W) (hsh : W.ShapedOpen Tryd.prog) :
    Calls Tryd.prog 5 args W fun e W' => ∃ v, e = .returned v ∧ Rows.loadLongSpec.post enc Tryd.prog Tryd.f5 false true false false W args v W' := by
  have hW' := hW
  obtain ⟨p, q, hA0, hV, rfl, hfz, hnd⟩ := hW
  have hA : DataW.TrodAll enc Tryd.prog W 0 (fun _ => true) true Tryd.f5.params.toList args.toList ds p := hA0
  rw [Tryd.params5] at hA hval
  obtain ⟨v0, vs0, d0, ds0, p0, q0, hargs, rfl, rfl, h0, r0⟩ := trodAll_cons hA
  obtain ⟨v1, vs1, d1, ds1, p1, q1, rfl, rfl, rfl, h1, r1⟩ := trodAll_cons r0
  obtain ⟨rfl, rfl, rfl⟩ := trodAll_nil r1
  obtain rfl : args = #[v0, v1] := by cases args; simp_all
  obtain ⟨rfl, rfl⟩ := trodVars_none hV
  obtain ⟨a0, rfl, rfl, rfl, w0⟩ := open_int Tryd.underlying5 (hval 0 5 v0 rfl rfl) h0
  obtain ⟨a1, rfl, rfl, rfl⟩ := open_bool Tryd.underlying4 (hval 1 4 v1 rfl rfl) h1
  clear hA0
  refine (loadLong_walk a0 a1 W (bounds_u8 w0) ⟨tabsOf hL, formsOf hL, foldOf hL⟩).mono fun e W' ⟨he, bel⟩ => ?_
  subst he
  exact ⟨_, rfl, _, _, _, [], _, [], hW', trodAll_mk1 (shut_bool Tryd.underlying4 _), (trodAll_cons_mk (shut_int Tryd.underlying5 w0) (trodAll_cons_mk (shut_bool Tryd.underlying4 _) trodAll_mk0)), rfl, bel.frame _, fun h => by cases h⟩
noncomputable def laidWorld (os : Os) : World := laidWorldC [(8, Rows.laid_unicode_utf8_acceptRanges), (2, Rows.laid_narthex_utf_forms), (3, Rows.laid_unicode_asciiFold), (0, Rows.laid_narthex_chars_documents), (7, Rows.laid_unicode_utf8_first)] [(4, 174, (match (Rows.laid_unicode_caseOrbit : DataW Unit) with | .slice ds _ => (ds.flatMap (flatV 8)).toArray | _ => #[]), (match (Rows.laid_unicode_caseOrbit : DataW Unit) with | .slice ds _ => ds.length | _ => 0)), (5, 190, Lib.caseCells5, 336)] os
set_option maxRecDepth 100000 in
theorem laid_met (os : Os) : laidMet Tryd.prog Rows.loadLongRow.laid ((laidWorld os).forCall (fun _ _ => 0) ⟨#[], #[Value.int .u8 0, .bool false], []⟩).memory :=
  laidMet_case (a := [("unicode/utf8.acceptRanges", Rows.laid_unicode_utf8_acceptRanges), ("narthex/utf.forms", Rows.laid_narthex_utf_forms), ("unicode.asciiFold", Rows.laid_unicode_asciiFold), ("unicode.caseOrbit", Rows.laid_unicode_caseOrbit), ("narthex/chars.documents", Rows.laid_narthex_chars_documents)]) (b := [("unicode/utf8.first", Rows.laid_unicode_utf8_first)]) 10 (by kernel_rfl) (by kernel_rfl) (by kernel_rfl) ((World.settled Tryd.prog default).heap.size + 1) (of_decide_eq_true (by kernel_rfl)) (by kernel_rfl) (by kernel_rfl) (by kernel_rfl)
set_option maxRecDepth 100000 in
theorem reads (os : Os) {H : Type} (enc : TypeId × Value → H) : ∃ places, DataW.whole enc Tryd.prog ((laidWorld os).forCall (fun _ _ => 0) ⟨#[], #[Value.int .u8 0, .bool false], []⟩).memory Tryd.f5.params.toList Rows.loadLongSpec.vars false #[Value.int .u8 0, .bool false].toList 8 = some ([.lit (.int .u8 0), .lit (.bool false)], [], places) :=
  ⟨[], by kernel_rfl⟩
set_option maxRecDepth 100000 in
theorem lifted (os : Os) (started : os.Started) (H : Type) (enc : TypeId × Value → H) (F : Stop.Interp) :
    ReturnsInHanded {} Tryd.checked os 5 .any ((OpenSpec.ofChange Rows.loadLongSpec).preRow enc Tryd.prog Tryd.f5 Rows.loadLongRow.domain false Rows.loadLongRow.laid) (((OpenSpec.ofChange Rows.loadLongSpec).at F).post enc Tryd.prog Tryd.f5 false true false false) := by
  obtain ⟨places, hx⟩ := reads os enc
  refine returnsInHanded_of_row (C := Tryd.checked) (s := OpenSpec.ofChange Rows.loadLongSpec) own started (by kernel_rfl) Tryd.func5
    (witness_row_atRef (enc := enc) (C := Tryd.checked) false (laidWorld os) #[Value.int .u8 0, .bool false] rfl (by kernel_rfl) (by kernel_rfl) (by kernel_rfl)
      (OpenSpec.preRow_of_cond 8 hx (by kernel_rfl) (fun k hk => by cases hk) (by kernel_rfl) (laid_met os))) ?_
  intro W base args ds gs before hval hW _ _ _ hL hsh _
  exact contract H enc W base args ds gs before hval hW hL hsh
theorem said : Rows.LoadLongSaid :=
  OpenClaim.holds_of_cond 5 Tryd.f5 rfl rfl rfl rfl rfl rfl rfl ⟨rfl, rfl, rfl, rfl, rfl⟩ rfl rfl rfl rfl rfl (by kernel_rfl) Tryd.func5 (by kernel_rfl)
    (of_decide_eq_true (by kernel_rfl)) (by unfold Func.isWrapper; first | (rw [if_pos (by decide +kernel)]; kernel_rfl) | (rw [if_neg (by decide +kernel)]; exact ⟨rfl, rfl⟩))
    (fun os started H enc _ F => by rw [OpenClaim.pre_eq_preRow]; exact lifted os started H enc F)
theorem plain (f : FuncId) (fn : Func) (hf : Tryd.pinned.checked.prog.funcNamed "narthex/narthexlaw25.LoadLong" = some f) (hfn : Tryd.pinned.checked.prog.funcs[f]? = some fn) :
    false = Tryd.pinned.checked.prog.looks [] ∧ ∀ (j : Nat) t, fn.params[j]? = some t → Tryd.pinned.checked.prog.wantsStandIn t = false := by
  obtain rfl : f = 5 := Option.some.inj ((show Tryd.prog.funcNamed "narthex/narthexlaw25.LoadLong" = some 5 by kernel_rfl).symm.trans hf) |>.symm
  obtain rfl : fn = Tryd.f5 := (Option.some.inj (Tryd.func5.symm.trans hfn)).symm
  refine ⟨by kernel_rfl, fun j t ht => ?_⟩
  have hall : (Tryd.f5.params.toList.all fun t => Tryd.prog.wantsStandIn t == false) = true := by kernel_rfl
  have := List.all_eq_true.1 hall t (by rw [Array.mem_toList_iff]; exact Array.mem_of_getElem? ht)
  have h2 : Tryd.prog.wantsStandIn t = false := by simpa using this
  exact h2
/-- The statement. -/
theorem proved : Rows.LoadLongCardSaid :=
  Claim7.holds_tied_plain_at .later [] _ _ _ _ said (fun _ h => by cases h) (by kernel_rfl) (fun _ h => by cases h) loadLong_row_tie rfl ⟨rfl, rfl⟩ (by kernel_rfl) rfl plain (by kernel_rfl)
#print axioms proved
end Go.Proofs.YtljmpghijlibaaaDoor.loadLong
