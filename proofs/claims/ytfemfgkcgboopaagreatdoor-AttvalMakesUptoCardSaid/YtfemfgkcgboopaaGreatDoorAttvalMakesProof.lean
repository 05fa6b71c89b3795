/- The law AttvalMakes holds of every input that its statement speaks of; no condition of our own. The frame follows the kit's worked toy of a law over package-level tables. -/
import Derived.Test.YtfemfgkcgboopaaGreatDoorRows
import Derived.Test.YtfemfgkcgboopaaGreatDoorCards
import Derived.Test.YtfemfgkcgboopaaGreatDoorTie
import Derived.Test.YtfemfgkcgboopaaGreatDoorMk2
import Derived.Test.YtfemfgkcgboopaaGreatDoorQ38
import Derived.WalkKit
import Derived.ProofKit
import Derived.OpenShut
import Derived.ShutString
import Derived.ChangeOld
import Derived.Below
import Derived.Deep.DeepHandedRow
import Derived.Lib.LaidTab
import Derived.Lib.SmallJoins
namespace Go.Proofs.YtfemfgkcgboopaaGreatDoor.attvalMakes
open Go.ChangeShapes Go.WideShapes Go.ChangeAt Go.RowKit
open Go.ChangeMaps (open_string shut_string)
set_option linter.unusedVariables false
theorem own : ownKnob Tryz.prog.godebug = none := by kernel_rfl
theorem laidOut : laidOutB Tryz.prog = true := by kernel_rfl
theorem formsOf {W : World} (h : laidMet Tryz.prog Rows.attvalMakesUptoRow.laid W) : Forms W := by
  obtain ⟨T, fr, hb⟩ := laid_block h "narthex/utf.forms" Rows.laid_narthex_utf_forms (by repeat (first | exact List.mem_cons_self | apply List.mem_cons_of_mem)) 0 8 formsRow (by kernel_rfl) (by kernel_rfl)
  intro i u hu
  rw [cell_of i hb, List.getElem?_toArray]
  exact hu
theorem tabsOf {W : World} (h : laidMet Tryz.prog Rows.attvalMakesUptoRow.laid W) : Tabs W := by
  obtain ⟨T0, f0, h0⟩ := laid_block h "narthex/chars.documents" Rows.laid_narthex_chars_documents (by repeat (first | exact List.mem_cons_self | apply List.mem_cons_of_mem)) 2 8 (tabDocs.flatMap fun p => [Value.int .i64 p.1, Value.int .i64 p.2]) (by kernel_rfl) (by kernel_rfl)
  obtain ⟨T1, f1, h1⟩ := laid_block h "narthex/chars.starts" Rows.laid_narthex_chars_starts (by repeat (first | exact List.mem_cons_self | apply List.mem_cons_of_mem)) 7 8 (tabStarts.flatMap fun p => [Value.int .i64 p.1, Value.int .i64 p.2]) (by kernel_rfl) (by kernel_rfl)
  obtain ⟨T2, f2, h2⟩ := laid_block h "narthex/chars.more" Rows.laid_narthex_chars_more (by repeat (first | exact List.mem_cons_self | apply List.mem_cons_of_mem)) 8 8 (tabMore.flatMap fun p => [Value.int .i64 p.1, Value.int .i64 p.2]) (by kernel_rfl) (by kernel_rfl)
  exact ⟨tab_of tabDocs h0, tab_of tabStarts h1, tab_of tabMore h2⟩
theorem tabnOf {W : World} (h : laidMet Tryz.prog Rows.attvalMakesUptoRow.laid W) : TabN W := by
  obtain ⟨T1, f1, h1⟩ := laid_block h "narthex/chars.starts" Rows.laid_narthex_chars_starts (by repeat (first | exact List.mem_cons_self | apply List.mem_cons_of_mem)) 7 8 (tabStarts.flatMap fun p => [Value.int .i64 p.1, Value.int .i64 p.2]) (by kernel_rfl) (by kernel_rfl)
  obtain ⟨T2, f2, h2⟩ := laid_block h "narthex/chars.more" Rows.laid_narthex_chars_more (by repeat (first | exact List.mem_cons_self | apply List.mem_cons_of_mem)) 8 8 (tabMore.flatMap fun p => [Value.int .i64 p.1, Value.int .i64 p.2]) (by kernel_rfl) (by kernel_rfl)
  exact ⟨tab_of tabStarts h1, tab_of tabMore h2⟩
theorem knownOf {W : World} (h : laidMet Tryz.prog Rows.attvalMakesUptoRow.laid W) : KnownT W := by
  obtain ⟨T, fr, hb⟩ := laid_block h "narthex/cref.known" Rows.laid_narthex_cref_known (by repeat (first | exact List.mem_cons_self | apply List.mem_cons_of_mem)) 1 8 [.string ⟨#[108, 116]⟩, .int .i64 60, .string ⟨#[103, 116]⟩, .int .i64 62, .string ⟨#[97, 109, 112]⟩, .int .i64 38, .string ⟨#[97, 112, 111, 115]⟩, .int .i64 39, .string ⟨#[113, 117, 111, 116]⟩, .int .i64 34] (by kernel_rfl) (by kernel_rfl)
  exact ⟨T, fr, hb⟩
theorem cells24 : Tryz.prog.cellsOf 24 = 3 := by kernel_rfl
set_option maxRecDepth 100000 in
theorem contract (H : Type) (enc : TypeId × Value → H) (W : World) (base : Nat) (args : Array Value) (ds gs : List (DataW H)) (before : List MemPlace)
    (hval : ∀ (j : Nat) t v, Tryz.f3.params[j]? = some t → args[j]? = some v → Value.okWide Tryz.prog W .any base t v)
    (hW : DataW.Whole enc Tryz.prog Tryz.f3.params.toList Rows.attvalMakesSpec.vars false W args.toList ds gs before) (hL : laidMet Tryz.prog Rows.attvalMakesUptoRow.laid W) (hsh : W.ShapedOpen Tryz.prog) (hk : Rows.uptoSmall H (ds ++ gs) = true) :
    Calls Tryz.prog 3 args W fun e W' => ∃ v, e = .returned v ∧ Rows.attvalMakesSpec.post enc Tryz.prog Tryz.f3 false true false false W args v W' := by
  have hW' := hW
  obtain ⟨p, q, hA0, hV, rfl, hfz, hnd⟩ := hW
  have hA : DataW.TrodAll enc Tryz.prog W 0 (fun _ => true) true Tryz.f3.params.toList args.toList ds p := hA0
  rw [Tryz.params3] at hA hval
  obtain ⟨v0, vs0, d0, ds0, p0, q0, hargs, rfl, rfl, h0, r0⟩ := trodAll_cons hA
  obtain ⟨v1, vs1, d1, ds1, p1, q1, rfl, rfl, rfl, h1, r1⟩ := trodAll_cons r0
  obtain ⟨rfl, rfl, rfl⟩ := trodAll_nil r1
  obtain rfl : args = #[v0, v1] := by cases args; simp_all
  obtain ⟨rfl, rfl⟩ := trodVars_none hV
  obtain ⟨a0, len0, cap0, rfl⟩ := okWide_slice Tryz.underlying22 (hval 0 22 v0 rfl rfl)
  have k0 := h0
  have lt0 : ∀ x ∈ p0, x.block < W.heap.size := by obtain ⟨m, hm⟩ := k0; exact DataW.trod_lt m _ _ _ hm
  obtain ⟨z0, w0, m0, g0⟩ : ∃ zs, RRd cE 6 W W.heap.size a0 len0 cap0 zs ∧ len0 ≤ 1048576 ∧ ∀ v ∈ zs, EntLe 1048576 v := by
    obtain ⟨fuel, hf⟩ := h0
    obtain ⟨A, l, c, zs, e, hr, hl, hv⟩ := ents_open (by simpa [Value.cells] using hf)
    cases e
    have hb : Rows.uptoBulkAll ([d0, d1] ++ []) ≤ 1048576 := of_decide_eq_true hk
    have hb2 := bulk_part (d := d0) (l := [d0, d1] ++ []) (by simp)
    simp only at hl hv
    exact ⟨zs, hr, by omega, fun v h => ⟨by have := (hv v h).1; omega, by have := (hv v h).2; omega⟩⟩
  obtain ⟨c1_0, c1_1, c1_2, y1_0, y1_1, y1_2, m1, rfl, rfl, rfl, hy1_0, hy1_1, hy1_2⟩ := Go.Joins.open_agg3 Tryz.underlying24 (by kernel_rfl) cells24 (hval 1 24 v1 rfl rfl) h1
  obtain ⟨a1_0, e1_0, rfl, w1_0⟩ := DataW.trod_string Tryz.underlying9 hy1_0
  obtain ⟨a1_1, e1_1, rfl, w1_1⟩ := DataW.trod_int Tryz.underlying3 hy1_1
  obtain ⟨a1_2, e1_2, rfl, w1_2⟩ := DataW.trod_int Tryz.underlying3 hy1_2
  simp at e1_0 e1_1 e1_2
  subst e1_0 e1_1 e1_2
  clear hA0
  refine (attvalMakes_law a0 len0 cap0 z0 a1_0 a1_1 a1_2 W w0 m0 g0 (formsOf hL) (tabsOf hL) (knownOf hL)).mono fun e W' ⟨he, bel⟩ => ?_
  subst he
  exact ⟨_, rfl, _, _, _, [], _, [], hW', trodAll_mk1 (shut_bool Tryz.underlying4 _), (trodAll_cons_mk (Below.trod laidOut (by kernel_rfl) (of_decide_eq_true (by kernel_rfl)) k0 bel lt0) (trodAll_cons_mk (Go.Joins.shut_agg3 (y0 := (.lit (.string a1_0.data.toList), [])) (y1 := (.lit (.int .i64 a1_1), [])) (y2 := (.lit (.int .i64 a1_2), [])) Tryz.underlying24 (by kernel_rfl) cells24 ⟨1, by simp [DataW.trod, Tryz.underlying9, w1_0]⟩ ⟨1, by simp [DataW.trod, Tryz.underlying3, w1_1]⟩ ⟨1, by simp [DataW.trod, Tryz.underlying3, w1_2]⟩) trodAll_mk0)), rfl, bel.frame _, fun h => by cases h⟩
noncomputable def laidWorld (os : Os) : World := laidWorldOf [(5, Rows.laid_unicode_utf8_acceptRanges), (0, Rows.laid_narthex_utf_forms), (2, Rows.laid_narthex_chars_documents), (7, Rows.laid_narthex_chars_starts), (8, Rows.laid_narthex_chars_more), (1, Rows.laid_narthex_cref_known), (4, Rows.laid_unicode_utf8_first)] os
set_option maxRecDepth 100000 in
theorem laid_met (os : Os) : laidMet Tryz.prog Rows.attvalMakesUptoRow.laid ((laidWorld os).forCall (fun _ _ => 0) ⟨#[], #[Value.slice none 0 0, .agg #[Value.string ⟨#[]⟩, Value.int .i64 0, Value.int .i64 0]], []⟩).memory :=
  laidMet_of_run' 8 (by kernel_rfl) (by kernel_rfl)
set_option maxRecDepth 100000 in
theorem reads (os : Os) {H : Type} (enc : TypeId × Value → H) : ∃ places, DataW.whole enc Tryz.prog ((laidWorld os).forCall (fun _ _ => 0) ⟨#[], #[Value.slice none 0 0, .agg #[Value.string ⟨#[]⟩, Value.int .i64 0, Value.int .i64 0]], []⟩).memory Tryz.f3.params.toList Rows.attvalMakesSpec.vars false #[Value.slice none 0 0, .agg #[Value.string ⟨#[]⟩, Value.int .i64 0, Value.int .i64 0]].toList 8 = some ([.nil, .agg [.lit (.string []), .lit (.int .i64 0), .lit (.int .i64 0)]], [], places) :=
  ⟨[], by kernel_rfl⟩
set_option maxRecDepth 100000 in
theorem lifted (os : Os) (started : os.Started) (H : Type) (enc : TypeId × Value → H) (F : Stop.Interp) :
    ReturnsInHanded {} Tryz.checked os 3 .any ((Rows.OpenSpec.upto Rows.attvalMakesSpec).preRow enc Tryz.prog Tryz.f3 Rows.attvalMakesUptoRow.domain false Rows.attvalMakesUptoRow.laid) (((Rows.OpenSpec.upto Rows.attvalMakesSpec).at F).post enc Tryz.prog Tryz.f3 false true false false) := by
  obtain ⟨places, hx⟩ := reads os enc
  refine returnsInHanded_of_row (C := Tryz.checked) (s := Rows.OpenSpec.upto Rows.attvalMakesSpec) own started (by kernel_rfl) Tryz.func3
    (witness_row_at (enc := enc) (C := Tryz.checked) false (laidWorld os) #[Value.slice none 0 0, .agg #[Value.string ⟨#[]⟩, Value.int .i64 0, Value.int .i64 0]] rfl (by kernel_rfl) (by kernel_rfl) (by kernel_rfl)
      (OpenSpec.preRow_of_cond 8 hx (by kernel_rfl) (fun k hk => by cases hk; kernel_rfl) (by kernel_rfl) (laid_met os))) ?_
  intro W base args ds gs before hval hW h1 h2 h3 hL hsh _
  exact contract H enc W base args ds gs before hval hW hL hsh (by first | exact h1 _ rfl | exact h2 _ rfl | exact h3 _ rfl)
theorem said : Rows.AttvalMakesUptoSaid :=
  OpenClaim.holds_of_cond 3 Tryz.f3 rfl rfl rfl rfl rfl rfl rfl ⟨rfl, rfl, rfl, rfl, rfl⟩ rfl rfl rfl rfl rfl (by kernel_rfl) Tryz.func3 (by kernel_rfl)
    (of_decide_eq_true (by kernel_rfl)) (by unfold Func.isWrapper; first | (rw [if_pos (by decide +kernel)]; kernel_rfl) | (rw [if_neg (by decide +kernel)]; exact ⟨rfl, rfl⟩))
    (fun os started H enc _ F => by rw [OpenClaim.pre_eq_preRow]; exact lifted os started H enc F)
theorem plain (f : FuncId) (fn : Func) (hf : Tryz.pinned.checked.prog.funcNamed "narthex/narthexlaw27.AttvalMakes" = some f) (hfn : Tryz.pinned.checked.prog.funcs[f]? = some fn) :
    false = Tryz.pinned.checked.prog.looks [] ∧ ∀ (j : Nat) t, fn.params[j]? = some t → Tryz.pinned.checked.prog.wantsStandIn t = false := by
  obtain rfl : f = 3 := Option.some.inj ((show Tryz.prog.funcNamed "narthex/narthexlaw27.AttvalMakes" = some 3 by kernel_rfl).symm.trans hf) |>.symm
  obtain rfl : fn = Tryz.f3 := (Option.some.inj (Tryz.func3.symm.trans hfn)).symm
  refine ⟨by kernel_rfl, fun j t ht => ?_⟩
  have hall : (Tryz.f3.params.toList.all fun t => Tryz.prog.wantsStandIn t == false) = true := by kernel_rfl
  have := List.all_eq_true.1 hall t (by rw [Array.mem_toList_iff]; exact Array.mem_of_getElem? ht)
  have h2 : Tryz.prog.wantsStandIn t = false := by simpa using this
  exact h2
/-- The statement. -/
theorem proved : Rows.AttvalMakesUptoCardSaid :=
  Claim7.holds_tied_plain_at .later [] _ _ _ _ said (fun _ h => by cases h) (by kernel_rfl) (fun _ h => by cases h) attvalMakesUpto_row_tie rfl ⟨rfl, rfl⟩ (by kernel_rfl) rfl plain (by kernel_rfl)
#print axioms proved
end Go.Proofs.YtfemfgkcgboopaaGreatDoor.attvalMakes
