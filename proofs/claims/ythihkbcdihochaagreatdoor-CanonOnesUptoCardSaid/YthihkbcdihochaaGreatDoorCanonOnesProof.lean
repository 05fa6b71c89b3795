/- The law CanonOnes holds of every input that its statement speaks of; no condition of our own. The frame follows the kit's worked toy of a law over package-level tables. -/
import Derived.Test.YthihkbcdihochaaGreatDoorRows
import Derived.Test.YthihkbcdihochaaGreatDoorCards
import Derived.Test.YthihkbcdihochaaGreatDoorTie
import Derived.Test.YthihkbcdihochaaGreatDoorCnN
import Derived.Test.YthihkbcdihochaaGreatDoorC14
import Derived.WalkKit
import Derived.ProofKit
import Derived.OpenShut
import Derived.ShutString
import Derived.ChangeOld
import Derived.Below
import Derived.Deep.DeepHandedRow
import Derived.Lib.LaidTab
import Derived.Lib.SmallJoins
import Derived.Deep.DeepWitnessRowRef
import Derived.Lib.LaidCaseMet
import Derived.Deep.DeepLaidRun
namespace Go.Proofs.YthihkbcdihochaaGreatDoor.canonOnes
open Go.ChangeShapes Go.WideShapes Go.ChangeAt Go.RowKit
open Go.ChangeMaps (open_string shut_string)
set_option linter.unusedVariables false
theorem own : ownKnob Tryz.prog.godebug = none := by kernel_rfl
theorem laidOut : laidOutB Tryz.prog = true := by kernel_rfl
theorem formsOf {W : World} (h : laidMet Tryz.prog Rows.canonOnesUptoRow.laid W) : Forms W := by
  obtain ⟨T, fr, hb⟩ := laid_block h "narthex/utf.forms" Rows.laid_narthex_utf_forms (by repeat (first | exact List.mem_cons_self | apply List.mem_cons_of_mem)) 0 8 formsRow (by kernel_rfl) (by kernel_rfl)
  intro i u hu
  rw [cell_of i hb, List.getElem?_toArray]
  exact hu
theorem tabsOf {W : World} (h : laidMet Tryz.prog Rows.canonOnesUptoRow.laid W) : Tabs W := by
  obtain ⟨T0, f0, h0⟩ := laid_block h "narthex/chars.documents" Rows.laid_narthex_chars_documents (by repeat (first | exact List.mem_cons_self | apply List.mem_cons_of_mem)) 3 8 (tabDocs.flatMap fun p => [Value.int .i64 p.1, Value.int .i64 p.2]) (by kernel_rfl) (by kernel_rfl)
  obtain ⟨T1, f1, h1⟩ := laid_block h "narthex/chars.starts" Rows.laid_narthex_chars_starts (by repeat (first | exact List.mem_cons_self | apply List.mem_cons_of_mem)) 12 8 (tabStarts.flatMap fun p => [Value.int .i64 p.1, Value.int .i64 p.2]) (by kernel_rfl) (by kernel_rfl)
  obtain ⟨T2, f2, h2⟩ := laid_block h "narthex/chars.more" Rows.laid_narthex_chars_more (by repeat (first | exact List.mem_cons_self | apply List.mem_cons_of_mem)) 13 8 (tabMore.flatMap fun p => [Value.int .i64 p.1, Value.int .i64 p.2]) (by kernel_rfl) (by kernel_rfl)
  exact ⟨tab_of tabDocs h0, tab_of tabStarts h1, tab_of tabMore h2⟩
theorem tabnOf {W : World} (h : laidMet Tryz.prog Rows.canonOnesUptoRow.laid W) : TabN W := by
  obtain ⟨T1, f1, h1⟩ := laid_block h "narthex/chars.starts" Rows.laid_narthex_chars_starts (by repeat (first | exact List.mem_cons_self | apply List.mem_cons_of_mem)) 12 8 (tabStarts.flatMap fun p => [Value.int .i64 p.1, Value.int .i64 p.2]) (by kernel_rfl) (by kernel_rfl)
  obtain ⟨T2, f2, h2⟩ := laid_block h "narthex/chars.more" Rows.laid_narthex_chars_more (by repeat (first | exact List.mem_cons_self | apply List.mem_cons_of_mem)) 13 8 (tabMore.flatMap fun p => [Value.int .i64 p.1, Value.int .i64 p.2]) (by kernel_rfl) (by kernel_rfl)
  exact ⟨tab_of tabStarts h1, tab_of tabMore h2⟩
set_option maxRecDepth 100000 in
theorem foldOf {W : World} (h : laidMet Tryz.prog Rows.canonOnesUptoRow.laid W) : FoldT W := by
  obtain ⟨T, fr, hb⟩ := laid_block h "unicode.asciiFold" Rows.laid_unicode_asciiFold (by repeat (first | exact List.mem_cons_self | apply List.mem_cons_of_mem)) 14 8 (flatV 8 (Rows.laid_unicode_asciiFold : DataW Unit)) (by kernel_rfl) (by kernel_rfl)
  intro p hp
  rw [cell_of p.1 hb]
  simp only [foldPairs, List.mem_cons, List.not_mem_nil, or_false] at hp
  rcases hp with rfl | rfl | rfl | rfl | rfl | rfl | rfl | rfl | rfl | rfl | rfl | rfl | rfl | rfl
  all_goals kernel_rfl
set_option maxRecDepth 100000 in
theorem utf8Of {W : World} (h : laidMet Tryz.prog Rows.canonOnesUptoRow.laid W) : Lib.Utf8Tabs 6 7 W := by
  obtain ⟨T0, f0, h0⟩ := laid_block h "unicode/utf8.first" Rows.laid_unicode_utf8_first (by repeat (first | exact List.mem_cons_self | apply List.mem_cons_of_mem)) 6 8 ((List.range 256).map fun c => Value.int .u8 (Lib.firstT c)) (by kernel_rfl) (by kernel_rfl)
  obtain ⟨T1, f1, h1⟩ := laid_block h "unicode/utf8.acceptRanges" Rows.laid_unicode_utf8_acceptRanges (by repeat (first | exact List.mem_cons_self | apply List.mem_cons_of_mem)) 7 8 ((List.range 16).flatMap fun i => [Value.int .u8 (Lib.accLo i), Value.int .u8 (Lib.accHi i)]) (by kernel_rfl) (by kernel_rfl)
  refine ⟨fun c hc => ?_, fun i hi => ?_⟩
  · rw [cell_of c h0]
    simp [List.getElem?_map, List.getElem?_range hc]
  · rcases (show i = 0 ∨ i = 1 ∨ i = 2 ∨ i = 3 ∨ i = 4 ∨ i = 5 ∨ i = 6 ∨ i = 7 ∨ i = 8 ∨ i = 9 ∨ i = 10 ∨ i = 11 ∨ i = 12 ∨ i = 13 ∨ i = 14 ∨ i = 15 by omega) with rfl | rfl | rfl | rfl | rfl | rfl | rfl | rfl | rfl | rfl | rfl | rfl | rfl | rfl | rfl | rfl
    all_goals exact ⟨by rw [cell_of _ h1]; kernel_rfl, by rw [cell_of _ h1]; kernel_rfl⟩
theorem powOf {W : World} (h : laidMet Tryz.prog Rows.canonOnesUptoRow.laid W) : Lib.TabIs Tryz.prog W "internal/strconv.uint64pow10" .u64 Lib.pow10Tab := by
  exact laid_var h "internal/strconv.uint64pow10" Rows.laid_internal_strconv_uint64pow10 (by repeat (first | exact List.mem_cons_self | apply List.mem_cons_of_mem)) 4 8 (Lib.pow10Tab.map fun z => Value.int .u64 z) (by kernel_rfl) (by kernel_rfl)
set_option maxRecDepth 100000 in
theorem contract (H : Type) (enc : TypeId × Value → H) (W : World) (base : Nat) (args : Array Value) (ds gs : List (DataW H)) (before : List MemPlace)
    (hval : ∀ (j : Nat) t v, Tryz.f5.params[j]? = some t → args[j]? = some v → Value.okWide Tryz.prog W .any base t v)
    (hW : DataW.Whole enc Tryz.prog Tryz.f5.params.toList Rows.canonOnesSpec.vars false W args.toList ds gs before) (hL : laidMet Tryz.prog Rows.canonOnesUptoRow.laid W) (hsh : W.ShapedOpen Tryz.prog) (hk : Rows.uptoSmall H (ds ++ gs) = true) :
    Calls Tryz.prog 5 args W fun e W' => ∃ v, e = .returned v ∧ Rows.canonOnesSpec.post enc Tryz.prog Tryz.f5 false true false false W args v W' := by
  have hW' := hW
  obtain ⟨p, q, hA0, hV, rfl, hfz, hnd⟩ := hW
  have hA : DataW.TrodAll enc Tryz.prog W 0 (fun _ => true) true Tryz.f5.params.toList args.toList ds p := hA0
  rw [Tryz.params5] at hA hval
  obtain ⟨v0, vs0, d0, ds0, p0, q0, hargs, rfl, rfl, h0, r0⟩ := trodAll_cons hA
  obtain ⟨v1, vs1, d1, ds1, p1, q1, rfl, rfl, rfl, h1, r1⟩ := trodAll_cons r0
  obtain ⟨rfl, rfl, rfl⟩ := trodAll_nil r1
  obtain rfl : args = #[v0, v1] := by cases args; simp_all
  obtain ⟨rfl, rfl⟩ := trodVars_none hV
  obtain ⟨c0, rfl, s0⟩ := okWide_struct Tryz.underlying41 (hval 0 41 v0 rfl rfl)
  have k0 := h0
  have lt0 : ∀ x ∈ p0, x.block < W.heap.size := by obtain ⟨m, hm⟩ := k0; exact DataW.trod_lt m _ _ _ hm
  obtain ⟨x0, e0, w0, g0⟩ : ∃ x : EvV, c0 = x.cells.toArray ∧ RRd cA 3 W W.heap.size x.A x.n x.c x.e.ats ∧ EvLe 1048576 x := by
    obtain ⟨fuel, hf⟩ := h0
    obtain ⟨x, e, hr, hl⟩ := ev_open hf
    have hb : Rows.uptoBulkAll ([d0, d1] ++ []) ≤ 1048576 := of_decide_eq_true hk
    have hb2 := bulk_part (d := d0) (l := [d0, d1] ++ []) (by simp)
    refine ⟨x, ?_, hr, hl.mono (by simp only; omega)⟩
    have e2 : c0.toList = x.cells := e
    rw [← e2]
  subst e0
  obtain ⟨a1, rfl, rfl, rfl, w1⟩ := open_string Tryz.underlying9 (hval 1 9 v1 rfl rfl) h1
  clear hA0
  refine (canonOnes_law x0 a1 W w0 g0 ⟨⟨⟨tabnOf hL, formsOf hL, Tryz.laysM143.s1_3 W hsh⟩, foldOf hL⟩, tabsOf hL⟩ (powOf hL)).mono fun e W' ⟨he, bel⟩ => ?_
  subst he
  exact ⟨_, rfl, _, _, _, [], _, [], hW', trodAll_mk1 (shut_bool Tryz.underlying4 _), (trodAll_cons_mk (Below.trod laidOut (by kernel_rfl) (of_decide_eq_true (by kernel_rfl)) k0 bel lt0) (trodAll_cons_mk (shut_string Tryz.underlying9 w1) trodAll_mk0)), rfl, bel.frame _, fun h => by cases h⟩
noncomputable def laidWorld (os : Os) : World := laidWorldC [(10, Rows.laid_math_bits_deBruijn32tab), (11, Rows.laid_math_bits_deBruijn64tab), (4, Rows.laid_internal_strconv_uint64pow10), (7, Rows.laid_unicode_utf8_acceptRanges), (0, Rows.laid_narthex_utf_forms), (14, Rows.laid_unicode_asciiFold), (3, Rows.laid_narthex_chars_documents), (12, Rows.laid_narthex_chars_starts), (13, Rows.laid_narthex_chars_more), (6, Rows.laid_unicode_utf8_first)] [(15, 350, (match (Rows.laid_unicode_caseOrbit : DataW Unit) with | .slice ds _ => (ds.flatMap (flatV 8)).toArray | _ => #[]), (match (Rows.laid_unicode_caseOrbit : DataW Unit) with | .slice ds _ => ds.length | _ => 0)), (16, 358, Lib.caseCells5, 336)] os
set_option maxRecDepth 100000 in
theorem laid_met (os : Os) : laidMet Tryz.prog Rows.canonOnesUptoRow.laid ((laidWorld os).forCall (fun _ _ => 0) ⟨#[], #[Value.agg #[Value.int .i64 0, Value.string ⟨#[]⟩, Value.string ⟨#[]⟩, Value.slice none 0 0, Value.string ⟨#[]⟩], .string ⟨#[]⟩], []⟩).memory :=
  laidMet_case (a := [("math/bits.deBruijn32tab", Rows.laid_math_bits_deBruijn32tab), ("math/bits.deBruijn64tab", Rows.laid_math_bits_deBruijn64tab), ("internal/strconv.uint64pow10", Rows.laid_internal_strconv_uint64pow10), ("unicode/utf8.acceptRanges", Rows.laid_unicode_utf8_acceptRanges), ("narthex/utf.forms", Rows.laid_narthex_utf_forms), ("unicode.asciiFold", Rows.laid_unicode_asciiFold), ("unicode.caseOrbit", Rows.laid_unicode_caseOrbit), ("narthex/chars.documents", Rows.laid_narthex_chars_documents), ("narthex/chars.starts", Rows.laid_narthex_chars_starts), ("narthex/chars.more", Rows.laid_narthex_chars_more)]) (b := [("unicode/utf8.first", Rows.laid_unicode_utf8_first)]) 10 (by kernel_rfl) (by kernel_rfl) (by kernel_rfl) ((World.settled Tryz.prog default).heap.size + 1) (of_decide_eq_true (by kernel_rfl)) (by kernel_rfl) (by kernel_rfl) (by kernel_rfl)
set_option maxRecDepth 100000 in
theorem reads (os : Os) {H : Type} (enc : TypeId × Value → H) : ∃ places, DataW.whole enc Tryz.prog ((laidWorld os).forCall (fun _ _ => 0) ⟨#[], #[Value.agg #[Value.int .i64 0, Value.string ⟨#[]⟩, Value.string ⟨#[]⟩, Value.slice none 0 0, Value.string ⟨#[]⟩], .string ⟨#[]⟩], []⟩).memory Tryz.f5.params.toList Rows.canonOnesSpec.vars false #[Value.agg #[Value.int .i64 0, Value.string ⟨#[]⟩, Value.string ⟨#[]⟩, Value.slice none 0 0, Value.string ⟨#[]⟩], .string ⟨#[]⟩].toList 8 = some ([.agg [.lit (.int .i64 0), .agg [.lit (.string []), .lit (.string [])], .nil, .lit (.string [])], .lit (.string [])], [], places) :=
  ⟨[], by kernel_rfl⟩
set_option maxRecDepth 100000 in
theorem lifted (os : Os) (started : os.Started) (H : Type) (enc : TypeId × Value → H) (F : Stop.Interp) :
    ReturnsInHanded {} Tryz.checked os 5 .any ((Rows.OpenSpec.upto Rows.canonOnesSpec).preRow enc Tryz.prog Tryz.f5 Rows.canonOnesUptoRow.domain false Rows.canonOnesUptoRow.laid) (((Rows.OpenSpec.upto Rows.canonOnesSpec).at F).post enc Tryz.prog Tryz.f5 false true false false) := by
  obtain ⟨places, hx⟩ := reads os enc
  refine returnsInHanded_of_row (C := Tryz.checked) (s := Rows.OpenSpec.upto Rows.canonOnesSpec) own started (by kernel_rfl) Tryz.func5
    (witness_row_atRef (enc := enc) (C := Tryz.checked) false (laidWorld os) #[Value.agg #[Value.int .i64 0, Value.string ⟨#[]⟩, Value.string ⟨#[]⟩, Value.slice none 0 0, Value.string ⟨#[]⟩], .string ⟨#[]⟩] rfl (by kernel_rfl) (by kernel_rfl) (by kernel_rfl)
      (OpenSpec.preRow_of_cond 8 hx (by kernel_rfl) (fun k hk => by cases hk; kernel_rfl) (by kernel_rfl) (laid_met os))) ?_
  intro W base args ds gs before hval hW h1 h2 h3 hL hsh _
  exact contract H enc W base args ds gs before hval hW hL hsh (by first | exact h1 _ rfl | exact h2 _ rfl | exact h3 _ rfl)
theorem said : Rows.CanonOnesUptoSaid :=
  OpenClaim.holds_of_cond 5 Tryz.f5 rfl rfl rfl rfl rfl rfl rfl ⟨rfl, rfl, rfl, rfl, rfl⟩ rfl rfl rfl rfl rfl (by kernel_rfl) Tryz.func5 (by kernel_rfl)
    (of_decide_eq_true (by kernel_rfl)) (by unfold Func.isWrapper; first | (rw [if_pos (by decide +kernel)]; kernel_rfl) | (rw [if_neg (by decide +kernel)]; exact ⟨rfl, rfl⟩))
    (fun os started H enc _ F => by rw [OpenClaim.pre_eq_preRow]; exact lifted os started H enc F)
theorem plain (f : FuncId) (fn : Func) (hf : Tryz.pinned.checked.prog.funcNamed "narthex/narthexlaw41.CanonOnes" = some f) (hfn : Tryz.pinned.checked.prog.funcs[f]? = some fn) :
    true = Tryz.pinned.checked.prog.looks [] ∧ ∀ (j : Nat) t, fn.params[j]? = some t → Tryz.pinned.checked.prog.wantsStandIn t = false := by
  obtain rfl : f = 5 := Option.some.inj ((show Tryz.prog.funcNamed "narthex/narthexlaw41.CanonOnes" = some 5 by kernel_rfl).symm.trans hf) |>.symm
  obtain rfl : fn = Tryz.f5 := (Option.some.inj (Tryz.func5.symm.trans hfn)).symm
  refine ⟨by kernel_rfl, fun j t ht => ?_⟩
  have hall : (Tryz.f5.params.toList.all fun t => Tryz.prog.wantsStandIn t == false) = true := by kernel_rfl
  have := List.all_eq_true.1 hall t (by rw [Array.mem_toList_iff]; exact Array.mem_of_getElem? ht)
  have h2 : Tryz.prog.wantsStandIn t = false := by simpa using this
  exact h2
/-- The statement. -/
theorem proved : Rows.CanonOnesUptoCardSaid :=
  Claim7.holds_tied_plain_at .later [] _ _ _ _ said (fun _ h => by cases h) (by kernel_rfl) (fun _ h => by cases h) canonOnesUpto_row_tie rfl ⟨rfl, rfl⟩ (by kernel_rfl) rfl plain (by kernel_rfl)
#print axioms proved
end Go.Proofs.YthihkbcdihochaaGreatDoor.canonOnes
