/- The law CasesPrints holds of every input that its statement speaks of; no condition of our own. The frame follows the kit's worked toy of a law over package-level tables. -/
import Derived.Test.YtbllodeanfdebaaGreatDoorRows
import Derived.Test.YtbllodeanfdebaaGreatDoorCards
import Derived.Test.YtbllodeanfdebaaGreatDoorTie
import Derived.Test.YtbllodeanfdebaaGreatDoorCuO
import Derived.Test.YtbllodeanfdebaaGreatDoorCtJ
import Derived.Test.YtbllodeanfdebaaGreatDoorLaid0
import Derived.WalkKit
import Derived.ProofKit
import Derived.OpenShut
import Derived.ShutString
import Derived.ChangeOld
import Derived.Below
import Derived.Deep.DeepHandedRow
import Derived.Lib.LaidTab
import Derived.Lib.SmallJoins
import Derived.Deep.DeepWitnessRowRef
import Derived.LaidLaws
namespace Go.Proofs.YtbllodeanfdebaaGreatDoor.casesPrints
open Go.ChangeShapes Go.WideShapes Go.ChangeAt Go.RowKit
open Go.ChangeMaps (open_string shut_string)
set_option linter.unusedVariables false
theorem own : ownKnob Tryz.prog.godebug = none := by kernel_rfl
theorem laidOut : laidOutB Tryz.prog = true := by kernel_rfl
theorem powOf {W : World} (h : laidMet Tryz.prog Rows.casesPrintsRow.laid W) : Lib.TabIs Tryz.prog W "internal/strconv.uint64pow10" .u64 Lib.pow10Tab := by
  exact laid_var h "internal/strconv.uint64pow10" Rows.laid_internal_strconv_uint64pow10 (by repeat (first | exact List.mem_cons_self | apply List.mem_cons_of_mem)) 1 8 (Lib.pow10Tab.map fun z => Value.int .u64 z) (by kernel_rfl) (by kernel_rfl)
set_option maxRecDepth 100000 in
theorem wcsOf {W : World} (h : laidMet Tryz.prog Rows.casesPrintsRow.laid W) (hsh : W.ShapedOpen Tryz.prog) : WC W.heap.size W := by
  have h1 := Tryz.laysM143.s1_3 W hsh
  have h2 := err_of h "strconv.ErrSyntax" "*errors.errorString" (.ptr (.agg [.lit (.string [105, 110, 118, 97, 108, 105, 100, 32, 115, 121, 110, 116, 97, 120])])) (by repeat (first | exact List.mem_cons_self | apply List.mem_cons_of_mem)) 3 83 _ (by kernel_rfl) (by kernel_rfl) Tryz.underlying83
  have h3 := err_of h "strconv.ErrRange" "*errors.errorString" (.ptr (.agg [.lit (.string [118, 97, 108, 117, 101, 32, 111, 117, 116, 32, 111, 102, 32, 114, 97, 110, 103, 101])])) (by repeat (first | exact List.mem_cons_self | apply List.mem_cons_of_mem)) 4 83 _ (by kernel_rfl) (by kernel_rfl) Tryz.underlying83
  obtain ⟨m, hm⟩ := id h1
  obtain ⟨t2, p2, e2⟩ := id h2
  obtain ⟨t3, p3, e3⟩ := id h3
  exact ⟨h1, World.block_lt_of_cell? W _ hm, h2, World.block_lt_of_cell? W _ e2, h3, World.block_lt_of_cell? W _ e3, Nat.le_refl _, tabIs_of (powOf h)⟩
set_option maxRecDepth 100000 in
theorem contract (H : Type) (enc : TypeId × Value → H) (W : World) (base : Nat) (args : Array Value) (ds gs : List (DataW H)) (before : List MemPlace)
    (hval : ∀ (j : Nat) t v, Tryz.f4.params[j]? = some t → args[j]? = some v → Value.okWide Tryz.prog W .any base t v)
    (hW : DataW.Whole enc Tryz.prog Tryz.f4.params.toList Rows.casesPrintsSpec.vars false W args.toList ds gs before) (hL : laidMet Tryz.prog Rows.casesPrintsRow.laid W) (hsh : W.ShapedOpen Tryz.prog) :
    Calls Tryz.prog 4 args W fun e W' => ∃ v, e = .returned v ∧ Rows.casesPrintsSpec.post enc Tryz.prog Tryz.f4 false true false false W args v W' := by
  have hW' := hW
  obtain ⟨p, q, hA0, hV, rfl, hfz, hnd⟩ := hW
  have hA : DataW.TrodAll enc Tryz.prog W 0 (fun _ => true) true Tryz.f4.params.toList args.toList ds p := hA0
  rw [Tryz.params4] at hA hval
  obtain ⟨v0, vs0, d0, ds0, p0, q0, hargs, rfl, rfl, h0, r0⟩ := trodAll_cons hA
  obtain ⟨v1, vs1, d1, ds1, p1, q1, rfl, rfl, rfl, h1, r1⟩ := trodAll_cons r0
  obtain ⟨rfl, rfl, rfl⟩ := trodAll_nil r1
  obtain rfl : args = #[v0, v1] := by cases args; simp_all
  obtain ⟨rfl, rfl⟩ := trodVars_none hV
  obtain ⟨a0, len0, cap0, rfl⟩ := okWide_slice Tryz.underlying23 (hval 0 23 v0 rfl rfl)
  have k0 := h0
  have lt0 : ∀ x ∈ p0, x.block < W.heap.size := by obtain ⟨m, hm⟩ := k0; exact DataW.trod_lt m _ _ _ hm
  obtain ⟨z0, w0⟩ : ∃ zs, IsRow .u8 W a0 len0 cap0 zs := by
    obtain ⟨fuel, hf⟩ := h0
    rcases open_ints Tryz.underlying23 Tryz.underlying5 (by kernel_rfl) hf with ⟨hcs, _⟩ | ⟨x, l, c, zs, hcs, _, hl, hm, hz, _, hcell, hwz⟩
    · simp [Value.cells] at hcs
      obtain ⟨rfl, rfl, rfl⟩ := hcs
      exact ⟨[], .inl ⟨rfl, rfl, rfl, rfl⟩⟩
    · simp [Value.cells] at hcs
      obtain ⟨rfl, rfl, rfl⟩ := hcs
      exact ⟨zs, .inr ⟨_, rfl, hl, hm, by simpa using hz, hcell, hwz⟩⟩
  obtain ⟨c1, rfl, s1⟩ := okWide_struct Tryz.underlying43 (hval 1 43 v1 rfl rfl)
  have k1 := h1
  have lt1 : ∀ x ∈ p1, x.block < W.heap.size := by obtain ⟨m, hm⟩ := k1; exact DataW.trod_lt m _ _ _ hm
  obtain ⟨m0, m1, m2, m3, m4, m5, PA, pn, pc, pl, QA, qn, qc, ql, e9, g0, g1, g2⟩ : ∃ (m0 m1 m2 m3 m4 m5 : Int) (PA : Option Addr) (pn pc : Nat) (pl : List (List UInt8)) (QA : Option Addr) (qn qc : Nat) (ql : List AnV), c1 = ([Value.int .i64 m0, .int .i64 m1, .int .i64 m2, .int .i64 m3, .int .i64 m4, .int .i64 m5, .slice PA pn pc, .slice QA qn qc]).toArray ∧ RRd cS1 1 W W.heap.size PA pn pc pl ∧ RRd cAn 3 W W.heap.size QA qn qc ql ∧ ∀ y ∈ ql, Byt W W.heap.size y.A y.a.data.length y.cap y.a.data := by
    obtain ⟨fuel, hf⟩ := h1
    obtain ⟨m0, m1, m2, m3, m4, m5, PA, pn, pc, pl, QA, qn, qc, ql, e9, g0, g1, g2⟩ := case28_open hf
    have e2 : c1.toList = [Value.int .i64 m0, .int .i64 m1, .int .i64 m2, .int .i64 m3, .int .i64 m4, .int .i64 m5, .slice PA pn pc, .slice QA qn qc] := e9
    exact ⟨m0, m1, m2, m3, m4, m5, PA, pn, pc, pl, QA, qn, qc, ql, by rw [← e2], g0, g1, g2⟩
  subst e9
  clear hA0
  refine (casesPrints_card a0 len0 cap0 _ m0 m1 m2 m3 m4 m5 PA pn pc pl QA qn qc ql W (Byt.ofRow w0) g0 g1 g2 (wcsOf hL hsh)).mono fun e W' ⟨he, bel⟩ => ?_
  subst he
  exact ⟨_, rfl, _, _, _, [], _, [], hW', trodAll_mk1 (shut_bool Tryz.underlying4 _), (trodAll_cons_mk (Below.trod laidOut (by kernel_rfl) (of_decide_eq_true (by kernel_rfl)) k0 bel lt0) (trodAll_cons_mk (Below.trod laidOut (by kernel_rfl) (of_decide_eq_true (by kernel_rfl)) k1 bel lt1) trodAll_mk0)), rfl, bel.frame _, fun h => by cases h⟩
noncomputable def laidWorld (os : Os) : World := laidWorldE [(7, Rows.laid_math_bits_deBruijn32tab), (8, Rows.laid_math_bits_deBruijn64tab), (1, Rows.laid_internal_strconv_uint64pow10), (6, Rows.laid_unicode_utf8_acceptRanges), (5, Rows.laid_unicode_utf8_first)] [(4, [118, 97, 108, 117, 101, 32, 111, 117, 116, 32, 111, 102, 32, 114, 97, 110, 103, 101]), (3, [105, 110, 118, 97, 108, 105, 100, 32, 115, 121, 110, 116, 97, 120]), (0, [98, 121, 116, 101, 115, 46, 66, 117, 102, 102, 101, 114, 58, 32, 116, 111, 111, 32, 108, 97, 114, 103, 101])] os
set_option maxRecDepth 100000 in
theorem laid_met (os : Os) : laidMet Tryz.prog Rows.casesPrintsRow.laid ((laidWorld os).forCall (fun _ _ => 0) ⟨#[], #[Value.slice none 0 0, .agg #[Value.int .i64 0, Value.int .i64 0, Value.int .i64 0, Value.int .i64 0, Value.int .i64 0, Value.int .i64 0, Value.slice none 0 0, Value.slice none 0 0]], []⟩).memory :=
  laidMet_of_run' 8 (by kernel_rfl) (by kernel_rfl)
set_option maxRecDepth 100000 in
theorem reads (os : Os) {H : Type} (enc : TypeId × Value → H) : ∃ places, DataW.whole enc Tryz.prog ((laidWorld os).forCall (fun _ _ => 0) ⟨#[], #[Value.slice none 0 0, .agg #[Value.int .i64 0, Value.int .i64 0, Value.int .i64 0, Value.int .i64 0, Value.int .i64 0, Value.int .i64 0, Value.slice none 0 0, Value.slice none 0 0]], []⟩).memory Tryz.f4.params.toList Rows.casesPrintsSpec.vars false #[Value.slice none 0 0, .agg #[Value.int .i64 0, Value.int .i64 0, Value.int .i64 0, Value.int .i64 0, Value.int .i64 0, Value.int .i64 0, Value.slice none 0 0, Value.slice none 0 0]].toList 8 = some ([.nil, .agg [.agg [.lit (.int .i64 0), .lit (.int .i64 0), .lit (.int .i64 0), .lit (.int .i64 0), .lit (.int .i64 0), .lit (.int .i64 0), .nil], .nil]], [], places) :=
  ⟨[], by kernel_rfl⟩
set_option maxRecDepth 100000 in
theorem lifted (os : Os) (started : os.Started) (H : Type) (enc : TypeId × Value → H) (F : Stop.Interp) :
    ReturnsInHanded {} Tryz.checked os 4 .any ((OpenSpec.ofChange Rows.casesPrintsSpec).preRow enc Tryz.prog Tryz.f4 Rows.casesPrintsRow.domain false Rows.casesPrintsRow.laid) (((OpenSpec.ofChange Rows.casesPrintsSpec).at F).post enc Tryz.prog Tryz.f4 false true false false) := by
  obtain ⟨places, hx⟩ := reads os enc
  refine returnsInHanded_of_row (C := Tryz.checked) (s := OpenSpec.ofChange Rows.casesPrintsSpec) own started (by kernel_rfl) Tryz.func4
    (witness_row_atRef (enc := enc) (C := Tryz.checked) false (laidWorld os) #[Value.slice none 0 0, .agg #[Value.int .i64 0, Value.int .i64 0, Value.int .i64 0, Value.int .i64 0, Value.int .i64 0, Value.int .i64 0, Value.slice none 0 0, Value.slice none 0 0]] rfl (by kernel_rfl) (by kernel_rfl) (by kernel_rfl)
      (OpenSpec.preRow_of_cond 8 hx (by kernel_rfl) (fun k hk => by cases hk) (by kernel_rfl) (laid_met os))) ?_
  intro W base args ds gs before hval hW _ _ _ hL hsh _
  exact contract H enc W base args ds gs before hval hW hL hsh
theorem said : Rows.CasesPrintsSaid :=
  OpenClaim.holds_of_cond 4 Tryz.f4 rfl rfl rfl rfl rfl rfl rfl ⟨rfl, rfl, rfl, rfl, rfl⟩ rfl rfl rfl rfl rfl (by kernel_rfl) Tryz.func4 (by kernel_rfl)
    (of_decide_eq_true (by kernel_rfl)) (by unfold Func.isWrapper; first | (rw [if_pos (by decide +kernel)]; kernel_rfl) | (rw [if_neg (by decide +kernel)]; exact ⟨rfl, rfl⟩))
    (fun os started H enc _ F => by rw [OpenClaim.pre_eq_preRow]; exact lifted os started H enc F)
theorem plain (f : FuncId) (fn : Func) (hf : Tryz.pinned.checked.prog.funcNamed "narthex/narthexlaw43.CasesPrints" = some f) (hfn : Tryz.pinned.checked.prog.funcs[f]? = some fn) :
    true = Tryz.pinned.checked.prog.looks [] ∧ ∀ (j : Nat) t, fn.params[j]? = some t → Tryz.pinned.checked.prog.wantsStandIn t = false := by
  obtain rfl : f = 4 := Option.some.inj ((show Tryz.prog.funcNamed "narthex/narthexlaw43.CasesPrints" = some 4 by kernel_rfl).symm.trans hf) |>.symm
  obtain rfl : fn = Tryz.f4 := (Option.some.inj (Tryz.func4.symm.trans hfn)).symm
  refine ⟨by kernel_rfl, fun j t ht => ?_⟩
  have hall : (Tryz.f4.params.toList.all fun t => Tryz.prog.wantsStandIn t == false) = true := by kernel_rfl
  have := List.all_eq_true.1 hall t (by rw [Array.mem_toList_iff]; exact Array.mem_of_getElem? ht)
  have h2 : Tryz.prog.wantsStandIn t = false := by simpa using this
  exact h2
/-- The statement. -/
theorem proved : Rows.CasesPrintsCardSaid :=
  Claim7.holds_tied_plain_at .later [] _ _ _ _ said (fun _ h => by cases h) (by kernel_rfl) (fun _ h => by cases h) casesPrints_row_tie rfl ⟨rfl, rfl⟩ (by kernel_rfl) rfl plain (by kernel_rfl)
#print axioms proved
end Go.Proofs.YtbllodeanfdebaaGreatDoor.casesPrints
