/- utf.Check. -/
import Derived.Test.YtljmpghijlibaaaDoorRows
import Derived.WalkKit
import Derived.ProofKit
import Derived.OpenShut
import Derived.ShutString
import Derived.ChangeOld
import Derived.Below
import Derived.BigQuiet
import Derived.Deep.QuietTactic
import Derived.Lib.Hide
import Derived.Deep.RegionHeld3
import Derived.Lib.SlBytesConst
import Derived.Laws.CopyOwn
import Derived.Laws.CopyRow
import Derived.Lib.Bytes
import Derived.Deep.LoopGhost
import Derived.Deep.DeepFit
import Derived.Deep.DeepMust
import Derived.WalkSpells
import Derived.WalkLawsBesides
import Derived.Laws.EntriesVeiled
import Derived.Laws.Rows
import Derived.RangeFuncNested
import Derived.RangeFuncBound
import Derived.RangeFuncCalls
import Derived.RangeFuncLeaves
import Derived.RangeFuncBox
import Derived.Shelf.Abstract
import Derived.Shelf.RegionOpen
import Derived.OwnWalkIn
import Derived.TacticsInMore
import Derived.LoopNIn
import Derived.LoopIn
import Derived.Maps.AppendAt
import Derived.Test.YtljmpghijlibaaaDoorShelf
import Derived.Test.YtljmpghijlibaaaDoorBase
import Derived.Test.YtljmpghijlibaaaDoorCharPlain
import Derived.Test.YtljmpghijlibaaaDoorUtf1
import Derived.Test.YtljmpghijlibaaaDoorUtf2
import Derived.Test.YtljmpghijlibaaaDoorUtf3
import Derived.Test.YtljmpghijlibaaaDoorChars1
import Derived.Test.YtljmpghijlibaaaDoorRun
import Derived.Test.YtljmpghijlibaaaDoorRunU
import Derived.Test.YtljmpghijlibaaaDoorRunV
namespace Go.Proofs.YtljmpghijlibaaaDoor
open Go.ChangeShapes Go.WideShapes Go.ChangeAt Go.RowKit
set_option linter.unusedVariables false
attribute [local go_sem] Oper.semAt_some
def ChkI (S : Nat) (w : World) (bx : Value) (pre : List (Int × Int)) (W : World) : Prop :=
  (Boxed W S 3 (.int .i64 0) ∧ (Boxed W (S + 1) 25 (.int .i64 0) ∧ Boxed W (S + 1 + 1) 35 bx)) ∧ ((∀ x ∈ pre, x.2 = 0) ∧ Below S w W)
def ChkX (S : Nat) (w : World) (c : Code) (pre : List (Int × Int)) (W : World) : Prop :=
  ∃ x : Int × Int, (((Boxed W S 3 (.int .i64 x.1) ∧ Boxed W (S + 1) 25 (.int .i64 x.2)) ∧ (c = .ret ∧ x ∈ pre ∧ x.2 ≠ 0)) ∧ Below S w W)
theorem chkI_own (S B : Nat) (w : World) (bx : Value) (hS : S ≤ w.heap.size) (hB : S ≤ B) : OwnFrom B (ChkI S w bx) :=
  OwnFrom.and (OwnFrom.and (Own.from (boxed_own S 3 (fun _ : List (Int × Int) => .int .i64 0)) _)
    (OwnFrom.and (Own.from (boxed_own (S + 1) 25 (fun _ => .int .i64 0)) _) (Own.from (boxed_own (S + 1 + 1) 35 (fun _ => bx)) _))) (OwnFrom.and (ownFrom_pure _ fun pre : List (Int × Int) => ∀ x ∈ pre, x.2 = 0) (ownFrom_below hS hB))
theorem chkX_own (S B : Nat) (w : World) (hS : S ≤ w.heap.size) (hB : S ≤ B) (c : Code) : OwnFrom B (ChkX S w c) := by
  rintro s W W' row ⟨x, hx⟩ hg hr
  exact ⟨x, (OwnFrom.and (OwnFrom.and (OwnFrom.and (Own.from (boxed_own S 3 (fun _ : List (Int × Int) => .int .i64 x.1)) _) (Own.from (boxed_own (S + 1) 25 (fun _ => .int .i64 x.2)) _)) (ownFrom_pure _ fun pre : List (Int × Int) => c = .ret ∧ x ∈ pre ∧ x.2 ≠ 0)) (ownFrom_below hS hB)) s W W' row hx hg hr⟩
set_option maxRecDepth 100000 in
set_option maxHeartbeats 4000000 in
theorem utfCheck_c (A : Option Addr) (n cap : Nat) (l : List UInt8) (w : World) (h : Byt w w.heap.size A n cap l) (hF : Forms w) (hm : n ≤ 1100000) :
    Calls Tryd.prog 60 #[.slice A n cap] w fun e w' => (∃ k : Int, e = .returned (.tuple #[.int .i64 k, .int .i64 (if (runesOut l).2 = true then 0 else 5)])) ∧ Below w.heap.size w w' := by
  have hln := h.length
  have HIN := Lib.hid (And.intro h (And.intro hF hln))
  have hlen : (itemsL l.length l 0).length ≤ n + 1 := by have := items_len l; omega
  have HLEN := Lib.hid hlen
  have hS := Lib.hid hF.lt
  clear h hF hlen hln
  obtain ⟨R, hR⟩ : ∃ R : Int, (if (runesOut l).2 = true then (0:Int) else 5) = R := ⟨_, rfl⟩
  rw [hR]
  have HR := Lib.hid hR
  clear hR
  refine (callsIn_wide (n := 5)).1 ?_
  refine callsIn_of_wp_marks Tryd.func60 rfl trivial ?_ rfl
  simp only [Tryd.ntmps60, List.size_toArray, List.length_cons, List.length_nil, Nat.reduceAdd, Nat.reduceSub, Array.replicate_succ, Array.replicate_zero, List.push_toArray, List.append_toArray, List.nil_append, List.cons_append]
  gi_wp2_with (first | (refine ⟨trivial, ?_⟩; gi_at_call 88; refine (callsIn_wide.2 (utfAll_c A n cap _)).mono ?_; rintro e w' ⟨rfl, rfl⟩) | (gi_at_call 88; refine (callsIn_wide.2 (utfAll_c A n cap _)).mono ?_; rintro e w' ⟨rfl, rfl⟩))
  have b2 := Boxed.new w 3 (.int .i64 0)
  have b3 := Boxed.new (w.alloc (.cells #[.int .i64 0] 3)) 25 (.int .i64 0)
  have bb := Boxed.new ((w.alloc (.cells #[.int .i64 0] 3)).alloc (.cells #[.int .i64 0] 25)) 35 (.slice A n cap)
  simp only [World.size_alloc] at b3 bb
  have b2' := (b2.alloc (.cells #[.int .i64 0] 25)).alloc (.cells #[.slice A n cap] 35)
  have b3' := b3.alloc (.cells #[.slice A n cap] 35)
  have hB0 : Below w.heap.size w (((w.alloc (.cells #[.int .i64 0] 3)).alloc (.cells #[.int .i64 0] 25)).alloc (.cells #[.slice A n cap] 35)) := (((Below.refl _ w).alloc (Nat.le_refl _) _).alloc (by simp) _).alloc (by simp; omega) _
  have hsz : (((w.alloc (.cells #[.int .i64 0] 3)).alloc (.cells #[.int .i64 0] 25)).alloc (.cells #[.slice A n cap] 35)).heap.size = w.heap.size + 3 := by simp
  clear b2 b3
  generalize hS0 : w.heap.size = S at *
  generalize hW0 : (((w.alloc (.cells #[.int .i64 0] 3)).alloc (.cells #[.int .i64 0] 25)).alloc (.cells #[.slice A n cap] 35)) = W0 at *
  have HSEQ : SeqStopsK Fence.wide (5 - 1) Tryd.prog 115 #[.pointer (some ⟨S + 1 + 1, 0, none⟩)] encI (KpB S (S + 1 + 1)) (fun ys => ys = itemsL l.length l 0) (fun pre => pre <+: itemsL l.length l 0) (n + 1) W0 := fun lr J Jx W hW hJ hJx hY h0 =>
    utfAll1_in 4 (by omega) lr (S + 1 + 1) S A n cap l J Jx W hJ hY hm ((hW.cell (p := ⟨S + 1 + 1, 0, none⟩) (by show S + 1 + 1 < W0.heap.size; omega)).trans bb.cell) ((HIN.out.1.below hB0).below (hW.mono (by omega))) ((HIN.out.2.1.below hB0 hS.out).below (hW.mono (show S ≤ W0.heap.size by omega)) hS.out) hS.out h0
  refine wpIn_rangeFunc_ownG rfl (by omega) (gf := 115) (lb := #[.pointer (some ⟨S + 1 + 1, 0, none⟩)]) rfl trivial (enters_of Tryd.func115 (by kernel_rfl) rfl) HSEQ KpB.trans
    (fun W l o o' hl ho _ _ => kpB_b (D := W0.heap.size) (by omega) (by omega) W l o o' hl ho) (Below.refl _ _) (fun _ => rfl)
    (ChkI S w (.slice A n cap)) (ChkX S w) (chkI_own S W0.heap.size w _ (by omega) (by omega)) (chkX_own S W0.heap.size w (by omega) (by omega))
    ⟨⟨b2', b3', bb⟩, by simp, hB0⟩
    (fun x => { tmps := #[.slice A n cap, undef, .pointer (some ⟨S, 0, none⟩), .pointer (some ⟨S + 1, 0, none⟩), .int .i64 x.1, .int .i64 x.2, .slice A n cap, .func (.func 115) #[] #[.pointer (some ⟨S + 1 + 1, 0, none⟩)], .int .i64 x.1, .int .i64 x.2, undef, undef, undef, undef, undef, undef], defers := [] }) ?assign ?body ?done ?stop
  case assign =>
    intro lr x W K hK
    unfold encI
    gi_wp2
    exact hK
  case body =>
    rintro lr pre ⟨x1, x2⟩ W ⟨⟨hv2, hv3, hvb⟩, hz, hB⟩ hlt
    simp only
    have hBs := hB.size
    rw [hS0] at hBs
    by_cases hx : x2 = 0
    · subst hx
      have HKEEP := Lib.hid (And.intro hv2 (And.intro hv3 (And.intro hvb (And.intro hz hB))))
      clear hv2 hv3 hvb hz hB
      gi_wp2
      refine ⟨(KeepsOthers.refl _).from _, ⟨Below.refl _ _, rfl⟩, ⟨HKEEP.out.1, HKEEP.out.2.1, HKEEP.out.2.2.1⟩, ?_, HKEEP.out.2.2.2.2⟩
      intro y hy
      rcases List.mem_append.1 hy with hy | hy
      · exact HKEEP.out.2.2.2.1 y hy
      · rw [List.mem_singleton.1 hy]
    · have hxz : (x2 != 0) = true := by simpa using hx
      have c2 := hv2.cell
      have f2 := hv2.frozen
      have c3 := hv3.cell
      have f3 := hv3.frozen
      have HX := Lib.hid hx
      have HKEEP := Lib.hid (And.intro hv2 (And.intro hv3 hB))
      clear hx hv2 hv3 hvb hz hB
      gi_wp2
      refine ⟨((KeepsOthers.setCell _ _ _).trans (KeepsOthers.setCell _ _ _)).from _, (x1, x2), ⟨⟨(HKEEP.out.1.set _).other (by omega) _, (HKEEP.out.2.1.other (by omega) _).set _⟩, rfl, by simp, HX.out⟩, ?_⟩
      exact (HKEEP.out.2.2.setCell (p := ⟨S, 0, none⟩) (by rw [← hS0]; exact Nat.le_refl _) _).setCell (p := ⟨S + 1, 0, none⟩) (by show S ≤ S + 1; omega) _
  case done =>
    rintro D ys W hD rfl ⟨⟨hv2, hv3, hvb⟩, hz, hB⟩ hK
    obtain ⟨hok, hln, hmp⟩ := items_fst l hz
    have c2 := hv2.cell
    have f2 := hv2.frozen
    have c3 := hv3.cell
    have f3 := hv3.frozen
    have HALL := Lib.hid (And.intro hv2 (And.intro hv3 (And.intro hB (And.intro hok (And.intro hD hK)))))
    clear hv2 hv3 hvb hz hB hok hln hmp hD hK
    gi_wp2
    obtain ⟨hv2, hv3, hB, hok, hD, hK⟩ := HALL.out
    have hK' := ((KeepsOthers.setCell W ⟨S, 0, none⟩ (.int .i64 (n : Int))).trans (KeepsOthers.setCell _ ⟨S + 1, 0, none⟩ (.int .i64 0))).same D _ hK rfl
    have hD2 : S + 3 ≤ D := by omega
    refine ⟨by simp, .inl ⟨_, _, rfl, run_takeDeferred hK', ?_⟩⟩
    have e2 := ((hv2.set (.int .i64 (n : Int))).other (B' := S + 1) (by omega) (.int .i64 0)).kept (grownBy_putObj' _ D (.deferred none)) (by intro e; cases e; omega)
    have e3 := ((hv3.other (B' := S) (by omega) (.int .i64 (n : Int))).set (.int .i64 0)).kept (grownBy_putObj' _ D (.deferred none)) (by intro e; cases e; omega)
    have hB3 := ((hB.setCell (p := ⟨S, 0, none⟩) (Nat.le_refl _) (.int .i64 (n : Int))).setCell (p := ⟨S + 1, 0, none⟩) (by show S ≤ S + 1; omega) (.int .i64 0)).trans (kpB_b (Bn := S) (D := W0.heap.size) (by omega) (by omega) _ D _ (.deferred none) hD hK').1
    have c5 := e2.cell
    have c6 := e3.cell
    refine ⟨.tuple #[.int .i64 (n : Int), .int .i64 0], ?_, ⟨⟨_, by rw [show R = 0 by rw [← HR.out, hok]; rfl]⟩, (congrArg (fun n => Below n w _) hS0).mpr hB3⟩⟩
    simp [results, Tryd.f60, go_sem, c5, c6]
  case stop =>
    rintro D c pre W hD hpre ⟨x, ⟨⟨hv2, hv3⟩, rfl, hin, hne⟩, hB⟩ hK
    obtain ⟨hok, h5⟩ := items_bad l pre hpre x hin hne
    have HALL := Lib.hid (And.intro hv2 (And.intro hv3 (And.intro hB (And.intro hok (And.intro h5 (And.intro hD hK))))))
    clear hv2 hv3 hB hok h5 hin hne hpre hD hK
    gi_wp2
    obtain ⟨hv2, hv3, hB, hok, h5, hD, hK⟩ := HALL.out
    have hD2 : S + 3 ≤ D := by omega
    refine ⟨by simp, .inl ⟨_, _, rfl, run_takeDeferred hK, ?_⟩⟩
    have e2 := hv2.kept (grownBy_putObj' _ D (.deferred none)) (by intro e; cases e; omega)
    have e3 := hv3.kept (grownBy_putObj' _ D (.deferred none)) (by intro e; cases e; omega)
    have hB3 := hB.trans (kpB_b (Bn := S) (D := W0.heap.size) (by omega) (by omega) _ D _ (.deferred none) hD hK).1
    have c5 := e2.cell
    have c6 := e3.cell
    refine ⟨.tuple #[.int .i64 x.1, .int .i64 x.2], ?_, ⟨⟨_, by rw [show R = x.2 by rw [← HR.out, hok, h5]; rfl]⟩, (congrArg (fun n => Below n w _) hS0).mpr hB3⟩⟩
    simp [results, Tryd.f60, go_sem, c5, c6]
end Go.Proofs.YtljmpghijlibaaaDoor
