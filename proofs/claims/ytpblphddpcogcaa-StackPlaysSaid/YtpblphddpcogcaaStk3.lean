/- The document's Push, the program's Find and All. -/
import Derived.Test.YtpblphddpcogcaaRows
import Derived.WalkKit
import Derived.ProofKit
import Derived.OpenShut
import Derived.ShutString
import Derived.ChangeOld
import Derived.Below
import Derived.BigQuiet
import Derived.Deep.QuietTactic
import Derived.Lib.Hide
import Derived.Deep.RegionHeld3
import Derived.Lib.SlBytesConst
import Derived.Laws.CopyOwn
import Derived.Laws.CopyRow
import Derived.Lib.Bytes
import Derived.Deep.LoopGhost
import Derived.Deep.DeepFit
import Derived.Deep.DeepMust
import Derived.WalkSpells
import Derived.WalkLawsBesides
import Derived.Laws.OwnMore
import Derived.Deep.Upon
import Derived.Deep.AppendSrc
import Derived.Test.YtpblphddpcogcaaShelf
import Derived.Test.YtpblphddpcogcaaBase
import Derived.Test.YtpblphddpcogcaaStk
import Derived.Test.YtpblphddpcogcaaStk2
namespace Go.Proofs.Ytpblphddpcogcaa
open Go.ChangeShapes Go.WideShapes Go.ChangeAt Go.RowKit
set_option linter.unusedVariables false
theorem wpList_app0 {P : Program} {ops : Array Oper} {rest : List Oper} {o : Oper} {a : Act} {Q : Exit → Act → World → Prop} {w : World} (hgd : o.guard = none) (s x : Operand) (t : TypeId)
    (ho : o.op = .call { callee := .builtin .append, args := #[s, x], argTypes := #[t, t] }) (v y : Value) (hs : a.eval s = v) (hx : a.eval x = y) (hrun : ∀ ty, (Builtin.append_ #[t, t] ty #[v, y]).run P w = .ok v w)
    (h : ∀ v', v' = v → wpList P ops Q rest (a.put o.dst v') w) : wpList P ops Q (o :: rest) a w := by
  refine wpList_plain hgd fun K hK => ?_
  unfold Oper.wp execOp
  simp only [ho, resolve, invoke, builtin, Sem.run_bind, Sem.run_pure, Result.andThen_ok, List.map_toArray, List.map_cons, List.map_nil, hs, hx, hrun]
  exact hK _ _ (h _ rfl)
theorem app_own {w : World} {B n : Nat} {v : Value} {xs : List Value} (h : w.ownsRow B 3 1 v n xs) : ∃ A c, v = .slice A n c ∧ Rd w w.heap.size A n c xs ∧ ∀ a, A = some a → B ≤ a.block := by
  obtain ⟨A, c, rfl, hr⟩ := own_form h
  refine ⟨A, c, rfl, hr, fun a e => ?_⟩
  subst e
  exact (h.lt a.block rfl).1
set_option maxRecDepth 100000 in
set_option maxHeartbeats 2000000 in
theorem refPush_full (A : Option Addr) (n cap : Nat) (room x : Int) (w : World) (hr : room ≤ (n : Int)) :
    Calls Try.prog 8 #[.slice A n cap, .int .i64 room, .int .i64 x] w fun e w' => e = .returned (.tuple #[.slice A n cap, .int .i64 11]) ∧ w = w' := by
  go_enter Try.func8, Try.ntmps8
  go_wp2
  go_ret2
  exact ⟨rfl, rfl⟩
set_option maxRecDepth 100000 in
set_option maxHeartbeats 4000000 in
theorem refPush_ok (A : Option Addr) (n cap : Nat) (z : List Int) (room x : Int) (w : World) (h : Rd w w.heap.size A n cap (z.map iz)) (hm : n ≤ 1000) (hr : (n : Int) < room) :
    Calls Try.prog 8 #[.slice A n cap, .int .i64 room, .int .i64 x] w fun e w' => ∃ A' c', e = .returned (.tuple #[.slice A' (n + 1) c', .int .i64 0]) ∧ Rd w' w'.heap.size A' (n + 1) c' ((z ++ [x]).map iz) ∧ Below w.heap.size w w' ∧ ∀ a, A' = some a → w.heap.size ≤ a.block := by
  have HB := Lib.hid h
  have hl : z.length = n := by have := h.len; simpa using this
  have HL := Lib.hid hl
  have hr' : ¬ room ≤ (n : Int) := by omega
  have hb0 := (Below.refl _ w).alloc (Nat.le_refl _) (.cells #[] 3)
  have HB0 := Lib.hid hb0
  have HO := Lib.hid (World.ownsRow_lit (base := w.heap.size) (e := 3) (size := 1) w #[] 0 (Nat.le_refl _) (by unfold maxLen; omega) rfl)
  by_cases hn : n = 0
  · subst hn
    have hz : z = [] := List.length_eq_zero_iff.1 hl
    subst hz
    have hap : ∀ (W : World) (ty : TypeId), (Builtin.append_ #[30, 30] ty #[.slice (some ⟨w.heap.size, 0, none⟩) 0 0, .slice A 0 cap]).run Try.prog W = .ok (.slice (some ⟨w.heap.size, 0, none⟩) 0 0) W := fun W ty => by
      obtain ⟨i0, hi, hz0, hz1, hz2⟩ := info_int
      refine run_append_nothing W 30 30 ty 3 i0 Try.underlying30 hi _ 0 0 (Nat.le_refl _) _ ?_
      cases A with
      | none => exact Src.ofNil W Try.underlying30 cap
      | some a => exact Src.ofSlice W Try.underlying30 a 0 cap [] (by simp) (fun j u hu => by simp at hu) (fun u hu => by cases hu)
    have HAP := Lib.hid hap
    clear h hl hap hb0
    go_enter Try.func8, Try.ntmps8
    go_wp2_with (first
      | (at_builtin; refine wpList_app0 rfl (.tmp 13) (.tmp 14) 30 rfl _ _ rfl rfl (HAP.out _) ?_; intro v0 hv0; have HO2 : Hid ((w.alloc (.cells #[] 3)).ownsRow w.heap.size 3 1 v0 0 []) := Lib.hid (by rw [hv0]; exact HO.out); have HSZ : Hid (w.heap.size ≤ (w.alloc (.cells #[] 3)).heap.size) := Lib.hid HB0.out.size; clear hv0 HO HAP; generalize w.alloc (.cells #[] 3) = wa at *)
      | (at_builtin; refine wpList_app1 rfl (.tmp 15) (.tmp 17) 30 3 rfl (.int .i64 0) 8 Try.underlying30 info_int rfl w.heap.size _ 0 [] rfl HO2.out (.int .i64 x) rfl rfl (by omega) (by decide) HSZ.out w w.heap.size HB0.out (Nat.le_refl _) ?_))
    intro v2 w2 hown2 hb2 hs2
    obtain ⟨A2, c2, rfl, hr2, hA2⟩ := app_own hown2
    have HE := Lib.hid (And.intro hr2 (And.intro hb2 hA2))
    clear hr2 hb2 hA2 hown2 hs2
    go_wp2
    go_ret2
    exact ⟨A2, c2, rfl, HE.out.1, HE.out.2.1, HE.out.2.2⟩
  · obtain ⟨b, o, e, hb, hc⟩ := h.at_ (by have := h.le; omega)
    subst e
    have hcs : ∀ (j : Nat) (u : Value), (z.map iz)[j]? = some u → (w.alloc (.cells #[] 3)).cell? ((⟨b, o, none⟩ : Addr).add j) = some u := fun j u hu => by
      rw [addr_add, hb0.cell hb]
      exact hc j u hu
    have HC := Lib.hid hcs
    obtain ⟨i0, hi, hz0, hz1, hz2⟩ := info_int
    clear h hb hc hcs hb0 hl
    go_enter Try.func8, Try.ntmps8
    go_wp2_with (first
      | (at_builtin; refine wpList_append_own _ rfl (.tmp 13) (.tmp 14) 30 rfl w.heap.size 3 i0 (.int .i64 0) 1 8 Try.underlying30 hi hz0 hz1 hz2 rfl (by decide) _ 0 [] rfl HO.out ⟨b, o, none⟩ n cap (z.map iz) rfl (by simpa using HL.out) HC.out (by first | (intro u hu; rfl) | (intro u hu; obtain ⟨y, _, rfl⟩ := List.mem_map.1 hu; rfl)) (by unfold maxLen; omega) (by omega) (by simp) ?_; intro v1 w1 hown1 hgrow1 _; have B1 := Lib.hid (HB0.out.grown hgrow1 (by simp) (fun k e => by cases e; exact Nat.le_refl _)); have HO1 := Lib.hid hown1; have HSZ : Hid (w.heap.size ≤ w1.heap.size) := Lib.hid B1.out.size; clear hown1 hgrow1)
      | (at_builtin; refine wpList_app1 rfl (.tmp 15) (.tmp 17) 30 3 rfl (.int .i64 0) 8 Try.underlying30 info_int rfl w.heap.size _ (0 + n) _ rfl HO1.out (.int .i64 x) rfl rfl (by omega) (by decide) HSZ.out w w.heap.size B1.out (Nat.le_refl _) ?_))
    intro v2 w2 hown2 hb2 hs2
    obtain ⟨A2, c2, rfl, hr2, hA2⟩ := app_own hown2
    have HE := Lib.hid (And.intro hr2 (And.intro hb2 hA2))
    clear hr2 hb2 hA2 hown2 hs2
    go_wp2
    go_ret2
    refine ⟨A2, c2, rfl, ?_, HE.out.2.1, HE.out.2.2⟩
    have := HE.out.1
    rw [List.map_append]
    exact this
end Go.Proofs.Ytpblphddpcogcaa
