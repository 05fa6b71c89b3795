/- Texts of ours, joined: PgM. -/
import Derived.Test.YtgenpgfhjhcahaaGreatDoorRows
import Derived.WalkKit
import Derived.ProofKit
import Derived.OpenShut
import Derived.ShutString
import Derived.ChangeOld
import Derived.Below
import Derived.BigQuiet
import Derived.Deep.QuietTactic
import Derived.Lib.Hide
import Derived.Deep.RegionHeld3
import Derived.Lib.SlBytesConst
import Derived.Laws.CopyOwn
import Derived.Laws.CopyRow
import Derived.Lib.Bytes
import Derived.Deep.LoopGhost
import Derived.Deep.DeepFit
import Derived.Deep.DeepMust
import Derived.WalkSpells
import Derived.WalkLawsBesides
import Derived.Laws.EntriesVeiled
import Derived.Laws.Rows
import Derived.RangeFuncNested
import Derived.RangeFuncBound
import Derived.RangeFuncCalls
import Derived.RangeFuncLeaves
import Derived.RangeFuncBox
import Derived.RangeFuncWrites
import Derived.Shelf.Abstract
import Derived.Shelf.RegionOpen
import Derived.OwnWalkIn
import Derived.TacticsInMore
import Derived.LoopNIn
import Derived.LoopIn
import Derived.Maps.AppendAt
import Derived.Maps.OwnIn
import Derived.Maps.OwnOps
import Derived.Maps.OwnSet
import Derived.Maps.Views
import Derived.DeepKeys4
import Derived.MapViews
import Derived.Maps.Keyed
import Derived.Test.YtgenpgfhjhcahaaGreatDoorQ1
import Derived.Test.YtgenpgfhjhcahaaGreatDoorQ2
import Derived.Test.YtgenpgfhjhcahaaGreatDoorQ7
import Derived.Test.YtgenpgfhjhcahaaGreatDoorQ8
import Derived.Test.YtgenpgfhjhcahaaGreatDoorQ4
import Derived.Test.YtgenpgfhjhcahaaGreatDoorQ3
import Derived.Test.YtgenpgfhjhcahaaGreatDoorQ5
import Derived.Test.YtgenpgfhjhcahaaGreatDoorQ9
import Derived.Test.YtgenpgfhjhcahaaGreatDoorQ10
import Derived.Test.YtgenpgfhjhcahaaGreatDoorQ11
import Derived.Test.YtgenpgfhjhcahaaGreatDoorQ12
import Derived.Test.YtgenpgfhjhcahaaGreatDoorQ13
/- prolog.Misc. -/
namespace Go.Proofs.YtgenpgfhjhcahaaGreatDoor
open Go.ChangeShapes Go.WideShapes Go.ChangeAt Go.RowKit
set_option linter.unusedVariables false
attribute [local go_sem] Oper.semAt_some
theorem infoC_ev : ∃ i, Tryz.prog.info? 54 = some i ∧ i.zero = some (.agg #[.int .i64 0, .string ⟨#[]⟩, .string ⟨#[]⟩, .slice none 0 0, .string ⟨#[]⟩]) ∧ i.size = 5 ∧ i.bytes = 80 := by
  have h : (Tryz.prog.info? 54).map (fun i => (i.zero, i.size, i.bytes)) = some (some (.agg #[.int .i64 0, .string ⟨#[]⟩, .string ⟨#[]⟩, .slice none 0 0, .string ⟨#[]⟩]), 5, 80) := by kernel_rfl
  obtain ⟨i, h1, h2, h3, h4⟩ := info_parts h
  exact ⟨i, h1, h2, h3, h4⟩
def evC (pre : List (MisT × Nat × Nat)) : List MisT := pre.map (fun y => y.1)
/-- The range in prolog.Misc: its place, its row. -/
def PgI (k S : Nat) (w : World) (pre : List (MisT × Nat × Nat)) (W : World) : Prop :=
  (∃ v, Boxed W (S + 4) 24 v ∧ OwnC cMis 5 54 W (S + 7) v (evC pre)) ∧ Boxed W S 3 (.int .i64 (lastN k pre : Nat)) ∧ Below S w W ∧ S + 7 ≤ W.heap.size ∧ (∀ y ∈ pre, y.2.2 = 0) ∧
  Boxed W (S + 1) 24 (.slice none 0 0) ∧ Boxed W (S + 2) 3 (.int .i64 0) ∧ Boxed W (S + 3) 25 (.int .i64 0)
/-- .. where it was stopped by a fault. -/
def PgX (S : Nat) (w : World) (c : Code) (pre : List (MisT × Nat × Nat)) (W : World) : Prop :=
  c = .ret ∧ (∃ p x, pre = p ++ [x] ∧ x.2.2 ≠ 0 ∧ Boxed W (S + 3) 25 (.int .i64 (x.2.2 : Nat))) ∧ Below S w W ∧ S + 7 ≤ W.heap.size ∧
  Boxed W (S + 1) 24 (.slice none 0 0) ∧ Boxed W (S + 2) 3 (.int .i64 0)
theorem bx_grown {W W' : World} {row : Option Nat} {b : Nat} {T : TypeId} {v : Value} {S : Nat} (h : Boxed W b T v) (hb : b < S + 7) (hne : b ≠ S + 6) (hg : W.grownBy W' row) (hr : ∀ r, row = some r → r = S + 6 ∨ (S + 7 ≤ r ∧ ∃ o : Obj, W.heap[r]? = some o ∧ o.isCells = false)) : Boxed W' b T v :=
  (hg.block b (lt_of h) (fun e => by rcases hr b e.symm with h | h <;> omega)).trans h
theorem PgI.grown {k S : Nat} {w : World} {pre : List (MisT × Nat × Nat)} {W W' : World} {row : Option Nat} (h : PgI k S w pre W) (hS : S = w.heap.size) (hg : W.grownBy W' row) (hr : ∀ r, row = some r → r = S + 6 ∨ (S + 7 ≤ r ∧ ∃ o : Obj, W.heap[r]? = some o ∧ o.isCells = false)) : PgI k S w pre W' := by
  obtain ⟨⟨v, h1, h2⟩, h3, h4, h5, h6, h7, h8, h9⟩ := h
  refine ⟨⟨v, bx_grown h1 (by omega) (by omega) hg hr, ?_⟩, bx_grown h3 (by omega) (by omega) hg hr, h4.grown hg (by omega) (fun k hk => by rcases hr k hk with h | h <;> omega), Nat.le_trans h5 hg.size, h6, bx_grown h7 (by omega) (by omega) hg hr, bx_grown h8 (by omega) (by omega) hg hr, bx_grown h9 (by omega) (by omega) hg hr⟩
  obtain ⟨hl, hv | ⟨g, cap, cur, hv, hgb, hh, r⟩⟩ := h2
  · exact ⟨hl, .inl hv⟩
  · refine ⟨hl, .inr ⟨g, cap, cur, hv, hgb, (hg.block g (lt_of hh) (fun e => ?_)).trans hh, r⟩⟩
    rcases hr g e.symm with h | ⟨_, o, ho, hc⟩
    · omega
    · rw [hh] at ho
      cases ho
      simp [Obj.isCells] at hc
theorem PgX.grown {S : Nat} {w : World} {c : Code} {pre : List (MisT × Nat × Nat)} {W W' : World} {row : Option Nat} (h : PgX S w c pre W) (hS : S = w.heap.size) (hg : W.grownBy W' row) (hr : ∀ r, row = some r → r = S + 6 ∨ (S + 7 ≤ r ∧ ∃ o : Obj, W.heap[r]? = some o ∧ o.isCells = false)) : PgX S w c pre W' := by
  obtain ⟨h1, ⟨p, x, h2, h3, h4⟩, h5, h6, h7, h8⟩ := h
  exact ⟨h1, ⟨p, x, h2, h3, bx_grown h4 (by omega) (by omega) hg hr⟩, h5.grown hg (by omega) (fun k hk => by rcases hr k hk with h | h <;> omega), Nat.le_trans h6 hg.size, bx_grown h7 (by omega) (by omega) hg hr, bx_grown h8 (by omega) (by omega) hg hr⟩
theorem pg_step {S : Nat} {W X : World} (hB : Below S W X) (hs : S + 7 ≤ W.heap.size) (hL : ∀ (q : Nat) (o : Obj), W.heap[q]? = some o → q = S + 5 ∨ q = S + 6 → X.heap[q]? = some o) (hR : ∀ (q : Nat) (o : Obj), S + 7 ≤ q → W.heap[q]? = some o → (∀ vs f, o ≠ .cells vs 54 f) → X.heap[q]? = some o) : KeepsFrom (S + 7) W X ∧ KpE S (S + 5) (S + 6) W X := by
  obtain ⟨v, hv⟩ : ∃ o, W.heap[S + 5]? = some o := ⟨_, Array.getElem?_eq_getElem (by omega)⟩
  obtain ⟨u, hu⟩ : ∃ o, W.heap[S + 6]? = some o := ⟨_, Array.getElem?_eq_getElem (by omega)⟩
  refine ⟨⟨hB.size, fun k o hk ho hc => hR k o hk ho (fun vs f e => by rw [e] at hc; simp [Obj.isCells] at hc)⟩, hB, ?_, ?_⟩
  · rw [hv]
    exact hL _ _ hv (.inl rfl)
  · rw [hu]
    exact hL _ _ hu (.inr rfl)
theorem ownC_base {α : Type} {c : α → List Value} {k : Nat} {e : TypeId} {w : World} {b b' : Nat} {v : Value} {l : List α} (h : OwnC c k e w b v l) (hb : b' ≤ b) : OwnC c k e w b' v l := by
  obtain ⟨hl, h2 | ⟨g, cap, cur, hv, hg, r⟩⟩ := h
  · exact ⟨hl, .inl h2⟩
  · exact ⟨hl, .inr ⟨g, cap, cur, hv, Nat.le_trans hb hg, r⟩⟩
theorem hp_at (w : World) (x : Obj) {g : Nat} (hg : w.heap.size = g) : (w.alloc x).heap[g]? = some x := by
  subst hg
  exact hp_new _ _
set_option linter.unusedSimpArgs false in
set_option maxRecDepth 100000 in
set_option maxHeartbeats 8000000 in
theorem pgMisc_c (A : Option Addr) (n cap : Nat) (l : List UInt8) (k : Nat) (w : World) (h : Byt w w.heap.size A n cap l) (hW : W29 w) (hm : n ≤ 50000) (hk : k ≤ n) :
    Calls Tryz.prog 6 #[.slice A n cap, .int .i64 (k : Nat)] w fun e w' => ∃ OA oc, e = .returned (.tuple #[.slice OA (miscOut l k).1.length oc, .int .i64 ((miscOut l k).2.1 : Nat), .int .i64 ((miscOut l k).2.2 : Nat)]) ∧ OwnC cMis 5 54 w' w.heap.size (.slice OA (miscOut l k).1.length oc) (miscOut l k).1 ∧ Below w.heap.size w w' := by
  have HB := Lib.hid (And.intro h hW)
  have HL : Hid (l.length = n) := Lib.hid h.length
  have hk0 : (0 : Int) ≤ (k : Int) := by omega
  have hk1 : ¬ (n : Int) < (k : Int) := by omega
  clear h hW
  refine (callsIn_wide (n := 5)).1 ?_
  refine callsIn_of_wp_marks Tryz.func6 rfl trivial ?_ rfl
  simp only [Tryz.ntmps6, List.size_toArray, List.length_cons, List.length_nil, Nat.reduceAdd, Nat.reduceSub, Array.replicate_succ, Array.replicate_zero, List.push_toArray, List.append_toArray, List.nil_append, List.cons_append]
  gi_wp2_with fail
  refine ⟨trivial, (callsIn_wide.2 (pgEvents_c A n cap k _)).mono ?_⟩
  rintro e w2 ⟨rfl, rfl⟩
  gi_wp2_with fail
  have b0 := hp_old (o := (.cells #[.int .i64 (k : Nat)] 3)) (hp_old (o := (.cells #[.slice A n cap] 22)) (hp_old (o := (.cells #[.slice none 0 0] 24)) (hp_old (o := (.cells #[.int .i64 0] 25)) (hp_old (o := (.cells #[.int .i64 0] 3)) (hp_old (o := (.cells #[.slice none 0 0] 24)) (hp_new w (.cells #[.int .i64 (k : Nat)] 3)))))))
  have b1 := hp_old (o := (.cells #[.int .i64 (k : Nat)] 3)) (hp_old (o := (.cells #[.slice A n cap] 22)) (hp_old (o := (.cells #[.slice none 0 0] 24)) (hp_old (o := (.cells #[.int .i64 0] 25)) (hp_old (o := (.cells #[.int .i64 0] 3)) (hp_at (w.alloc (.cells #[.int .i64 (k : Nat)] 3)) (.cells #[.slice none 0 0] 24) (g := w.heap.size + 1) (by simp))))))
  have b2 := hp_old (o := (.cells #[.int .i64 (k : Nat)] 3)) (hp_old (o := (.cells #[.slice A n cap] 22)) (hp_old (o := (.cells #[.slice none 0 0] 24)) (hp_old (o := (.cells #[.int .i64 0] 25)) (hp_at ((w.alloc (.cells #[.int .i64 (k : Nat)] 3)).alloc (.cells #[.slice none 0 0] 24)) (.cells #[.int .i64 0] 3) (g := w.heap.size + 2) (by simp)))))
  have b3 := hp_old (o := (.cells #[.int .i64 (k : Nat)] 3)) (hp_old (o := (.cells #[.slice A n cap] 22)) (hp_old (o := (.cells #[.slice none 0 0] 24)) (hp_at (((w.alloc (.cells #[.int .i64 (k : Nat)] 3)).alloc (.cells #[.slice none 0 0] 24)).alloc (.cells #[.int .i64 0] 3)) (.cells #[.int .i64 0] 25) (g := w.heap.size + 3) (by simp))))
  have b4 := hp_old (o := (.cells #[.int .i64 (k : Nat)] 3)) (hp_old (o := (.cells #[.slice A n cap] 22)) (hp_at ((((w.alloc (.cells #[.int .i64 (k : Nat)] 3)).alloc (.cells #[.slice none 0 0] 24)).alloc (.cells #[.int .i64 0] 3)).alloc (.cells #[.int .i64 0] 25)) (.cells #[.slice none 0 0] 24) (g := w.heap.size + 4) (by simp)))
  have b5 := hp_old (o := (.cells #[.int .i64 (k : Nat)] 3)) (hp_at (((((w.alloc (.cells #[.int .i64 (k : Nat)] 3)).alloc (.cells #[.slice none 0 0] 24)).alloc (.cells #[.int .i64 0] 3)).alloc (.cells #[.int .i64 0] 25)).alloc (.cells #[.slice none 0 0] 24)) (.cells #[.slice A n cap] 22) (g := w.heap.size + 5) (by simp))
  have b6 := hp_at ((((((w.alloc (.cells #[.int .i64 (k : Nat)] 3)).alloc (.cells #[.slice none 0 0] 24)).alloc (.cells #[.int .i64 0] 3)).alloc (.cells #[.int .i64 0] 25)).alloc (.cells #[.slice none 0 0] 24)).alloc (.cells #[.slice A n cap] 22)) (.cells #[.int .i64 (k : Nat)] 3) (g := w.heap.size + 6) (by simp)
  have hB0 : Below w.heap.size w (((((((w.alloc (.cells #[.int .i64 (k : Nat)] 3)).alloc (.cells #[.slice none 0 0] 24)).alloc (.cells #[.int .i64 0] 3)).alloc (.cells #[.int .i64 0] 25)).alloc (.cells #[.slice none 0 0] 24)).alloc (.cells #[.slice A n cap] 22)).alloc (.cells #[.int .i64 (k : Nat)] 3)) :=
    (((((((Below.refl _ w).alloc (Nat.le_refl _) _).alloc (by simp) _).alloc (by simp; omega) _).alloc (by simp; omega) _).alloc (by simp; omega) _).alloc (by simp; omega) _).alloc (by simp; omega) _
  have hsz : (((((((w.alloc (.cells #[.int .i64 (k : Nat)] 3)).alloc (.cells #[.slice none 0 0] 24)).alloc (.cells #[.int .i64 0] 3)).alloc (.cells #[.int .i64 0] 25)).alloc (.cells #[.slice none 0 0] 24)).alloc (.cells #[.slice A n cap] 22)).alloc (.cells #[.int .i64 (k : Nat)] 3)).heap.size = w.heap.size + 7 := by simp
  generalize hS : w.heap.size = S at *
  generalize hW0 : (((((((w.alloc (.cells #[.int .i64 (k : Nat)] 3)).alloc (.cells #[.slice none 0 0] 24)).alloc (.cells #[.int .i64 0] 3)).alloc (.cells #[.int .i64 0] 25)).alloc (.cells #[.slice none 0 0] 24)).alloc (.cells #[.slice A n cap] 22)).alloc (.cells #[.int .i64 (k : Nat)] 3)) = W0 at *
  have HI0 : PgI k S w [] W0 := ⟨⟨_, b4, OwnC.start _ _ _ _ _⟩, b0, hB0, by omega, (fun y hy => by cases hy), b1, b2, b3⟩
  have HSEQ : SeqBoxS Fence.wide (5 - 1) Tryz.prog 30 #[.pointer (some ⟨S + 1 + 1 + 1 + 1 + 1, 0, none⟩), .pointer (some ⟨S + 1 + 1 + 1 + 1 + 1 + 1, 0, none⟩)] encE (S + 6) (KpE S (S + 5) (S + 6)) (fun ys => ys = evsM l k) (fun p => p <+: evsM l k) (fun ys => ys <+: evsM l k) W0 := fun lr J Jx W hW hJ _ hY h0 =>
    (events1_in 4 (by omega) lr (S + 5) (S + 6) A n cap l k J Jx w W hJ (by rw [hS]; exact hY) ((hW.block _ (by omega)).trans b5) ((hW.block _ (by omega)).trans b6) (by omega) (by omega) (by rw [hS]; exact HB.out.1) HB.out.2 (by rw [hS]; exact hB0.trans (hW.mono (by omega))) hm hk h0).mono fun e W' ⟨hv, hj⟩ => ⟨hv, hj.elim (fun hj => .inl ⟨_, rfl, hj⟩) fun ⟨p, hp, hj⟩ => .inr ⟨p, hp, hj⟩⟩
  have hlen : (evsM l k).length ≤ n := by have := evsM_len l k (by rw [HL.out]; exact hk); rwa [HL.out] at this
  have HLEN := Lib.hid hlen
  clear b0 b1 b2 b3 b4 hlen
  refine wpIn_rangeFunc_boxS rfl (by omega) (gf := 30) (lb := #[.pointer (some ⟨S + 1 + 1 + 1 + 1 + 1, 0, none⟩), .pointer (some ⟨S + 1 + 1 + 1 + 1 + 1 + 1, 0, none⟩)]) rfl trivial (enters_of Tryz.func30 (by kernel_rfl) rfl) HSEQ (by rw [hsz]; omega) KpE.trans
    (fun W lo o o' hl ho hc _ => ⟨(Below.refl S W).grown (grownBy_putObj' W lo o') (by have := lt_of ho; omega) (fun k e => by cases e; omega), World.putObj_heap_other (by omega), World.putObj_heap_other (by omega)⟩) (Below.refl _ _) (fun _ => rfl)
    (PgI k S w) (fun c pre W => PgX S w c pre W) (fun pre W W' row h hg hr => PgI.grown h hS.symm hg fun r e => .inr ⟨by have := (hr r e).1; omega, (hr r e).2⟩) (fun pre W W' row h hg hr => PgI.grown h hS.symm hg fun r e => .inl (hr r e))
    (fun c pre W W' row h hg hr => PgX.grown h hS.symm hg fun r e => .inr ⟨by have := (hr r e).1; omega, (hr r e).2⟩) (fun c pre W W' row h hg hr => PgX.grown h hS.symm hg fun r e => .inl (hr r e)) HI0
    (fun x a' W => ∃ g, S + 7 ≤ g ∧ a' = { tmps := #[.slice A n cap, .int .i64 (k : Nat), undef, .pointer (some ⟨S, 0, none⟩), .pointer (some ⟨S + 1, 0, none⟩), .pointer (some ⟨S + 1 + 1, 0, none⟩), .pointer (some ⟨S + 1 + 1 + 1, 0, none⟩), .pointer (some ⟨S + 1 + 1 + 1 + 1, 0, none⟩), .pointer (some ⟨g, 0, none⟩), .int .i64 (k : Nat),
          .bool (decide ((k : Int) < 0)), .bool (decide ((k : Int) < 0)), .int .i64 (k : Nat), .slice A n cap, .int .i64 (n : Nat), .bool false, .bool (decide ((k : Int) < 0)), .slice A n cap, .int .i64 (k : Nat),
          .func (.func 30) #[] #[.pointer (some ⟨S + 1 + 1 + 1 + 1 + 1, 0, none⟩), .pointer (some ⟨S + 1 + 1 + 1 + 1 + 1 + 1, 0, none⟩)],
          .agg #[.int .i64 (x.1.kind : Nat), .string ⟨#[]⟩, .string ⟨x.1.name.toArray⟩, .slice none 0 0, .string ⟨x.1.text.toArray⟩, .int .i64 (x.2.1 : Nat), .int .i64 (x.2.2 : Nat)], undef, undef, undef, undef, undef, undef, undef, undef, undef, undef, undef, undef, undef, undef, undef, undef], defers := [] } ∧
        W.heap[g]? = some (.cells #[.int .i64 (x.1.kind : Nat), .string ⟨#[]⟩, .string ⟨x.1.name.toArray⟩, .slice none 0 0, .string ⟨x.1.text.toArray⟩, .int .i64 (x.2.1 : Nat), .int .i64 (x.2.2 : Nat)] 61 (0, 0)))
    ?hAx ?assign ?body ?done ?stop
  case hAx =>
    rintro x a' _ W W' row ⟨g, h1, h2, h3⟩ hg hr
    refine ⟨g, h1, h2, (hg.block g (lt_of h3) fun e => ?_).trans h3⟩
    obtain ⟨_, o, h4, h5⟩ := hr g e.symm
    rw [h3] at h4
    cases h4
    simp [Obj.isCells] at h5
  case assign =>
    rintro lr pre x W hI hgd
    have hBs := hI.2.2.2.1
    have hI2 : Hid (PgI k S w pre (W.alloc (.cells #[.int .i64 (x.1.kind : Nat), .string ⟨#[]⟩, .string ⟨x.1.name.toArray⟩, .slice none 0 0, .string ⟨x.1.text.toArray⟩, .int .i64 (x.2.1 : Nat), .int .i64 (x.2.2 : Nat)] 61))) := Lib.hid (PgI.grown hI hS.symm (World.grownBy_alloc W _ none) (fun r e => by cases e))
    unfold encE
    gi_wp2
    exact ⟨(KeepsOthers.alloc W _).from _, ⟨(Below.refl _ W).alloc (by omega) _, Below.heap_alloc W _ _ (by omega), Below.heap_alloc W _ _ (by omega)⟩, hI2.out, W.heap.size, by omega, rfl, World.alloc_heap_new W _⟩
  case body =>
    rintro lr pre ⟨⟨kd, nm, tx⟩, nx, f⟩ a' W hI ⟨g, hg, rfl, hcell⟩ hgd
    dsimp only at hcell ⊢
    have hplen : pre.length ≤ 50000 := by
      have h1 := hgd.length_le
      have h2 := HLEN.out
      rw [List.length_append] at h1
      omega
    have HGD := Lib.hid hgd
    obtain ⟨⟨v, h1, h2⟩, h3, h4, h5, h6, h7, h8, h9⟩ := hI
    have c6 := cell_of 6 hcell
    have g6 := cell_of (w := W.drew) 6 hcell
    clear hgd
    by_cases hf : f = 0
    · subst hf
      obtain ⟨A0, c0, hv0⟩ := h2.form
      subst hv0
      obtain ⟨evs, hevs⟩ : ∃ p, evC pre = p := ⟨_, rfl⟩
      have hevs2 : evC (pre ++ [(⟨kd, nm, tx⟩, nx, 0)]) = evs ++ [⟨kd, nm, tx⟩] := by rw [← hevs]; simp [evC]
      have hnl : evs.length ≤ 50000 := by rw [← hevs]; simpa [evC] using hplen
      rw [hevs] at h1 h2
      obtain ⟨m0, hm0⟩ : ∃ p, evs.length = p := ⟨_, rfl⟩
      rw [hm0] at h1 h2 hnl
      have s5 : (W.drew.alloc (.cells #[.int .i64 (kd : Nat), .string ⟨#[]⟩, .string ⟨nm.toArray⟩, .slice none 0 0, .string ⟨tx.toArray⟩] 54)).heap.size = W.heap.size + 1 := World.size_alloc _ _
      obtain ⟨i0, hi, hz0, hz1, hz2⟩ := infoC_ev
      have hownA : (W.drew.alloc (.cells #[.int .i64 (kd : Nat), .string ⟨#[]⟩, .string ⟨nm.toArray⟩, .slice none 0 0, .string ⟨tx.toArray⟩] 54)).ownsRow (S + 7) 54 5 (.slice A0 m0 c0) m0 (evs.flatMap cMis) := by
        have h9 : OwnC cMis 5 54 (W.drew.alloc (.cells #[.int .i64 (kd : Nat), .string ⟨#[]⟩, .string ⟨nm.toArray⟩, .slice none 0 0, .string ⟨tx.toArray⟩] 54)) (S + 7) (.slice A0 m0 c0) evs := h2.kept ((Below.refl W.heap.size W).drew.alloc (Nat.le_refl _) _)
        unfold OwnC at h9
        rw [hm0] at h9
        exact h9
      have hcA : ∀ (j : Nat) u, (cMis ⟨kd, nm, tx⟩)[j]? = some u → (W.drew.alloc (.cells #[.int .i64 (kd : Nat), .string ⟨#[]⟩, .string ⟨nm.toArray⟩, .slice none 0 0, .string ⟨tx.toArray⟩] 54)).cell? ((⟨W.heap.size, 0, none⟩ : Addr).add j) = some u := fun j u hu => cell_newN W.drew (cMis ⟨kd, nm, tx⟩) 54 j u hu
      obtain ⟨v6, w6, hr6, hown6, hg6, _, _⟩ := run_append_own_at (P := Tryz.prog) _ (S + 7) 24 24 54 i0 (.agg #[.int .i64 0, .string ⟨#[]⟩, .string ⟨#[]⟩, .slice none 0 0, .string ⟨#[]⟩]) 5 80 Tryz.underlying24 hi hz0 hz1 hz2 rfl (by decide) _ m0 _ hownA ⟨W.heap.size, 0, none⟩ 1 1 (cMis ⟨kd, nm, tx⟩) rfl hcA (by simp [cMis, Value.oneCell']) (by unfold maxLen; omega) (by omega) (by rw [s5]; omega)
      have hne : ∀ q, q < S + 7 → some q ≠ (Value.slice A0 m0 c0).ownBlock := fun q hq e => by have := (h2.ge e.symm).2; omega
      have hty : ∀ (q : Nat) (o : Obj), W.heap[q]? = some o → (∀ vs f, o ≠ .cells vs 54 f) → some q ≠ (Value.slice A0 m0 c0).ownBlock := fun q o hq ho => ownsRow_type h2 hq ho
      have O6 : OwnC cMis 5 54 w6 (S + 7) v6 (evs ++ [⟨kd, nm, tx⟩]) := OwnC.snoc (by rw [hm0]; exact hown6)
      have hk6 : ∀ (q : Nat) (o : Obj), W.heap[q]? = some o → some q ≠ (Value.slice A0 m0 c0).ownBlock → w6.heap[q]? = some o := fun q o hq hne' => (hg6.block q (by rw [s5]; have := lt_of hq; omega) hne').trans (hp_old (w := W.drew) hq)
      have hgev : some g ≠ (Value.slice A0 m0 c0).ownBlock := hty g _ hcell (fun vs f e => by injection e with _ e _; revert e; decide)
      obtain ⟨A6, c6', hv6⟩ := O6.form
      obtain ⟨n6, hn6⟩ : ∃ p, (evs ++ [(⟨kd, nm, tx⟩ : MisT)]).length = p := ⟨_, rfl⟩
      rw [hn6] at hv6
      subst hv6
      obtain ⟨W1, hW1⟩ : ∃ W1, W.drew.alloc (.cells #[.int .i64 (kd : Nat), .string ⟨#[]⟩, .string ⟨nm.toArray⟩, .slice none 0 0, .string ⟨tx.toArray⟩] 54) = W1 := ⟨_, rfl⟩
      have hold : ∀ {q : Nat} {o : Obj}, W.heap[q]? = some o → W1.heap[q]? = some o := fun hq => by rw [← hW1]; exact hp_old (w := W.drew) hq
      rw [hW1] at hr6 hg6
      -- the cells, in each world
      have q0 := cell_of (w := W.drew) 0 hcell
      have q1 := cell_of (w := W.drew) 1 hcell
      have q2 := cell_of (w := W.drew) 2 hcell
      have q3 := cell_of (w := W.drew) 3 hcell
      have q4 := cell_of (w := W.drew) 4 hcell
      have q5 := cell_of (w := W.drew) 5 hcell
      have r5 := cell_of (w := W1) 5 (hold hcell)
      have t5 := cell_of (w := w6) 5 (hk6 _ _ hcell hgev)
      have l0 : W.drew.cell? ⟨S + 1 + 1 + 1 + 1, 0, none⟩ = some (.slice A0 m0 c0) := cell_of (w := W.drew) 0 h1
      have l1 : W1.cell? ⟨S + 1 + 1 + 1 + 1, 0, none⟩ = some (.slice A0 m0 c0) := cell_of (w := W1) 0 (hold h1)
      have b6 := hk6 _ _ h1 (hne _ (by omega))
      have e6 := hk6 _ _ h3 (hne _ (by omega))
      have l6 : w6.cell? ⟨S + 1 + 1 + 1 + 1, 0, none⟩ = some (.slice A0 m0 c0) := cell_of 0 b6
      have l7 : w6.frozen? ⟨S + 1 + 1 + 1 + 1, 0, none⟩ = false := free_of 0 b6
      have hx6 : (w6.setCell ⟨S + 1 + 1 + 1 + 1, 0, none⟩ (.slice A6 n6 c6')).heap[S]? = some (.cells #[.int .i64 (lastN k pre : Nat)] 3) := (hp_other (by omega)).trans e6
      have m6 : (w6.setCell ⟨S + 1 + 1 + 1 + 1, 0, none⟩ (.slice A6 n6 c6')).cell? ⟨S, 0, none⟩ = some (.int .i64 (lastN k pre : Nat)) := cell_of 0 hx6
      have m7 : (w6.setCell ⟨S + 1 + 1 + 1 + 1, 0, none⟩ (.slice A6 n6 c6')).frozen? ⟨S, 0, none⟩ = false := free_of 0 hx6
      have m5 : (w6.setCell ⟨S + 1 + 1 + 1 + 1, 0, none⟩ (.slice A6 n6 c6')).cell? ⟨g, 5, none⟩ = some (.int .i64 (nx : Nat)) := cell_of 5 (show (w6.setCell ⟨S + 1 + 1 + 1 + 1, 0, none⟩ (.slice A6 n6 c6')).heap[g]? = _ from (hp_other (by omega)).trans (hk6 _ _ hcell hgev))
      have hX : ∀ (q : Nat) (o : Obj), W.heap[q]? = some o → q ≠ S → q ≠ S + 4 → some q ≠ (Value.slice A0 m0 c0).ownBlock → ((w6.setCell ⟨S + 1 + 1 + 1 + 1, 0, none⟩ (.slice A6 n6 c6')).setCell ⟨S, 0, none⟩ (.int .i64 (nx : Nat))).heap[q]? = some o := fun q o hq h0 h1 h2 => by
        rw [hp_other h0, hp_other h1]
        exact hk6 q o hq h2
      have hBX : Below S W ((w6.setCell ⟨S + 1 + 1 + 1 + 1, 0, none⟩ (.slice A6 n6 c6')).setCell ⟨S, 0, none⟩ (.int .i64 (nx : Nat))) := ((((Below.refl S W).drew.alloc (by show S ≤ W.heap.size; omega) _).grown (by rw [hW1]; exact hg6) (by rw [s5]; omega) (fun q hq => by have := (h2.ge hq).2; omega)).setCell (p := ⟨S + 1 + 1 + 1 + 1, 0, none⟩) (by show S ≤ S + 1 + 1 + 1 + 1; omega) _).setCell (p := ⟨S, 0, none⟩) (Nat.le_refl _) _
      have hstep := pg_step hBX h5 (fun q o hq he => hX q o hq (by omega) (by omega) (hne q (by omega))) (fun q o hS7 hq hT => hX q o hq (by omega) (by omega) (hty q o hq hT))
      have hI9 : PgI k S w (pre ++ [(⟨kd, nm, tx⟩, nx, 0)]) ((w6.setCell ⟨S + 1 + 1 + 1 + 1, 0, none⟩ (.slice A6 n6 c6')).setCell ⟨S, 0, none⟩ (.int .i64 (nx : Nat))) := by
        refine ⟨⟨_, (hp_other (by omega)).trans (hp_set b6), ?_⟩, ?_, h4.trans hBX, by have := hBX.size; omega, ?_, hX _ _ h7 (by omega) (by omega) (hne _ (by omega)), hX _ _ h8 (by omega) (by omega) (hne _ (by omega)), hX _ _ h9 (by omega) (by omega) (hne _ (by omega))⟩
        · rw [hevs2]
          exact O6.keep fun q hq1 hq2 => by rw [hp_other (by omega), hp_other (by omega)]
        · rw [lastN_snoc]
          exact hp_set hx6
        · intro y hy
          rcases List.mem_append.1 hy with hy | hy
          · exact h6 y hy
          · rw [List.mem_singleton] at hy
            subst hy
            rfl
      have HEND := Lib.hid (And.intro (And.intro (show KeepsFrom W0.heap.size W _ by rw [hsz]; exact hstep.1) hstep.2) hI9)
      clear hX hBX hstep hI9 hk6 hown6 hg6 hownA hcA hne hty O6 hold s5 h1 h2 h3 h4 h5 h6 h7 h8 h9 hcell b6 e6 hx6 hn6 hevs hevs2 hm0
      gi_wp2_with fail
      refine wpIn_region_lets (Lets.round _ _) (by kernel_rfl) (by rfl) (by rintro ⟨a9, w9, h9⟩; exact h9) ?_
      refine wpAny_take (i := 1) (v := ?_) rfl (by kernel_rfl) (by kernel_rfl) (by kernel_rfl) (fun _ _ _ h => h) (Or.inl ⟨by rfl, fun w9 => by go_simp; try with_reducible rfl⟩) ?_
      (try simp only [Act.put, List.setIfInBounds_toArray, List.set_cons_zero, List.set_cons_succ])
      refine wpAny_take (i := 5) (v := ?_) rfl (by kernel_rfl) (by kernel_rfl) (by kernel_rfl) (fun _ _ _ h => h) (Or.inl ⟨by rfl, fun w9 => by go_simp; try with_reducible rfl⟩) ?_
      (try simp only [Act.put, List.setIfInBounds_toArray, List.set_cons_zero, List.set_cons_succ])
      refine wpAny_ready (rs := [0, 2, 6]) (by kernel_rfl) (by simp) ?_
      refine AllReady.cons rfl (fun K hK => ?_) ?_
      · go_simp
        refine hK _ _ ?_
        clear hK K
        refine wpAny_ready (rs := [2, 6]) (by kernel_rfl) (by simp) ?_
        refine AllReady.cons rfl (fun K hK => ?_) ?_
        · go_simp
          refine hK _ _ ?_
          clear hK K
          refine wpAny_ready (rs := [3, 6]) (by kernel_rfl) (by simp) ?_
          refine AllReady.cons rfl (fun K hK => ?_) ?_
          · go_simp
            refine hK _ _ ?_
            clear hK K
            refine wpAny_ready (rs := [4, 6]) (by kernel_rfl) (by simp) ?_
            refine AllReady.cons rfl (fun K hK => ?_) ?_
            · refine stepRun_append rfl (.tmp 26) (.tmp 29) 24 rfl _ _ _ rfl rfl hr6 ?_
              refine hK _ _ ?_
              clear hK K
              refine wpAny_ready (rs := [6, 7]) (by kernel_rfl) (by simp) ?_
              refine AllReady.cons rfl (fun K hK => ?_) ?_
              · go_simp
                refine hK _ _ ?_
                clear hK K
                refine wpAny_ready (rs := [7]) (by kernel_rfl) (by simp) ?_
                refine AllReady.cons rfl (fun K hK => ?_) ?_
                · go_simp
                  refine hK _ _ ?_
                  clear hK K
                  refine wpAny_ready (rs := [8]) (by kernel_rfl) (by simp) ?_
                  refine AllReady.cons rfl (fun K hK => ?_) ?_
                  · go_simp
                    refine hK _ _ ?_
                    clear hK K
                    refine wpAny_done (by kernel_rfl) ?_ _
                    exact ⟨HEND.out.1.1, HEND.out.1.2, HEND.out.2⟩
                  exact AllReady.nil
                exact AllReady.nil
              refine AllReady.cons rfl (fun K hK => ?_) ?_
              · go_simp
                refine hK _ _ ?_
                clear hK K
                refine wpAny_ready (rs := [6]) (by kernel_rfl) (by simp) ?_
                refine AllReady.cons rfl (fun K hK => ?_) ?_
                · go_simp
                  refine hK _ _ ?_
                  clear hK K
                  refine wpAny_ready (rs := [8]) (by kernel_rfl) (by simp) ?_
                  refine AllReady.cons rfl (fun K hK => ?_) ?_
                  · go_simp
                    refine hK _ _ ?_
                    clear hK K
                    refine wpAny_done (by kernel_rfl) ?_ _
                    exact ⟨HEND.out.1.1, HEND.out.1.2, HEND.out.2⟩
                  exact AllReady.nil
                exact AllReady.nil
              exact AllReady.nil
            refine AllReady.cons rfl (fun K hK => ?_) ?_
            · go_simp
              refine hK _ _ ?_
              clear hK K
              refine wpAny_ready (rs := [4]) (by kernel_rfl) (by simp) ?_
              refine AllReady.cons rfl (fun K hK => ?_) ?_
              · refine stepRun_append rfl (.tmp 26) (.tmp 29) 24 rfl _ _ _ rfl rfl hr6 ?_
                refine hK _ _ ?_
                clear hK K
                refine wpAny_ready (rs := [7]) (by kernel_rfl) (by simp) ?_
                refine AllReady.cons rfl (fun K hK => ?_) ?_
                · go_simp
                  refine hK _ _ ?_
                  clear hK K
                  refine wpAny_ready (rs := [8]) (by kernel_rfl) (by simp) ?_
                  refine AllReady.cons rfl (fun K hK => ?_) ?_
                  · go_simp
                    refine hK _ _ ?_
                    clear hK K
                    refine wpAny_done (by kernel_rfl) ?_ _
                    exact ⟨HEND.out.1.1, HEND.out.1.2, HEND.out.2⟩
                  exact AllReady.nil
                exact AllReady.nil
              exact AllReady.nil
            exact AllReady.nil
          refine AllReady.cons rfl (fun K hK => ?_) ?_
          · go_simp
            refine hK _ _ ?_
            clear hK K
            refine wpAny_ready (rs := [3]) (by kernel_rfl) (by simp) ?_
            refine AllReady.cons rfl (fun K hK => ?_) ?_
            · go_simp
              refine hK _ _ ?_
              clear hK K
              refine wpAny_ready (rs := [4]) (by kernel_rfl) (by simp) ?_
              refine AllReady.cons rfl (fun K hK => ?_) ?_
              · refine stepRun_append rfl (.tmp 26) (.tmp 29) 24 rfl _ _ _ rfl rfl hr6 ?_
                refine hK _ _ ?_
                clear hK K
                refine wpAny_ready (rs := [7]) (by kernel_rfl) (by simp) ?_
                refine AllReady.cons rfl (fun K hK => ?_) ?_
                · go_simp
                  refine hK _ _ ?_
                  clear hK K
                  refine wpAny_ready (rs := [8]) (by kernel_rfl) (by simp) ?_
                  refine AllReady.cons rfl (fun K hK => ?_) ?_
                  · go_simp
                    refine hK _ _ ?_
                    clear hK K
                    refine wpAny_done (by kernel_rfl) ?_ _
                    exact ⟨HEND.out.1.1, HEND.out.1.2, HEND.out.2⟩
                  exact AllReady.nil
                exact AllReady.nil
              exact AllReady.nil
            exact AllReady.nil
          exact AllReady.nil
        refine AllReady.cons rfl (fun K hK => ?_) ?_
        · go_simp
          refine hK _ _ ?_
          clear hK K
          refine wpAny_ready (rs := [2]) (by kernel_rfl) (by simp) ?_
          refine AllReady.cons rfl (fun K hK => ?_) ?_
          · go_simp
            refine hK _ _ ?_
            clear hK K
            refine wpAny_ready (rs := [3]) (by kernel_rfl) (by simp) ?_
            refine AllReady.cons rfl (fun K hK => ?_) ?_
            · go_simp
              refine hK _ _ ?_
              clear hK K
              refine wpAny_ready (rs := [4]) (by kernel_rfl) (by simp) ?_
              refine AllReady.cons rfl (fun K hK => ?_) ?_
              · refine stepRun_append rfl (.tmp 26) (.tmp 29) 24 rfl _ _ _ rfl rfl hr6 ?_
                refine hK _ _ ?_
                clear hK K
                refine wpAny_ready (rs := [7]) (by kernel_rfl) (by simp) ?_
                refine AllReady.cons rfl (fun K hK => ?_) ?_
                · go_simp
                  refine hK _ _ ?_
                  clear hK K
                  refine wpAny_ready (rs := [8]) (by kernel_rfl) (by simp) ?_
                  refine AllReady.cons rfl (fun K hK => ?_) ?_
                  · go_simp
                    refine hK _ _ ?_
                    clear hK K
                    refine wpAny_done (by kernel_rfl) ?_ _
                    exact ⟨HEND.out.1.1, HEND.out.1.2, HEND.out.2⟩
                  exact AllReady.nil
                exact AllReady.nil
              exact AllReady.nil
            exact AllReady.nil
          exact AllReady.nil
        exact AllReady.nil
      refine AllReady.cons rfl (fun K hK => ?_) ?_
      · go_simp
        refine hK _ _ ?_
        clear hK K
        refine wpAny_ready (rs := [0, 3, 6]) (by kernel_rfl) (by simp) ?_
        refine AllReady.cons rfl (fun K hK => ?_) ?_
        · go_simp
          refine hK _ _ ?_
          clear hK K
          refine wpAny_ready (rs := [3, 6]) (by kernel_rfl) (by simp) ?_
          refine AllReady.cons rfl (fun K hK => ?_) ?_
          · go_simp
            refine hK _ _ ?_
            clear hK K
            refine wpAny_ready (rs := [4, 6]) (by kernel_rfl) (by simp) ?_
            refine AllReady.cons rfl (fun K hK => ?_) ?_
            · refine stepRun_append rfl (.tmp 26) (.tmp 29) 24 rfl _ _ _ rfl rfl hr6 ?_
              refine hK _ _ ?_
              clear hK K
              refine wpAny_ready (rs := [6, 7]) (by kernel_rfl) (by simp) ?_
              refine AllReady.cons rfl (fun K hK => ?_) ?_
              · go_simp
                refine hK _ _ ?_
                clear hK K
                refine wpAny_ready (rs := [7]) (by kernel_rfl) (by simp) ?_
                refine AllReady.cons rfl (fun K hK => ?_) ?_
                · go_simp
                  refine hK _ _ ?_
                  clear hK K
                  refine wpAny_ready (rs := [8]) (by kernel_rfl) (by simp) ?_
                  refine AllReady.cons rfl (fun K hK => ?_) ?_
                  · go_simp
                    refine hK _ _ ?_
                    clear hK K
                    refine wpAny_done (by kernel_rfl) ?_ _
                    exact ⟨HEND.out.1.1, HEND.out.1.2, HEND.out.2⟩
                  exact AllReady.nil
                exact AllReady.nil
              refine AllReady.cons rfl (fun K hK => ?_) ?_
              · go_simp
                refine hK _ _ ?_
                clear hK K
                refine wpAny_ready (rs := [6]) (by kernel_rfl) (by simp) ?_
                refine AllReady.cons rfl (fun K hK => ?_) ?_
                · go_simp
                  refine hK _ _ ?_
                  clear hK K
                  refine wpAny_ready (rs := [8]) (by kernel_rfl) (by simp) ?_
                  refine AllReady.cons rfl (fun K hK => ?_) ?_
                  · go_simp
                    refine hK _ _ ?_
                    clear hK K
                    refine wpAny_done (by kernel_rfl) ?_ _
                    exact ⟨HEND.out.1.1, HEND.out.1.2, HEND.out.2⟩
                  exact AllReady.nil
                exact AllReady.nil
              exact AllReady.nil
            refine AllReady.cons rfl (fun K hK => ?_) ?_
            · go_simp
              refine hK _ _ ?_
              clear hK K
              refine wpAny_ready (rs := [4]) (by kernel_rfl) (by simp) ?_
              refine AllReady.cons rfl (fun K hK => ?_) ?_
              · refine stepRun_append rfl (.tmp 26) (.tmp 29) 24 rfl _ _ _ rfl rfl hr6 ?_
                refine hK _ _ ?_
                clear hK K
                refine wpAny_ready (rs := [7]) (by kernel_rfl) (by simp) ?_
                refine AllReady.cons rfl (fun K hK => ?_) ?_
                · go_simp
                  refine hK _ _ ?_
                  clear hK K
                  refine wpAny_ready (rs := [8]) (by kernel_rfl) (by simp) ?_
                  refine AllReady.cons rfl (fun K hK => ?_) ?_
                  · go_simp
                    refine hK _ _ ?_
                    clear hK K
                    refine wpAny_done (by kernel_rfl) ?_ _
                    exact ⟨HEND.out.1.1, HEND.out.1.2, HEND.out.2⟩
                  exact AllReady.nil
                exact AllReady.nil
              exact AllReady.nil
            exact AllReady.nil
          refine AllReady.cons rfl (fun K hK => ?_) ?_
          · go_simp
            refine hK _ _ ?_
            clear hK K
            refine wpAny_ready (rs := [3]) (by kernel_rfl) (by simp) ?_
            refine AllReady.cons rfl (fun K hK => ?_) ?_
            · go_simp
              refine hK _ _ ?_
              clear hK K
              refine wpAny_ready (rs := [4]) (by kernel_rfl) (by simp) ?_
              refine AllReady.cons rfl (fun K hK => ?_) ?_
              · refine stepRun_append rfl (.tmp 26) (.tmp 29) 24 rfl _ _ _ rfl rfl hr6 ?_
                refine hK _ _ ?_
                clear hK K
                refine wpAny_ready (rs := [7]) (by kernel_rfl) (by simp) ?_
                refine AllReady.cons rfl (fun K hK => ?_) ?_
                · go_simp
                  refine hK _ _ ?_
                  clear hK K
                  refine wpAny_ready (rs := [8]) (by kernel_rfl) (by simp) ?_
                  refine AllReady.cons rfl (fun K hK => ?_) ?_
                  · go_simp
                    refine hK _ _ ?_
                    clear hK K
                    refine wpAny_done (by kernel_rfl) ?_ _
                    exact ⟨HEND.out.1.1, HEND.out.1.2, HEND.out.2⟩
                  exact AllReady.nil
                exact AllReady.nil
              exact AllReady.nil
            exact AllReady.nil
          exact AllReady.nil
        refine AllReady.cons rfl (fun K hK => ?_) ?_
        · go_simp
          refine hK _ _ ?_
          clear hK K
          refine wpAny_ready (rs := [0, 6]) (by kernel_rfl) (by simp) ?_
          refine AllReady.cons rfl (fun K hK => ?_) ?_
          · go_simp
            refine hK _ _ ?_
            clear hK K
            refine wpAny_ready (rs := [4, 6]) (by kernel_rfl) (by simp) ?_
            refine AllReady.cons rfl (fun K hK => ?_) ?_
            · refine stepRun_append rfl (.tmp 26) (.tmp 29) 24 rfl _ _ _ rfl rfl hr6 ?_
              refine hK _ _ ?_
              clear hK K
              refine wpAny_ready (rs := [6, 7]) (by kernel_rfl) (by simp) ?_
              refine AllReady.cons rfl (fun K hK => ?_) ?_
              · go_simp
                refine hK _ _ ?_
                clear hK K
                refine wpAny_ready (rs := [7]) (by kernel_rfl) (by simp) ?_
                refine AllReady.cons rfl (fun K hK => ?_) ?_
                · go_simp
                  refine hK _ _ ?_
                  clear hK K
                  refine wpAny_ready (rs := [8]) (by kernel_rfl) (by simp) ?_
                  refine AllReady.cons rfl (fun K hK => ?_) ?_
                  · go_simp
                    refine hK _ _ ?_
                    clear hK K
                    refine wpAny_done (by kernel_rfl) ?_ _
                    exact ⟨HEND.out.1.1, HEND.out.1.2, HEND.out.2⟩
                  exact AllReady.nil
                exact AllReady.nil
              refine AllReady.cons rfl (fun K hK => ?_) ?_
              · go_simp
                refine hK _ _ ?_
                clear hK K
                refine wpAny_ready (rs := [6]) (by kernel_rfl) (by simp) ?_
                refine AllReady.cons rfl (fun K hK => ?_) ?_
                · go_simp
                  refine hK _ _ ?_
                  clear hK K
                  refine wpAny_ready (rs := [8]) (by kernel_rfl) (by simp) ?_
                  refine AllReady.cons rfl (fun K hK => ?_) ?_
                  · go_simp
                    refine hK _ _ ?_
                    clear hK K
                    refine wpAny_done (by kernel_rfl) ?_ _
                    exact ⟨HEND.out.1.1, HEND.out.1.2, HEND.out.2⟩
                  exact AllReady.nil
                exact AllReady.nil
              exact AllReady.nil
            refine AllReady.cons rfl (fun K hK => ?_) ?_
            · go_simp
              refine hK _ _ ?_
              clear hK K
              refine wpAny_ready (rs := [4]) (by kernel_rfl) (by simp) ?_
              refine AllReady.cons rfl (fun K hK => ?_) ?_
              · refine stepRun_append rfl (.tmp 26) (.tmp 29) 24 rfl _ _ _ rfl rfl hr6 ?_
                refine hK _ _ ?_
                clear hK K
                refine wpAny_ready (rs := [7]) (by kernel_rfl) (by simp) ?_
                refine AllReady.cons rfl (fun K hK => ?_) ?_
                · go_simp
                  refine hK _ _ ?_
                  clear hK K
                  refine wpAny_ready (rs := [8]) (by kernel_rfl) (by simp) ?_
                  refine AllReady.cons rfl (fun K hK => ?_) ?_
                  · go_simp
                    refine hK _ _ ?_
                    clear hK K
                    refine wpAny_done (by kernel_rfl) ?_ _
                    exact ⟨HEND.out.1.1, HEND.out.1.2, HEND.out.2⟩
                  exact AllReady.nil
                exact AllReady.nil
              exact AllReady.nil
            exact AllReady.nil
          refine AllReady.cons rfl (fun K hK => ?_) ?_
          · go_simp
            refine hK _ _ ?_
            clear hK K
            refine wpAny_ready (rs := [0]) (by kernel_rfl) (by simp) ?_
            refine AllReady.cons rfl (fun K hK => ?_) ?_
            · go_simp
              refine hK _ _ ?_
              clear hK K
              refine wpAny_ready (rs := [4]) (by kernel_rfl) (by simp) ?_
              refine AllReady.cons rfl (fun K hK => ?_) ?_
              · refine stepRun_append rfl (.tmp 26) (.tmp 29) 24 rfl _ _ _ rfl rfl hr6 ?_
                refine hK _ _ ?_
                clear hK K
                refine wpAny_ready (rs := [7]) (by kernel_rfl) (by simp) ?_
                refine AllReady.cons rfl (fun K hK => ?_) ?_
                · go_simp
                  refine hK _ _ ?_
                  clear hK K
                  refine wpAny_ready (rs := [8]) (by kernel_rfl) (by simp) ?_
                  refine AllReady.cons rfl (fun K hK => ?_) ?_
                  · go_simp
                    refine hK _ _ ?_
                    clear hK K
                    refine wpAny_done (by kernel_rfl) ?_ _
                    exact ⟨HEND.out.1.1, HEND.out.1.2, HEND.out.2⟩
                  exact AllReady.nil
                exact AllReady.nil
              exact AllReady.nil
            exact AllReady.nil
          exact AllReady.nil
        refine AllReady.cons rfl (fun K hK => ?_) ?_
        · go_simp
          refine hK _ _ ?_
          clear hK K
          refine wpAny_ready (rs := [0, 3]) (by kernel_rfl) (by simp) ?_
          refine AllReady.cons rfl (fun K hK => ?_) ?_
          · go_simp
            refine hK _ _ ?_
            clear hK K
            refine wpAny_ready (rs := [3]) (by kernel_rfl) (by simp) ?_
            refine AllReady.cons rfl (fun K hK => ?_) ?_
            · go_simp
              refine hK _ _ ?_
              clear hK K
              refine wpAny_ready (rs := [4]) (by kernel_rfl) (by simp) ?_
              refine AllReady.cons rfl (fun K hK => ?_) ?_
              · refine stepRun_append rfl (.tmp 26) (.tmp 29) 24 rfl _ _ _ rfl rfl hr6 ?_
                refine hK _ _ ?_
                clear hK K
                refine wpAny_ready (rs := [7]) (by kernel_rfl) (by simp) ?_
                refine AllReady.cons rfl (fun K hK => ?_) ?_
                · go_simp
                  refine hK _ _ ?_
                  clear hK K
                  refine wpAny_ready (rs := [8]) (by kernel_rfl) (by simp) ?_
                  refine AllReady.cons rfl (fun K hK => ?_) ?_
                  · go_simp
                    refine hK _ _ ?_
                    clear hK K
                    refine wpAny_done (by kernel_rfl) ?_ _
                    exact ⟨HEND.out.1.1, HEND.out.1.2, HEND.out.2⟩
                  exact AllReady.nil
                exact AllReady.nil
              exact AllReady.nil
            exact AllReady.nil
          refine AllReady.cons rfl (fun K hK => ?_) ?_
          · go_simp
            refine hK _ _ ?_
            clear hK K
            refine wpAny_ready (rs := [0]) (by kernel_rfl) (by simp) ?_
            refine AllReady.cons rfl (fun K hK => ?_) ?_
            · go_simp
              refine hK _ _ ?_
              clear hK K
              refine wpAny_ready (rs := [4]) (by kernel_rfl) (by simp) ?_
              refine AllReady.cons rfl (fun K hK => ?_) ?_
              · refine stepRun_append rfl (.tmp 26) (.tmp 29) 24 rfl _ _ _ rfl rfl hr6 ?_
                refine hK _ _ ?_
                clear hK K
                refine wpAny_ready (rs := [7]) (by kernel_rfl) (by simp) ?_
                refine AllReady.cons rfl (fun K hK => ?_) ?_
                · go_simp
                  refine hK _ _ ?_
                  clear hK K
                  refine wpAny_ready (rs := [8]) (by kernel_rfl) (by simp) ?_
                  refine AllReady.cons rfl (fun K hK => ?_) ?_
                  · go_simp
                    refine hK _ _ ?_
                    clear hK K
                    refine wpAny_done (by kernel_rfl) ?_ _
                    exact ⟨HEND.out.1.1, HEND.out.1.2, HEND.out.2⟩
                  exact AllReady.nil
                exact AllReady.nil
              exact AllReady.nil
            exact AllReady.nil
          exact AllReady.nil
        exact AllReady.nil
      refine AllReady.cons rfl (fun K hK => ?_) ?_
      · go_simp
        refine hK _ _ ?_
        clear hK K
        refine wpAny_ready (rs := [0, 2]) (by kernel_rfl) (by simp) ?_
        refine AllReady.cons rfl (fun K hK => ?_) ?_
        · go_simp
          refine hK _ _ ?_
          clear hK K
          refine wpAny_ready (rs := [2]) (by kernel_rfl) (by simp) ?_
          refine AllReady.cons rfl (fun K hK => ?_) ?_
          · go_simp
            refine hK _ _ ?_
            clear hK K
            refine wpAny_ready (rs := [3]) (by kernel_rfl) (by simp) ?_
            refine AllReady.cons rfl (fun K hK => ?_) ?_
            · go_simp
              refine hK _ _ ?_
              clear hK K
              refine wpAny_ready (rs := [4]) (by kernel_rfl) (by simp) ?_
              refine AllReady.cons rfl (fun K hK => ?_) ?_
              · refine stepRun_append rfl (.tmp 26) (.tmp 29) 24 rfl _ _ _ rfl rfl hr6 ?_
                refine hK _ _ ?_
                clear hK K
                refine wpAny_ready (rs := [7]) (by kernel_rfl) (by simp) ?_
                refine AllReady.cons rfl (fun K hK => ?_) ?_
                · go_simp
                  refine hK _ _ ?_
                  clear hK K
                  refine wpAny_ready (rs := [8]) (by kernel_rfl) (by simp) ?_
                  refine AllReady.cons rfl (fun K hK => ?_) ?_
                  · go_simp
                    refine hK _ _ ?_
                    clear hK K
                    refine wpAny_done (by kernel_rfl) ?_ _
                    exact ⟨HEND.out.1.1, HEND.out.1.2, HEND.out.2⟩
                  exact AllReady.nil
                exact AllReady.nil
              exact AllReady.nil
            exact AllReady.nil
          exact AllReady.nil
        refine AllReady.cons rfl (fun K hK => ?_) ?_
        · go_simp
          refine hK _ _ ?_
          clear hK K
          refine wpAny_ready (rs := [0, 3]) (by kernel_rfl) (by simp) ?_
          refine AllReady.cons rfl (fun K hK => ?_) ?_
          · go_simp
            refine hK _ _ ?_
            clear hK K
            refine wpAny_ready (rs := [3]) (by kernel_rfl) (by simp) ?_
            refine AllReady.cons rfl (fun K hK => ?_) ?_
            · go_simp
              refine hK _ _ ?_
              clear hK K
              refine wpAny_ready (rs := [4]) (by kernel_rfl) (by simp) ?_
              refine AllReady.cons rfl (fun K hK => ?_) ?_
              · refine stepRun_append rfl (.tmp 26) (.tmp 29) 24 rfl _ _ _ rfl rfl hr6 ?_
                refine hK _ _ ?_
                clear hK K
                refine wpAny_ready (rs := [7]) (by kernel_rfl) (by simp) ?_
                refine AllReady.cons rfl (fun K hK => ?_) ?_
                · go_simp
                  refine hK _ _ ?_
                  clear hK K
                  refine wpAny_ready (rs := [8]) (by kernel_rfl) (by simp) ?_
                  refine AllReady.cons rfl (fun K hK => ?_) ?_
                  · go_simp
                    refine hK _ _ ?_
                    clear hK K
                    refine wpAny_done (by kernel_rfl) ?_ _
                    exact ⟨HEND.out.1.1, HEND.out.1.2, HEND.out.2⟩
                  exact AllReady.nil
                exact AllReady.nil
              exact AllReady.nil
            exact AllReady.nil
          refine AllReady.cons rfl (fun K hK => ?_) ?_
          · go_simp
            refine hK _ _ ?_
            clear hK K
            refine wpAny_ready (rs := [0]) (by kernel_rfl) (by simp) ?_
            refine AllReady.cons rfl (fun K hK => ?_) ?_
            · go_simp
              refine hK _ _ ?_
              clear hK K
              refine wpAny_ready (rs := [4]) (by kernel_rfl) (by simp) ?_
              refine AllReady.cons rfl (fun K hK => ?_) ?_
              · refine stepRun_append rfl (.tmp 26) (.tmp 29) 24 rfl _ _ _ rfl rfl hr6 ?_
                refine hK _ _ ?_
                clear hK K
                refine wpAny_ready (rs := [7]) (by kernel_rfl) (by simp) ?_
                refine AllReady.cons rfl (fun K hK => ?_) ?_
                · go_simp
                  refine hK _ _ ?_
                  clear hK K
                  refine wpAny_ready (rs := [8]) (by kernel_rfl) (by simp) ?_
                  refine AllReady.cons rfl (fun K hK => ?_) ?_
                  · go_simp
                    refine hK _ _ ?_
                    clear hK K
                    refine wpAny_done (by kernel_rfl) ?_ _
                    exact ⟨HEND.out.1.1, HEND.out.1.2, HEND.out.2⟩
                  exact AllReady.nil
                exact AllReady.nil
              exact AllReady.nil
            exact AllReady.nil
          exact AllReady.nil
        exact AllReady.nil
      exact AllReady.nil
    · have hfb : ((f : Int) != 0) = true := by simpa using hf
      have HN := Lib.hid hf
      have c1 : W.drew.cell? ⟨S + 1, 0, none⟩ = some (.slice none 0 0) := cell_of (w := W.drew) 0 h7
      have c2 : W.drew.cell? ⟨S + 1 + 1, 0, none⟩ = some (.int .i64 0) := cell_of (w := W.drew) 0 h8
      have c3 : W.drew.cell? ⟨S + 1 + 1 + 1, 0, none⟩ = some (.int .i64 0) := cell_of (w := W.drew) 0 h9
      have f1 : W.drew.frozen? ⟨S + 1, 0, none⟩ = false := free_of (w := W.drew) 0 h7
      have f2 : W.drew.frozen? ⟨S + 1 + 1, 0, none⟩ = false := free_of (w := W.drew) 0 h8
      have f3 : W.drew.frozen? ⟨S + 1 + 1 + 1, 0, none⟩ = false := free_of (w := W.drew) 0 h9
      obtain ⟨X1, hX1⟩ : ∃ X1, W.drew.setCell ⟨S + 1, 0, none⟩ (.slice none 0 0) = X1 := ⟨_, rfl⟩
      obtain ⟨X2, hX2⟩ : ∃ X2, X1.setCell ⟨S + 1 + 1, 0, none⟩ (.int .i64 0) = X2 := ⟨_, rfl⟩
      have k1 : ∀ {q : Nat} {o : Obj}, q ≠ S + 1 → W.heap[q]? = some o → X1.heap[q]? = some o := fun h0 hq => by rw [← hX1]; exact (hp_other (w := W.drew) h0).trans hq
      have k2 : ∀ {q : Nat} {o : Obj}, q ≠ S + 1 → q ≠ S + 2 → W.heap[q]? = some o → X2.heap[q]? = some o := fun h0 h1 hq => by rw [← hX2]; exact (hp_other h1).trans (k1 h0 hq)
      have d2 : X1.cell? ⟨S + 1 + 1, 0, none⟩ = some (.int .i64 0) := cell_of 0 (k1 (by omega) h8)
      have e2 : X1.frozen? ⟨S + 1 + 1, 0, none⟩ = false := free_of 0 (k1 (by omega) h8)
      have d3 : X2.cell? ⟨S + 1 + 1 + 1, 0, none⟩ = some (.int .i64 0) := cell_of 0 (k2 (by omega) (by omega) h9)
      have e3 : X2.frozen? ⟨S + 1 + 1 + 1, 0, none⟩ = false := free_of 0 (k2 (by omega) (by omega) h9)
      have y1 := cell_of 6 (k1 (by omega) hcell)
      have y2 := cell_of 6 (k2 (by omega) (by omega) hcell)
      have hX3 : ∀ {q : Nat} {o : Obj}, q ≠ S + 1 → q ≠ S + 2 → q ≠ S + 3 → W.heap[q]? = some o → (X2.setCell ⟨S + 1 + 1 + 1, 0, none⟩ (.int .i64 (f : Nat))).heap[q]? = some o := fun h0 h1 h2 hq => (hp_other h2).trans (k2 h0 h1 hq)
      have hBX : Below S W (X2.setCell ⟨S + 1 + 1 + 1, 0, none⟩ (.int .i64 (f : Nat))) := by
        rw [← hX2, ← hX1]
        exact (((Below.refl S W).drew.setCell (p := ⟨S + 1, 0, none⟩) (by show S ≤ S + 1; omega) _).setCell (p := ⟨S + 1 + 1, 0, none⟩) (by show S ≤ S + 1 + 1; omega) _).setCell (p := ⟨S + 1 + 1 + 1, 0, none⟩) (by show S ≤ S + 1 + 1 + 1; omega) _
      have hstep := pg_step hBX h5 (fun q o hq he => hX3 (by omega) (by omega) (by omega) hq) (fun q o hS7 hq hT => hX3 (by omega) (by omega) (by omega) hq)
      have hI9 : PgX S w .ret (pre ++ [(⟨kd, nm, tx⟩, nx, f)]) (X2.setCell ⟨S + 1 + 1 + 1, 0, none⟩ (.int .i64 (f : Nat))) := ⟨rfl, ⟨pre, _, rfl, hf, hp_set (k2 (by omega) (by omega) h9)⟩, h4.trans hBX, by have := hBX.size; omega, (hp_other (by omega)).trans (by rw [← hX2]; exact (hp_other (by omega)).trans (by rw [← hX1]; exact hp_set (w := W.drew) h7)), (hp_other (by omega)).trans (by rw [← hX2]; exact hp_set (k1 (by omega) h8))⟩
      have HEND := Lib.hid (And.intro (show KeepsFrom W0.heap.size W _ by rw [hsz]; exact hstep.1) hI9)
      clear hX3 hBX hstep hI9 k1 k2 h1 h2 h3 h4 h5 h6 h7 h8 h9 hcell hf
      gi_wp2_with fail
      refine wpIn_region_lets (Lets.round _ _) (by kernel_rfl) (by rfl) (by rintro ⟨a9, w9, h9⟩; exact h9) ?_
      refine wpAny_take (i := 0) (v := ?_) rfl (by kernel_rfl) (by kernel_rfl) (by kernel_rfl) (fun _ _ _ h => h) (Or.inl ⟨by rfl, fun w9 => by go_simp; try with_reducible rfl⟩) ?_
      (try simp only [Act.put, List.setIfInBounds_toArray, List.set_cons_zero, List.set_cons_succ])
      refine wpAny_ready (rs := [1, 2]) (by kernel_rfl) (by simp) ?_
      refine AllReady.cons rfl (fun K hK => ?_) ?_
      · go_simp
        refine hK _ _ ?_
        clear hK K
        refine wpAny_ready (rs := [2]) (by kernel_rfl) (by simp) ?_
        refine AllReady.cons rfl (fun K hK => ?_) ?_
        · go_simp
          refine hK _ _ ?_
          clear hK K
          refine wpAny_ready (rs := [3]) (by kernel_rfl) (by simp) ?_
          refine AllReady.cons rfl (fun K hK => ?_) ?_
          · go_simp
            refine hK _ _ ?_
            clear hK K
            refine wpAny_ready (rs := [4]) (by kernel_rfl) (by simp) ?_
            refine AllReady.cons rfl (fun K hK => ?_) ?_
            · go_simp
              refine hK _ _ ?_
              clear hK K
              refine wpAny_done (by kernel_rfl) ?_ _
              gi_wp2
              exact HEND.out
            exact AllReady.nil
          exact AllReady.nil
        exact AllReady.nil
      refine AllReady.cons rfl (fun K hK => ?_) ?_
      · go_simp
        refine hK _ _ ?_
        clear hK K
        refine wpAny_ready (rs := [1, 3]) (by kernel_rfl) (by simp) ?_
        refine AllReady.cons rfl (fun K hK => ?_) ?_
        · go_simp
          refine hK _ _ ?_
          clear hK K
          refine wpAny_ready (rs := [3]) (by kernel_rfl) (by simp) ?_
          refine AllReady.cons rfl (fun K hK => ?_) ?_
          · go_simp
            refine hK _ _ ?_
            clear hK K
            refine wpAny_ready (rs := [4]) (by kernel_rfl) (by simp) ?_
            refine AllReady.cons rfl (fun K hK => ?_) ?_
            · go_simp
              refine hK _ _ ?_
              clear hK K
              refine wpAny_done (by kernel_rfl) ?_ _
              gi_wp2
              exact HEND.out
            exact AllReady.nil
          exact AllReady.nil
        refine AllReady.cons rfl (fun K hK => ?_) ?_
        · go_simp
          refine hK _ _ ?_
          clear hK K
          refine wpAny_ready (rs := [1]) (by kernel_rfl) (by simp) ?_
          refine AllReady.cons rfl (fun K hK => ?_) ?_
          · go_simp
            refine hK _ _ ?_
            clear hK K
            refine wpAny_ready (rs := [4]) (by kernel_rfl) (by simp) ?_
            refine AllReady.cons rfl (fun K hK => ?_) ?_
            · go_simp
              refine hK _ _ ?_
              clear hK K
              refine wpAny_done (by kernel_rfl) ?_ _
              gi_wp2
              exact HEND.out
            exact AllReady.nil
          exact AllReady.nil
        exact AllReady.nil
      exact AllReady.nil
  case done =>
    rintro D ys W hD rfl hI hK
    rw [hsz] at hD
    have hall : ∀ y ∈ evsM l k, y.2.2 = 0 := hI.2.2.2.2.1
    have hmo := miscOut_good l k hall
    have hle := lastN_le l k (by rw [HL.out]; exact hk) _ (List.prefix_refl _) hall
    rw [HL.out] at hle
    obtain ⟨⟨v, h1, h2⟩, h3, h4, h5, h6, h7, h8, h9⟩ := hI
    obtain ⟨A0, c0, hv0⟩ := h2.form
    subst hv0
    have hlm : (evC (evsM l k)).length = ((evsM l k).map (fun y => y.1)).length := rfl
    obtain ⟨m0, hm0⟩ : ∃ p, ((evsM l k).map (fun y => y.1)).length = p := ⟨_, rfl⟩
    rw [hlm, hm0] at h1 h2
    obtain ⟨t, ht⟩ : ∃ p, blankTo l (lastN k (evsM l k)) = p := ⟨_, rfl⟩
    rw [ht] at hmo
    obtain ⟨xs, hxs⟩ : ∃ p, (evsM l k).map (fun y => y.1) = p := ⟨_, rfl⟩
    have HMO : Hid (miscOut l k = (xs, t, 0) ∧ xs.length = m0) := Lib.hid ⟨by rw [hmo, hxs], by rw [← hxs]; exact hm0⟩
    have h2 : OwnC cMis 5 54 W (S + 7) (.slice A0 m0 c0) xs := by rw [← hxs]; exact h2
    have CB : Hid (Calls Tryz.prog 13 #[.slice A n cap, .int .i64 (lastN k (evsM l k) : Nat)] W.drew fun e w' => e = .returned (.int .i64 (t : Nat)) ∧ W.drew = w') := Lib.hid (by
      have hb := HB.out.1.below (h4.trans (Below.refl S W).drew)
      have := blanks_c A n cap l (lastN k (evsM l k)) S W.drew hb (by omega) hle
      rwa [ht] at this)
    obtain ⟨q, hq⟩ : ∃ p, lastN k (evsM l k) = p := ⟨_, rfl⟩
    rw [hq] at CB h3
    have p1 : W.drew.cell? ⟨S + 1 + 1 + 1 + 1, 0, none⟩ = some (.slice A0 m0 c0) := cell_of (w := W.drew) 0 h1
    have p2 : W.drew.cell? ⟨S, 0, none⟩ = some (.int .i64 (q : Nat)) := cell_of (w := W.drew) 0 h3
    have c1 : W.drew.cell? ⟨S + 1, 0, none⟩ = some (.slice none 0 0) := cell_of (w := W.drew) 0 h7
    have f1 : W.drew.frozen? ⟨S + 1, 0, none⟩ = false := free_of (w := W.drew) 0 h7
    obtain ⟨X1, hX1⟩ : ∃ X1, W.drew.setCell ⟨S + 1, 0, none⟩ (.slice A0 m0 c0) = X1 := ⟨_, rfl⟩
    obtain ⟨X2, hX2⟩ : ∃ X2, X1.setCell ⟨S + 1 + 1, 0, none⟩ (.int .i64 (t : Nat)) = X2 := ⟨_, rfl⟩
    obtain ⟨X3, hX3⟩ : ∃ X3, X2.setCell ⟨S + 1 + 1 + 1, 0, none⟩ (.int .i64 0) = X3 := ⟨_, rfl⟩
    have k1 : ∀ {q : Nat} {o : Obj}, q ≠ S + 1 → W.heap[q]? = some o → X1.heap[q]? = some o := fun h0 hq => by rw [← hX1]; exact (hp_other (w := W.drew) h0).trans hq
    have k2 : ∀ {q : Nat} {o : Obj}, q ≠ S + 1 → q ≠ S + 2 → W.heap[q]? = some o → X2.heap[q]? = some o := fun h0 h1 hq => by rw [← hX2]; exact (hp_other h1).trans (k1 h0 hq)
    have k3 : ∀ {q : Nat} {o : Obj}, q ≠ S + 1 → q ≠ S + 2 → q ≠ S + 3 → W.heap[q]? = some o → X3.heap[q]? = some o := fun h0 h1 h2 hq => by rw [← hX3]; exact (hp_other h2).trans (k2 h0 h1 hq)
    have d2 : X1.cell? ⟨S + 1 + 1, 0, none⟩ = some (.int .i64 0) := cell_of 0 (k1 (by omega) h8)
    have e2 : X1.frozen? ⟨S + 1 + 1, 0, none⟩ = false := free_of 0 (k1 (by omega) h8)
    have d3 : X2.cell? ⟨S + 1 + 1 + 1, 0, none⟩ = some (.int .i64 0) := cell_of 0 (k2 (by omega) (by omega) h9)
    have e3 : X2.frozen? ⟨S + 1 + 1 + 1, 0, none⟩ = false := free_of 0 (k2 (by omega) (by omega) h9)
    have hBX : Below S W X3 := by
      rw [← hX3, ← hX2, ← hX1]
      exact (((Below.refl S W).drew.setCell (p := ⟨S + 1, 0, none⟩) (by show S ≤ S + 1; omega) _).setCell (p := ⟨S + 1 + 1, 0, none⟩) (by show S ≤ S + 1 + 1; omega) _).setCell (p := ⟨S + 1 + 1 + 1, 0, none⟩) (by show S ≤ S + 1 + 1 + 1; omega) _
    have z1 : X3.heap[S + 1]? = some (.cells #[.slice A0 m0 c0] 24) := by
      rw [← hX3, hp_other (by omega), ← hX2, hp_other (by omega), ← hX1]
      exact hp_set (w := W.drew) h7
    have z2 : X3.heap[S + 1 + 1]? = some (.cells #[.int .i64 (t : Nat)] 3) := by
      rw [← hX3, hp_other (by omega), ← hX2]
      exact hp_set (k1 (by omega) h8)
    have z3 : X3.heap[S + 1 + 1 + 1]? = some (.cells #[.int .i64 0] 25) := by
      rw [← hX3]
      exact hp_set (k2 (by omega) (by omega) h9)
    have hO : OwnC cMis 5 54 X3 (S + 7) (.slice A0 m0 c0) xs := h2.keep fun g hg1 hg2 => by
      obtain ⟨o, ho⟩ : ∃ o, W.heap[g]? = some o := ⟨_, Array.getElem?_eq_getElem hg2⟩
      rw [ho]
      exact k3 (by omega) (by omega) (by omega) ho
    have hKD : X3.heap[D]? = some (.deferred (some [])) := k3 (by omega) (by omega) (by omega) hK
    have hP : ∀ (g : Nat), g < S + 7 → (X3.putObj D (.deferred none)).heap[g]? = X3.heap[g]? := fun g hg => World.putObj_heap_other (by omega)
    have u1 := cell_of 0 ((hP (S + 1) (by omega)).trans z1)
    have u2 := cell_of 0 ((hP (S + 1 + 1) (by omega)).trans z2)
    have u3 := cell_of 0 ((hP (S + 1 + 1 + 1) (by omega)).trans z3)
    have hO2 : OwnC cMis 5 54 (X3.putObj D (.deferred none)) (S + 7) (.slice A0 m0 c0) xs := by
      obtain ⟨hl, hv | ⟨g, cap, cur, hv, hgb, hh, r⟩⟩ := hO
      · exact ⟨hl, .inl hv⟩
      · refine ⟨hl, .inr ⟨g, cap, cur, hv, hgb, (World.putObj_heap_other (fun e => ?_)).trans hh, r⟩⟩
        subst e
        rw [hKD] at hh
        cases hh
    have HALL := Lib.hid (And.intro (And.intro u1 (And.intro u2 u3)) (And.intro hKD (And.intro hO2 ((h4.trans hBX).grown (grownBy_putObj' X3 D (.deferred none)) (by have := hBX.size; omega) (fun k hk => by cases hk; omega)))))
    clear h1 h2 h3 h4 h5 h6 h7 h8 h9 k1 k2 k3 hBX z1 z2 z3 hO hKD hP u1 u2 u3 hO2 hK hall hmo hle hlm hm0 ht hq hxs
    gi_wp2_with fail
    refine wpIn_region_lets (Lets.wide _) (by kernel_rfl) (by rfl) (by rintro ⟨a9, w9, h9⟩; obtain ⟨_, _, h8, _⟩ := h9; cases h8) ?_
    refine wpAny_ready (rs := [0, 1, 2]) (by kernel_rfl) (by simp) ?_
    refine AllReady.cons rfl (fun K hK => ?_) ?_
    · go_simp
      refine hK _ _ ?_
      clear hK K
      refine wpAny_ready (rs := [1, 2]) (by kernel_rfl) (by simp) ?_
      refine AllReady.cons rfl (fun K hK => ?_) ?_
      · go_simp
        refine hK _ _ ?_
        clear hK K
        refine wpAny_ready (rs := [2]) (by kernel_rfl) (by simp) ?_
        refine AllReady.cons rfl (fun K hK => ?_) ?_
        · go_simp
          refine hK _ _ ?_
          clear hK K
          refine wpAny_ready (rs := [3]) (by kernel_rfl) (by simp) ?_
          refine AllReady.cons rfl (fun K hK => ?_) ?_
          · go_simp
            refine CB.out.mono ?_
            rintro e w9 ⟨rfl, rfl⟩
            dsimp only
            refine hK _ _ ?_
            clear hK K
            refine wpAny_ready (rs := [4]) (by kernel_rfl) (by simp) ?_
            refine AllReady.cons rfl (fun K hK => ?_) ?_
            · go_simp
              refine hK _ _ ?_
              clear hK K
              refine wpAny_ready (rs := [5]) (by kernel_rfl) (by simp) ?_
              refine AllReady.cons rfl (fun K hK => ?_) ?_
              · go_simp
                refine hK _ _ ?_
                clear hK K
                refine wpAny_ready (rs := [6]) (by kernel_rfl) (by simp) ?_
                refine AllReady.cons rfl (fun K hK => ?_) ?_
                · go_simp
                  refine hK _ _ ?_
                  clear hK K
                  refine wpAny_done (by kernel_rfl) ?_ _
                  gi_wp2
                  refine ⟨by simp, .inl ⟨_, _, rfl, run_takeDeferred HALL.out.2.1, ?_⟩⟩
                  rw [HMO.out.1]
                  dsimp only
                  rw [HMO.out.2]
                  refine ⟨.tuple #[.slice A0 m0 c0, .int .i64 (t : Nat), .int .i64 0], ?_, ⟨A0, c0, rfl, by rw [hS]; exact ownC_base HALL.out.2.2.1 (by omega), by rw [hS]; exact HALL.out.2.2.2⟩⟩
                  obtain ⟨u1, u2, u3⟩ := HALL.out.1
                  simp [results, Tryz.f6, go_sem, u1, u2, u3]
                exact AllReady.nil
              exact AllReady.nil
            exact AllReady.nil
          exact AllReady.nil
        exact AllReady.nil
      refine AllReady.cons rfl (fun K hK => ?_) ?_
      · go_simp
        refine hK _ _ ?_
        clear hK K
        refine wpAny_ready (rs := [1]) (by kernel_rfl) (by simp) ?_
        refine AllReady.cons rfl (fun K hK => ?_) ?_
        · go_simp
          refine hK _ _ ?_
          clear hK K
          refine wpAny_ready (rs := [3]) (by kernel_rfl) (by simp) ?_
          refine AllReady.cons rfl (fun K hK => ?_) ?_
          · go_simp
            refine CB.out.mono ?_
            rintro e w9 ⟨rfl, rfl⟩
            dsimp only
            refine hK _ _ ?_
            clear hK K
            refine wpAny_ready (rs := [4]) (by kernel_rfl) (by simp) ?_
            refine AllReady.cons rfl (fun K hK => ?_) ?_
            · go_simp
              refine hK _ _ ?_
              clear hK K
              refine wpAny_ready (rs := [5]) (by kernel_rfl) (by simp) ?_
              refine AllReady.cons rfl (fun K hK => ?_) ?_
              · go_simp
                refine hK _ _ ?_
                clear hK K
                refine wpAny_ready (rs := [6]) (by kernel_rfl) (by simp) ?_
                refine AllReady.cons rfl (fun K hK => ?_) ?_
                · go_simp
                  refine hK _ _ ?_
                  clear hK K
                  refine wpAny_done (by kernel_rfl) ?_ _
                  gi_wp2
                  refine ⟨by simp, .inl ⟨_, _, rfl, run_takeDeferred HALL.out.2.1, ?_⟩⟩
                  rw [HMO.out.1]
                  dsimp only
                  rw [HMO.out.2]
                  refine ⟨.tuple #[.slice A0 m0 c0, .int .i64 (t : Nat), .int .i64 0], ?_, ⟨A0, c0, rfl, by rw [hS]; exact ownC_base HALL.out.2.2.1 (by omega), by rw [hS]; exact HALL.out.2.2.2⟩⟩
                  obtain ⟨u1, u2, u3⟩ := HALL.out.1
                  simp [results, Tryz.f6, go_sem, u1, u2, u3]
                exact AllReady.nil
              exact AllReady.nil
            exact AllReady.nil
          exact AllReady.nil
        exact AllReady.nil
      exact AllReady.nil
    refine AllReady.cons rfl (fun K hK => ?_) ?_
    · go_simp
      refine hK _ _ ?_
      clear hK K
      refine wpAny_ready (rs := [0, 2]) (by kernel_rfl) (by simp) ?_
      refine AllReady.cons rfl (fun K hK => ?_) ?_
      · go_simp
        refine hK _ _ ?_
        clear hK K
        refine wpAny_ready (rs := [2]) (by kernel_rfl) (by simp) ?_
        refine AllReady.cons rfl (fun K hK => ?_) ?_
        · go_simp
          refine hK _ _ ?_
          clear hK K
          refine wpAny_ready (rs := [3]) (by kernel_rfl) (by simp) ?_
          refine AllReady.cons rfl (fun K hK => ?_) ?_
          · go_simp
            refine CB.out.mono ?_
            rintro e w9 ⟨rfl, rfl⟩
            dsimp only
            refine hK _ _ ?_
            clear hK K
            refine wpAny_ready (rs := [4]) (by kernel_rfl) (by simp) ?_
            refine AllReady.cons rfl (fun K hK => ?_) ?_
            · go_simp
              refine hK _ _ ?_
              clear hK K
              refine wpAny_ready (rs := [5]) (by kernel_rfl) (by simp) ?_
              refine AllReady.cons rfl (fun K hK => ?_) ?_
              · go_simp
                refine hK _ _ ?_
                clear hK K
                refine wpAny_ready (rs := [6]) (by kernel_rfl) (by simp) ?_
                refine AllReady.cons rfl (fun K hK => ?_) ?_
                · go_simp
                  refine hK _ _ ?_
                  clear hK K
                  refine wpAny_done (by kernel_rfl) ?_ _
                  gi_wp2
                  refine ⟨by simp, .inl ⟨_, _, rfl, run_takeDeferred HALL.out.2.1, ?_⟩⟩
                  rw [HMO.out.1]
                  dsimp only
                  rw [HMO.out.2]
                  refine ⟨.tuple #[.slice A0 m0 c0, .int .i64 (t : Nat), .int .i64 0], ?_, ⟨A0, c0, rfl, by rw [hS]; exact ownC_base HALL.out.2.2.1 (by omega), by rw [hS]; exact HALL.out.2.2.2⟩⟩
                  obtain ⟨u1, u2, u3⟩ := HALL.out.1
                  simp [results, Tryz.f6, go_sem, u1, u2, u3]
                exact AllReady.nil
              exact AllReady.nil
            exact AllReady.nil
          exact AllReady.nil
        exact AllReady.nil
      refine AllReady.cons rfl (fun K hK => ?_) ?_
      · go_simp
        refine hK _ _ ?_
        clear hK K
        refine wpAny_ready (rs := [0, 3]) (by kernel_rfl) (by simp) ?_
        refine AllReady.cons rfl (fun K hK => ?_) ?_
        · go_simp
          refine hK _ _ ?_
          clear hK K
          refine wpAny_ready (rs := [3]) (by kernel_rfl) (by simp) ?_
          refine AllReady.cons rfl (fun K hK => ?_) ?_
          · go_simp
            refine CB.out.mono ?_
            rintro e w9 ⟨rfl, rfl⟩
            dsimp only
            refine hK _ _ ?_
            clear hK K
            refine wpAny_ready (rs := [4]) (by kernel_rfl) (by simp) ?_
            refine AllReady.cons rfl (fun K hK => ?_) ?_
            · go_simp
              refine hK _ _ ?_
              clear hK K
              refine wpAny_ready (rs := [5]) (by kernel_rfl) (by simp) ?_
              refine AllReady.cons rfl (fun K hK => ?_) ?_
              · go_simp
                refine hK _ _ ?_
                clear hK K
                refine wpAny_ready (rs := [6]) (by kernel_rfl) (by simp) ?_
                refine AllReady.cons rfl (fun K hK => ?_) ?_
                · go_simp
                  refine hK _ _ ?_
                  clear hK K
                  refine wpAny_done (by kernel_rfl) ?_ _
                  gi_wp2
                  refine ⟨by simp, .inl ⟨_, _, rfl, run_takeDeferred HALL.out.2.1, ?_⟩⟩
                  rw [HMO.out.1]
                  dsimp only
                  rw [HMO.out.2]
                  refine ⟨.tuple #[.slice A0 m0 c0, .int .i64 (t : Nat), .int .i64 0], ?_, ⟨A0, c0, rfl, by rw [hS]; exact ownC_base HALL.out.2.2.1 (by omega), by rw [hS]; exact HALL.out.2.2.2⟩⟩
                  obtain ⟨u1, u2, u3⟩ := HALL.out.1
                  simp [results, Tryz.f6, go_sem, u1, u2, u3]
                exact AllReady.nil
              exact AllReady.nil
            exact AllReady.nil
          exact AllReady.nil
        refine AllReady.cons rfl (fun K hK => ?_) ?_
        · go_simp
          refine CB.out.mono ?_
          rintro e w9 ⟨rfl, rfl⟩
          dsimp only
          refine hK _ _ ?_
          clear hK K
          refine wpAny_ready (rs := [0]) (by kernel_rfl) (by simp) ?_
          refine AllReady.cons rfl (fun K hK => ?_) ?_
          · go_simp
            refine hK _ _ ?_
            clear hK K
            refine wpAny_ready (rs := [4]) (by kernel_rfl) (by simp) ?_
            refine AllReady.cons rfl (fun K hK => ?_) ?_
            · go_simp
              refine hK _ _ ?_
              clear hK K
              refine wpAny_ready (rs := [5]) (by kernel_rfl) (by simp) ?_
              refine AllReady.cons rfl (fun K hK => ?_) ?_
              · go_simp
                refine hK _ _ ?_
                clear hK K
                refine wpAny_ready (rs := [6]) (by kernel_rfl) (by simp) ?_
                refine AllReady.cons rfl (fun K hK => ?_) ?_
                · go_simp
                  refine hK _ _ ?_
                  clear hK K
                  refine wpAny_done (by kernel_rfl) ?_ _
                  gi_wp2
                  refine ⟨by simp, .inl ⟨_, _, rfl, run_takeDeferred HALL.out.2.1, ?_⟩⟩
                  rw [HMO.out.1]
                  dsimp only
                  rw [HMO.out.2]
                  refine ⟨.tuple #[.slice A0 m0 c0, .int .i64 (t : Nat), .int .i64 0], ?_, ⟨A0, c0, rfl, by rw [hS]; exact ownC_base HALL.out.2.2.1 (by omega), by rw [hS]; exact HALL.out.2.2.2⟩⟩
                  obtain ⟨u1, u2, u3⟩ := HALL.out.1
                  simp [results, Tryz.f6, go_sem, u1, u2, u3]
                exact AllReady.nil
              exact AllReady.nil
            exact AllReady.nil
          exact AllReady.nil
        exact AllReady.nil
      exact AllReady.nil
    refine AllReady.cons rfl (fun K hK => ?_) ?_
    · go_simp
      refine hK _ _ ?_
      clear hK K
      refine wpAny_ready (rs := [0, 1]) (by kernel_rfl) (by simp) ?_
      refine AllReady.cons rfl (fun K hK => ?_) ?_
      · go_simp
        refine hK _ _ ?_
        clear hK K
        refine wpAny_ready (rs := [1]) (by kernel_rfl) (by simp) ?_
        refine AllReady.cons rfl (fun K hK => ?_) ?_
        · go_simp
          refine hK _ _ ?_
          clear hK K
          refine wpAny_ready (rs := [3]) (by kernel_rfl) (by simp) ?_
          refine AllReady.cons rfl (fun K hK => ?_) ?_
          · go_simp
            refine CB.out.mono ?_
            rintro e w9 ⟨rfl, rfl⟩
            dsimp only
            refine hK _ _ ?_
            clear hK K
            refine wpAny_ready (rs := [4]) (by kernel_rfl) (by simp) ?_
            refine AllReady.cons rfl (fun K hK => ?_) ?_
            · go_simp
              refine hK _ _ ?_
              clear hK K
              refine wpAny_ready (rs := [5]) (by kernel_rfl) (by simp) ?_
              refine AllReady.cons rfl (fun K hK => ?_) ?_
              · go_simp
                refine hK _ _ ?_
                clear hK K
                refine wpAny_ready (rs := [6]) (by kernel_rfl) (by simp) ?_
                refine AllReady.cons rfl (fun K hK => ?_) ?_
                · go_simp
                  refine hK _ _ ?_
                  clear hK K
                  refine wpAny_done (by kernel_rfl) ?_ _
                  gi_wp2
                  refine ⟨by simp, .inl ⟨_, _, rfl, run_takeDeferred HALL.out.2.1, ?_⟩⟩
                  rw [HMO.out.1]
                  dsimp only
                  rw [HMO.out.2]
                  refine ⟨.tuple #[.slice A0 m0 c0, .int .i64 (t : Nat), .int .i64 0], ?_, ⟨A0, c0, rfl, by rw [hS]; exact ownC_base HALL.out.2.2.1 (by omega), by rw [hS]; exact HALL.out.2.2.2⟩⟩
                  obtain ⟨u1, u2, u3⟩ := HALL.out.1
                  simp [results, Tryz.f6, go_sem, u1, u2, u3]
                exact AllReady.nil
              exact AllReady.nil
            exact AllReady.nil
          exact AllReady.nil
        exact AllReady.nil
      refine AllReady.cons rfl (fun K hK => ?_) ?_
      · go_simp
        refine hK _ _ ?_
        clear hK K
        refine wpAny_ready (rs := [0, 3]) (by kernel_rfl) (by simp) ?_
        refine AllReady.cons rfl (fun K hK => ?_) ?_
        · go_simp
          refine hK _ _ ?_
          clear hK K
          refine wpAny_ready (rs := [3]) (by kernel_rfl) (by simp) ?_
          refine AllReady.cons rfl (fun K hK => ?_) ?_
          · go_simp
            refine CB.out.mono ?_
            rintro e w9 ⟨rfl, rfl⟩
            dsimp only
            refine hK _ _ ?_
            clear hK K
            refine wpAny_ready (rs := [4]) (by kernel_rfl) (by simp) ?_
            refine AllReady.cons rfl (fun K hK => ?_) ?_
            · go_simp
              refine hK _ _ ?_
              clear hK K
              refine wpAny_ready (rs := [5]) (by kernel_rfl) (by simp) ?_
              refine AllReady.cons rfl (fun K hK => ?_) ?_
              · go_simp
                refine hK _ _ ?_
                clear hK K
                refine wpAny_ready (rs := [6]) (by kernel_rfl) (by simp) ?_
                refine AllReady.cons rfl (fun K hK => ?_) ?_
                · go_simp
                  refine hK _ _ ?_
                  clear hK K
                  refine wpAny_done (by kernel_rfl) ?_ _
                  gi_wp2
                  refine ⟨by simp, .inl ⟨_, _, rfl, run_takeDeferred HALL.out.2.1, ?_⟩⟩
                  rw [HMO.out.1]
                  dsimp only
                  rw [HMO.out.2]
                  refine ⟨.tuple #[.slice A0 m0 c0, .int .i64 (t : Nat), .int .i64 0], ?_, ⟨A0, c0, rfl, by rw [hS]; exact ownC_base HALL.out.2.2.1 (by omega), by rw [hS]; exact HALL.out.2.2.2⟩⟩
                  obtain ⟨u1, u2, u3⟩ := HALL.out.1
                  simp [results, Tryz.f6, go_sem, u1, u2, u3]
                exact AllReady.nil
              exact AllReady.nil
            exact AllReady.nil
          exact AllReady.nil
        refine AllReady.cons rfl (fun K hK => ?_) ?_
        · go_simp
          refine CB.out.mono ?_
          rintro e w9 ⟨rfl, rfl⟩
          dsimp only
          refine hK _ _ ?_
          clear hK K
          refine wpAny_ready (rs := [0]) (by kernel_rfl) (by simp) ?_
          refine AllReady.cons rfl (fun K hK => ?_) ?_
          · go_simp
            refine hK _ _ ?_
            clear hK K
            refine wpAny_ready (rs := [4]) (by kernel_rfl) (by simp) ?_
            refine AllReady.cons rfl (fun K hK => ?_) ?_
            · go_simp
              refine hK _ _ ?_
              clear hK K
              refine wpAny_ready (rs := [5]) (by kernel_rfl) (by simp) ?_
              refine AllReady.cons rfl (fun K hK => ?_) ?_
              · go_simp
                refine hK _ _ ?_
                clear hK K
                refine wpAny_ready (rs := [6]) (by kernel_rfl) (by simp) ?_
                refine AllReady.cons rfl (fun K hK => ?_) ?_
                · go_simp
                  refine hK _ _ ?_
                  clear hK K
                  refine wpAny_done (by kernel_rfl) ?_ _
                  gi_wp2
                  refine ⟨by simp, .inl ⟨_, _, rfl, run_takeDeferred HALL.out.2.1, ?_⟩⟩
                  rw [HMO.out.1]
                  dsimp only
                  rw [HMO.out.2]
                  refine ⟨.tuple #[.slice A0 m0 c0, .int .i64 (t : Nat), .int .i64 0], ?_, ⟨A0, c0, rfl, by rw [hS]; exact ownC_base HALL.out.2.2.1 (by omega), by rw [hS]; exact HALL.out.2.2.2⟩⟩
                  obtain ⟨u1, u2, u3⟩ := HALL.out.1
                  simp [results, Tryz.f6, go_sem, u1, u2, u3]
                exact AllReady.nil
              exact AllReady.nil
            exact AllReady.nil
          exact AllReady.nil
        exact AllReady.nil
      exact AllReady.nil
    exact AllReady.nil
  case stop =>
    rintro D c pre W hD hSp ⟨rfl, ⟨p, x, rfl, hx, h3⟩, h4, h5, h7, h8⟩ hK
    rw [hsz] at hD
    have hmo := miscOut_stop l k p x hSp hx
    have HMO := Lib.hid hmo
    have hP : ∀ (g : Nat), g < S + 7 → (W.putObj D (.deferred none)).heap[g]? = W.heap[g]? := fun g hg => World.putObj_heap_other (by omega)
    have u1 : (W.putObj D (.deferred none)).cell? ⟨S + 1, 0, none⟩ = some (.slice none 0 0) := cell_of 0 ((hP (S + 1) (by omega)).trans h7)
    have u2 : (W.putObj D (.deferred none)).cell? ⟨S + 1 + 1, 0, none⟩ = some (.int .i64 0) := cell_of 0 ((hP (S + 1 + 1) (by omega)).trans h8)
    have u3 : (W.putObj D (.deferred none)).cell? ⟨S + 1 + 1 + 1, 0, none⟩ = some (.int .i64 (x.2.2 : Nat)) := cell_of 0 ((hP (S + 1 + 1 + 1) (by omega)).trans h3)
    have HALL := Lib.hid (And.intro (And.intro u1 (And.intro u2 u3)) (And.intro hK (h4.grown (grownBy_putObj' W D (.deferred none)) (by omega) (fun k hk => by cases hk; omega))))
    clear hP u1 u2 u3 h3 h4 h5 h7 h8 hK hmo
    gi_wp2
    refine ⟨by simp, .inl ⟨_, _, rfl, run_takeDeferred HALL.out.2.1, ?_⟩⟩
    rw [HMO.out]
    refine ⟨.tuple #[.slice none 0 0, .int .i64 0, .int .i64 (x.2.2 : Nat)], ?_, ⟨none, 0, rfl, OwnC.start _ _ _ _ _, HALL.out.2.2⟩⟩
    obtain ⟨u1, u2, u3⟩ := HALL.out.1
    simp [results, Tryz.f6, go_sem, u1, u2, u3]
end Go.Proofs.YtgenpgfhjhcahaaGreatDoor
