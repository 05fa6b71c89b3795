/- Texts of ours, joined: SbD, RdP, RdE. -/
import Derived.Test.YtgenpgfhjhcahaaGreatDoorRows
import Derived.WalkKit
import Derived.ProofKit
import Derived.OpenShut
import Derived.ShutString
import Derived.ChangeOld
import Derived.Below
import Derived.BigQuiet
import Derived.Deep.QuietTactic
import Derived.Lib.Hide
import Derived.Deep.RegionHeld3
import Derived.Lib.SlBytesConst
import Derived.Laws.CopyOwn
import Derived.Laws.CopyRow
import Derived.Lib.Bytes
import Derived.Deep.LoopGhost
import Derived.Deep.DeepFit
import Derived.Deep.DeepMust
import Derived.WalkSpells
import Derived.WalkLawsBesides
import Derived.Laws.EntriesVeiled
import Derived.Laws.Rows
import Derived.Maps.OwnOps
import Derived.Maps.OwnSet
import Derived.Maps.Views
import Derived.Maps.AppendAt
import Derived.Deep.AppendLies
import Derived.DeepKeys4
import Derived.MapViews
import Derived.Maps.Keyed
import Derived.Deep.RegionLaw
import Derived.Deep.RegionWith
import Derived.StillTailTactics
import Derived.Deep.CutRange
import Derived.IntWalk
import Derived.Laws.MakeOwn
import Derived.Laws.OwnMore
import Derived.Deep.MidRow
import Derived.Test.YtgenpgfhjhcahaaGreatDoorQ1
import Derived.Test.YtgenpgfhjhcahaaGreatDoorQ2
import Derived.Test.YtgenpgfhjhcahaaGreatDoorQ7
import Derived.Test.YtgenpgfhjhcahaaGreatDoorQ8
import Derived.Test.YtgenpgfhjhcahaaGreatDoorQ4
import Derived.Test.YtgenpgfhjhcahaaGreatDoorQ3
import Derived.Test.YtgenpgfhjhcahaaGreatDoorQ5
import Derived.Test.YtgenpgfhjhcahaaGreatDoorQ9
import Derived.Test.YtgenpgfhjhcahaaGreatDoorQ10
import Derived.Test.YtgenpgfhjhcahaaGreatDoorQ11
import Derived.Test.YtgenpgfhjhcahaaGreatDoorQ12
import Derived.Test.YtgenpgfhjhcahaaGreatDoorQ21
import Derived.Test.YtgenpgfhjhcahaaGreatDoorQ20
import Derived.Test.YtgenpgfhjhcahaaGreatDoorQ22
import Derived.Test.YtgenpgfhjhcahaaGreatDoorQ23
import Derived.Test.YtgenpgfhjhcahaaGreatDoorQ24
/- subset.Read where only comments, processing instructions and the bracket stand. -/
namespace Go.Proofs.YtgenpgfhjhcahaaGreatDoor
open Go.ChangeShapes Go.WideShapes Go.ChangeAt Go.RowKit
set_option linter.unusedVariables false
set_option maxRecDepth 100000 in
set_option maxHeartbeats 8000000 in
theorem sbRead_c (A : Option Addr) (n cap : Nat) (l : List UInt8) (k0 t3 tb gb mb : Nat) (w : World) (h : Byt w w.heap.size A n cap l) (hW : W29 w) (hWd : WordsD w) (hm : n ≤ 50000) (hk0 : k0 ≤ n) (hend : (miscOut l k0).2 = (t3, 0)) (hbr : l[t3]? = some 93) :
    Calls Tryz.prog 27 #[.slice A n cap, .int .i64 (k0 : Nat), .pointer (some ⟨tb, 0, none⟩), .pointer (some ⟨gb, 0, none⟩), .pointer (some ⟨mb, 0, none⟩)] w fun e w' => e = .returned (.tuple #[.int .i64 ((t3 : Int) + 1), .int .i64 0]) ∧ Below w.heap.size w w' := by
  have CNw : Hid (Calls Tryz.prog 50 #[.int .i64 1099511627776] w fun e w' => e = .returned (.tuple #[.pointer (some ⟨w.heap.size, 0, none⟩), .int .i64 0]) ∧ TSk w' w.heap.size 1099511627776 [] ∧ Below w.heap.size w w' ∧ w.heap.size < w'.heap.size) := Lib.hid (tnew_ok 1099511627776 w (by decide) (by decide))
  have CR : Hid (∀ R X S W, w.heap.size ≤ X → SbJ w R X S 1099511627776 #[.pointer (some ⟨tb, 0, none⟩), .pointer (some ⟨gb, 0, none⟩), .pointer (some ⟨mb, 0, none⟩), .pointer (some ⟨S, 0, none⟩)] A n cap k0 W → Calls Tryz.prog 52 #[.pointer (some ⟨R, 0, none⟩)] W fun e w' => e = .returned (.tuple #[.int .i64 ((t3 : Int) + 1), .int .i64 0]) ∧ Below w.heap.size w w') := Lib.hid fun R X S W hX hJ => sbRun_c R X S 1099511627776 A n cap l k0 t3 tb _ _ w W h hW hWd hX hm hk0 hJ hend hbr
  have h0 : (0 : Int) ≤ (k0 : Int) := by omega
  have h1 : ¬ (n : Int) < (k0 : Int) := by omega
  clear h hW hWd hend hbr
  go_enter Tryz.func27, Tryz.ntmps27
  go_wp2_with fail
  refine CNw.out.mono ?_
  rintro e w1 ⟨rfl, hS1, hb1, hlt1⟩
  have HS1 := Lib.hid (And.intro hS1 (And.intro hb1 hlt1))
  clear hS1 hb1 hlt1 CNw
  obtain ⟨S, hSs⟩ : ∃ S, w.heap.size = S := ⟨_, rfl⟩
  obtain ⟨R, hRs⟩ : ∃ R, w1.heap.size = R := ⟨_, rfl⟩
  obtain ⟨W2, hW2⟩ : ∃ W2, w1.alloc (.cells #[.pointer (some ⟨tb, 0, none⟩), .pointer (some ⟨gb, 0, none⟩), .pointer (some ⟨mb, 0, none⟩), .pointer (some ⟨S, 0, none⟩)] 131) = W2 := ⟨_, rfl⟩
  obtain ⟨X, hXs⟩ : ∃ X, W2.heap.size = X := ⟨_, rfl⟩
  obtain ⟨W3, hW3⟩ : ∃ W3, W2.alloc (.cells #[.string ⟨#[]⟩, .slice A n cap, .int .i64 (k0 : Nat)] 134) = W3 := ⟨_, rfl⟩
  have hR2 : W2.heap[R]? = some (.cells #[.pointer (some ⟨tb, 0, none⟩), .pointer (some ⟨gb, 0, none⟩), .pointer (some ⟨mb, 0, none⟩), .pointer (some ⟨S, 0, none⟩)] 131) := by rw [← hW2, ← hRs]; exact hp_new _ _
  have r3 : W2.cell? ⟨R, 3, none⟩ = some (.pointer (some ⟨S, 0, none⟩)) := by rw [cell_of 3 hR2]; rfl
  have hz1 : R < W2.heap.size := lt_of hR2
  have hSR : S < R := by rw [← hSs, ← hRs]; exact HS1.out.2.2
  have hX3 : W3.heap[X]? = some (.cells #[.string ⟨#[]⟩, .slice A n cap, .int .i64 (k0 : Nat)] 134) := by rw [← hW3, ← hXs]; exact hp_new _ _
  have hR3 : W3.heap[R]? = some (.cells #[.pointer (some ⟨tb, 0, none⟩), .pointer (some ⟨gb, 0, none⟩), .pointer (some ⟨mb, 0, none⟩), .pointer (some ⟨S, 0, none⟩)] 131) := by rw [← hW3]; exact hp_old hR2
  have hb2 : Below w1.heap.size w1 W2 := by rw [← hW2]; exact (Below.refl _ _).alloc (Nat.le_refl _) _
  have hb3 : Below w1.heap.size w1 W3 := by rw [← hW3]; exact hb2.alloc hb2.size _
  have hS3 : TSk W3 S 1099511627776 [] := by
    rw [← hSs]
    exact TSk.keep (fun c vs f hc => (hb3.block _ (lt_of hc)).trans hc) (fun o ho => (hb3.block _ (lt_of ho)).trans ho) HS1.out.1
  have hB3 : Below w.heap.size w W3 := HS1.out.2.1.trans (hb3.mono HS1.out.2.1.size)
  have CPu : Hid (Calls Tryz.prog 51 #[.pointer (some ⟨S, 0, none⟩), .pointer (some ⟨X, 0, none⟩)] W3 fun e w' => e = .returned (.int .i64 0) ∧ TSk w' S 1099511627776 [X] ∧ W3.grownBy w' (some S)) := Lib.hid (tpush_ok 1099511627776 X [] S W3 hS3 (by decide))
  have hRX : R < X := by rw [← hXs]; exact hz1
  have HF := Lib.hid (And.intro hSs (And.intro hSR (And.intro hRX (And.intro hX3 (And.intro hR3 hB3)))))
  clear hz1 hSR hX3 hR3 hb2 hb3 hS3 hB3 hRX hR2
  rw [hSs]
  clear hSs
  go_wp2_with fail
  refine CPu.out.mono ?_
  rintro e w4 ⟨rfl, hS4, hg4⟩
  have C := Lib.hid (CR.out R X S w4 (by have := HF.out.1; have := HF.out.2.1; have := HF.out.2.2.1; omega) ⟨HF.out.2.2.2.2.2.grown hg4 HF.out.2.2.2.2.2.size (fun q hq => by cases hq; exact Nat.le_of_eq HF.out.1), (hg4.block _ (lt_of HF.out.2.2.2.2.1) (fun e => by injection e with e; have := HF.out.2.1; omega)).trans HF.out.2.2.2.2.1, (hg4.block _ (lt_of HF.out.2.2.2.1) (fun e => by injection e with e; have := HF.out.2.1; have := HF.out.2.2.1; omega)).trans HF.out.2.2.2.1, hS4⟩)
  clear hS4 hg4 CPu CR
  go_wp2_with fail
  refine C.out.mono ?_
  rintro e w5 ⟨rfl, hb5⟩
  have HB5 := Lib.hid hb5
  clear hb5 C
  go_wp2
  go_ret2
  exact ⟨rfl, HB5.out⟩
end Go.Proofs.YtgenpgfhjhcahaaGreatDoor
/- prolog.reader.part: a part is read, its place and fault are kept. -/
namespace Go.Proofs.YtgenpgfhjhcahaaGreatDoor
open Go.ChangeShapes Go.WideShapes Go.ChangeAt Go.RowKit
set_option linter.unusedVariables false
set_option maxRecDepth 100000 in
set_option maxHeartbeats 4000000 in
theorem rdPart_c (D F : Nat) (b1 b2 : Array Value) (nx e9 : Int) (Q : World → Prop) (w : World) (c13 : w.cell? ⟨D, 13, none⟩ = some (.int .i64 0)) (eF : ∀ args w, (callFunc F args).run Tryz.prog w = .ok (.enter F args) w)
    (C : Calls Tryz.prog F (b1 ++ b2) w fun e w' => e = .returned (.tuple #[.int .i64 nx, .int .i64 e9]) ∧ Q w') (hQ : ∀ w', Q w' → ∃ u v, w'.heap[D]? = some (.cells u 76) ∧ u[12]? = some (.int .i64 v) ∧ u[13]? = some (.int .i64 0)) :
    Calls Tryz.prog 21 #[.pointer (some ⟨D, 0, none⟩), .func (.func F) b1 b2] w fun e w' => (∃ v, e = .returned v) ∧ ∃ w1, Q w1 ∧ w' = (w1.setCell ⟨D, 12, none⟩ (.int .i64 nx)).setCell ⟨D, 13, none⟩ (.int .i64 e9) := by
  have CF := Lib.hid C
  have HQ := Lib.hid hQ
  clear C hQ
  go_enter Tryz.func21, Tryz.ntmps21
  go_wp2_with fail
  refine CF.out.mono ?_
  rintro e w1 ⟨rfl, hq⟩
  obtain ⟨u, v, hu, h12, h13⟩ := HQ.out w1 hq
  have g12 : w1.cell? ⟨D, 12, none⟩ = some (.int .i64 v) := (cell_of 12 hu).trans h12
  have f12 := free_of 12 hu
  have hu2 : (w1.setCell ⟨D, 12, none⟩ (.int .i64 nx)).heap[D]? = some (.cells (u.setIfInBounds 12 (.int .i64 nx)) 76) := hp_set hu
  have g13 : (w1.setCell ⟨D, 12, none⟩ (.int .i64 nx)).cell? ⟨D, 13, none⟩ = some (.int .i64 0) := by
    rw [cell_of 13 hu2, Array.getElem?_setIfInBounds_ne (by decide)]
    exact h13
  have f13 := free_of 13 hu2
  have HQ1 := Lib.hid hq
  clear hu h12 h13 hu2 hq CF
  go_wp2
  go_end0
  exact ⟨⟨_, rfl⟩, w1, HQ1.out, rfl⟩
end Go.Proofs.YtgenpgfhjhcahaaGreatDoor
/- prolog.reader.end. -/
namespace Go.Proofs.YtgenpgfhjhcahaaGreatDoor
open Go.ChangeShapes Go.WideShapes Go.ChangeAt Go.RowKit
set_option linter.unusedVariables false
set_option maxRecDepth 100000 in
set_option maxHeartbeats 4000000 in
theorem rdEnd_c (D : Nat) (A : Option Addr) (n cap : Nat) (l : List UInt8) (k t : Nat) (w0 w : World) (h : Byt w0 w0.heap.size A n cap l) (hBw : Below w0.heap.size w0 w) (hm : n ≤ 50000) (hk : k ≤ n) (hD : D < w.heap.size) (c0 : w.cell? ⟨D, 0, none⟩ = some (.slice A n cap)) (c12 : w.cell? ⟨D, 12, none⟩ = some (.int .i64 k)) (hbl : blankTo l k = t) (hgt : l[t]? = some 62) :
    Calls Tryz.prog 28 #[.pointer (some ⟨D, 0, none⟩)] w fun e w' => e = .returned (.tuple #[.int .i64 ((t : Int) + 1), .int .i64 0]) ∧ Below w.heap.size w w' := by
  have ht : t < n := by have := (List.getElem?_eq_some_iff.1 hgt).1; rw [h.length] at this; exact this
  have hpre : [62].isPrefixOf (l.drop t) = true := by
    rw [List.drop_eq_getElem_cons (by rw [h.length]; exact ht)]
    have he : l[t]'(by rw [h.length]; exact ht) = 62 := by rw [List.getElem?_eq_getElem (by rw [h.length]; exact ht)] at hgt; exact Option.some.inj hgt
    rw [he]
    simp [List.isPrefixOf]
  have CB : Hid (∀ m : Nat, Calls Tryz.prog 13 #[.slice A n cap, .int .i64 k] (w.drewN m) fun e w' => e = .returned (.int .i64 t) ∧ w' = w.drewN m) := Lib.hid fun m => by
    have := blanks_c A n cap l k w0.heap.size (w.drewN m) ((h.below hBw).drewN) (by omega) hk
    rw [hbl] at this
    exact this.mono fun e w' ⟨he, hw⟩ => ⟨he, hw.symm⟩
  have CS : Hid (∀ W, Below w.heap.size w W → Calls Tryz.prog 29 #[.slice A n cap, .int .i64 t, .string ⟨#[62]⟩] W fun e w' => e = .returned (.bool true) ∧ Below W.heap.size W w') := Lib.hid fun W hb => by
    have := pgStands_c A n cap l t [62] W ((h.below (hBw.trans (hb.mono hBw.size))).more (Nat.le_trans hBw.size hb.size)) (by omega) (by decide)
    rwa [hpre] at this
  have KP : Hid (∀ W, Below w.heap.size w W → W.cell? ⟨D, 0, none⟩ = some (.slice A n cap)) := Lib.hid fun W hW => (hW.cell (p := ⟨D, 0, none⟩) hD).trans c0
  have hB0 : Below w.heap.size w w := Below.refl _ _
  have h0 : (0 : Int) ≤ (t : Int) := by omega
  have h9 : (t : Int) ≤ 50000 := by omega
  clear h hbl hgt hpre
  go_enter Tryz.func28, Tryz.ntmps28
  go_wp2
  go_quiet ((go_at_call 13; exact Calls.quiet_of_same (CB.out _)))
  have hq := below_drewN' (n := nq) hB0
  have c0 := KP.out _ hq
  generalize w.drewN nq = w2 at *
  go_wp2_with fail
  refine (CS.out _ hq).mono ?_
  rintro e w3 ⟨rfl, hb3⟩
  have HB := Lib.hid (hq.trans (hb3.mono hq.size))
  clear hb3 hq
  go_wp2
  exact bodyPost_ret (results_tmp2 rfl _ _ _) rfl ⟨rfl, HB.out⟩
end Go.Proofs.YtgenpgfhjhcahaaGreatDoor
