/- Texts of ours, joined: DnX, DnY. -/
import Derived.Test.YtgenpgfhjhcahaaGreatDoorRows
import Derived.WalkKit
import Derived.ProofKit
import Derived.OpenShut
import Derived.ShutString
import Derived.ChangeOld
import Derived.Below
import Derived.BigQuiet
import Derived.Deep.QuietTactic
import Derived.Lib.Hide
import Derived.Deep.RegionHeld3
import Derived.Lib.SlBytesConst
import Derived.Laws.CopyOwn
import Derived.Laws.CopyRow
import Derived.Lib.Bytes
import Derived.Deep.LoopGhost
import Derived.Deep.DeepFit
import Derived.Deep.DeepMust
import Derived.WalkSpells
import Derived.WalkLawsBesides
import Derived.Laws.EntriesVeiled
import Derived.Laws.Rows
import Derived.Maps.OwnOps
import Derived.Maps.OwnSet
import Derived.Maps.Views
import Derived.Maps.AppendAt
import Derived.Deep.AppendLies
import Derived.DeepKeys4
import Derived.MapViews
import Derived.Maps.Keyed
import Derived.Deep.RegionLaw
import Derived.Deep.RegionWith
import Derived.StillTailTactics
import Derived.Deep.CutRange
import Derived.IntWalk
import Derived.Laws.MakeOwn
import Derived.Laws.OwnMore
import Derived.Deep.MidRow
import Derived.Test.YtgenpgfhjhcahaaGreatDoorQ1
import Derived.Test.YtgenpgfhjhcahaaGreatDoorQ2
import Derived.Test.YtgenpgfhjhcahaaGreatDoorQ7
import Derived.Test.YtgenpgfhjhcahaaGreatDoorQ8
import Derived.Test.YtgenpgfhjhcahaaGreatDoorQ4
import Derived.Test.YtgenpgfhjhcahaaGreatDoorQ3
import Derived.Test.YtgenpgfhjhcahaaGreatDoorQ5
import Derived.Test.YtgenpgfhjhcahaaGreatDoorQ9
import Derived.Test.YtgenpgfhjhcahaaGreatDoorQ10
import Derived.Test.YtgenpgfhjhcahaaGreatDoorQ11
import Derived.Test.YtgenpgfhjhcahaaGreatDoorQ12
import Derived.Test.YtgenpgfhjhcahaaGreatDoorQ21
import Derived.Test.YtgenpgfhjhcahaaGreatDoorQ20
/- decl.Next where a comment, a processing instruction or the bracket stands. -/
namespace Go.Proofs.YtgenpgfhjhcahaaGreatDoor
open Go.ChangeShapes Go.WideShapes Go.ChangeAt Go.RowKit
set_option linter.unusedVariables false
def wordsD : List (List UInt8) := [[], [60, 33, 69, 78, 84, 73, 84, 89], [60, 33, 65, 84, 84, 76, 73, 83, 84], [60, 33, 78, 79, 84, 65, 84, 73, 79, 78], [60, 33, 69, 76, 69, 77, 69, 78, 84]]
/-- The table of the words is laid. -/
def WordsD (w : World) : Prop := ∀ i (x : List UInt8), wordsD[i]? = some x → w.cell? ⟨0, i, none⟩ = some (.string ⟨x.toArray⟩)
theorem WordsD.lt {w : World} (h : WordsD w) : 0 < w.heap.size := World.block_lt_of_cell? w _ (h 0 [] rfl)
theorem WordsD.below {w w' : World} {B : Nat} (h : WordsD w) (hb : Below B w w') (hB : 0 < B) : WordsD w' := fun i x hx => by rw [hb.cell hB]; exact h i x hx
theorem pre_of_four {a b c d : UInt8} {m : List UInt8} (h : [a, b, c, d].isPrefixOf m = true) : ∃ r, m = a :: b :: c :: d :: r := by
  obtain ⟨r, hr⟩ := List.isPrefixOf_iff_prefix.1 h
  exact ⟨r, hr.symm⟩
theorem pre_of_two {a b : UInt8} {m : List UInt8} (h : [a, b].isPrefixOf m = true) : ∃ r, m = a :: b :: r := by
  obtain ⟨r, hr⟩ := List.isPrefixOf_iff_prefix.1 h
  exact ⟨r, hr.symm⟩
theorem words_not {m : List UInt8} (h : [60, 33, 45, 45].isPrefixOf m = true ∨ [60, 63].isPrefixOf m = true) : [93].isPrefixOf m = false ∧ [37].isPrefixOf m = false ∧ ∀ j x, 1 ≤ j → wordsD[j]? = some x → x.isPrefixOf m = false := by
  rcases h with h | h
  · obtain ⟨r, rfl⟩ := pre_of_four h
    refine ⟨rfl, rfl, fun j x hj hx => ?_⟩
    match j, hj with
    | 1, _ => cases hx; rfl
    | 2, _ => cases hx; rfl
    | 3, _ => cases hx; rfl
    | 4, _ => cases hx; rfl
    | j + 5, _ => simp [wordsD] at hx
  · obtain ⟨r, rfl⟩ := pre_of_two h
    refine ⟨rfl, rfl, fun j x hj hx => ?_⟩
    match j, hj with
    | 1, _ => cases hx; rfl
    | 2, _ => cases hx; rfl
    | 3, _ => cases hx; rfl
    | 4, _ => cases hx; rfl
    | j + 5, _ => simp [wordsD] at hx
/-- The kinds of declarations that are events: the numbers of both packages. -/
def kdR (k : Nat) : Nat := if k = 5 then 6 else 5
set_option linter.unusedSimpArgs false in
set_option maxRecDepth 100000 in
set_option maxHeartbeats 8000000 in
theorem dnMis_c (A : Option Addr) (n cap : Nat) (l : List UInt8) (k t : Nat) (m : MisT) (nx : Nat) (w : World) (h : Byt w w.heap.size A n cap l) (hW : W29 w) (hWd : WordsD w) (hm : n ≤ 50000) (hk : k ≤ n) (ht : blankTo l k = t) (hx : misAt l t = some (m, nx, 0)) :
    Calls Tryz.prog 73 #[.slice A n cap, .int .i64 (k : Nat)] w fun e w' => e = .returned (.tuple #[.agg (dclV (kdR m.kind : Nat) m.name m.text), .int .i64 (nx : Nat), .int .i64 0]) ∧ Below w.heap.size w w' := by
  have htl : t < n := by have := misAt_lt hx; rwa [h.length] at this
  have hpre : [60, 33, 45, 45].isPrefixOf (l.drop t) = true ∨ [60, 63].isPrefixOf (l.drop t) = true := by
    unfold misAt at hx
    split at hx
    · exact .inl (by assumption)
    · split at hx
      · exact .inr (by assumption)
      · cases hx
  have HWN := Lib.hid (words_not hpre)
  obtain ⟨W1, hW1⟩ : ∃ W1, w.alloc (.cells (dclV 0 [] []) 177) = W1 := ⟨_, rfl⟩
  obtain ⟨W2, hW2⟩ : ∃ W2, W1.alloc (.cells (rdrV A n cap t 0 0 [] []) 215) = W2 := ⟨_, rfl⟩
  have hB1 : Below w.heap.size w W1 := by rw [← hW1]; exact (Below.refl _ _).alloc (Nat.le_refl _) _
  have hz1 : W1.heap.size = w.heap.size + 1 := by rw [← hW1]; exact World.size_alloc _ _
  have hB2 : Below w.heap.size w W2 := by rw [← hW2]; exact hB1.alloc hB1.size _
  obtain ⟨D, hDs⟩ : ∃ D, W1.heap.size = D := ⟨_, rfl⟩
  have hDw : D = w.heap.size + 1 := by rw [← hDs, hz1]
  have hR2 : W2.heap[w.heap.size]? = some (.cells (dclV 0 [] []) 177) := by rw [← hW2]; exact hp_old (by rw [← hW1]; exact hp_new _ _)
  have hD2 : W2.heap[D]? = some (.cells (rdrV A n cap t 0 0 [] []) 215) := by rw [← hW2, ← hDs]; exact hp_new _ _
  have CB : Hid (Calls Tryz.prog 13 #[.slice A n cap, .int .i64 (k : Nat)] W1 fun e w' => e = .returned (.int .i64 (t : Nat)) ∧ W1 = w') := Lib.hid (by
    have := blanks_c A n cap l k w.heap.size W1 (h.below hB1) (by omega) hk
    rwa [ht] at this)
  have CS : Hid (∀ (p : List UInt8) W, p.length ≤ 1000000 → Below W2.heap.size W2 W → Calls Tryz.prog 106 #[.pointer (some ⟨D, 0, none⟩), .string ⟨p.toArray⟩] W fun e w' => e = .returned (.bool (p.isPrefixOf (l.drop t))) ∧ Below W.heap.size W w') := Lib.hid fun p W hp hb => by
    have h9 := (hb.block _ (lt_of hD2)).trans hD2
    exact dcStands_c D A n cap l t p w W h (hB2.trans (hb.mono hB2.size)) (by omega) hp (lt_of h9) (by rw [cell_of 0 h9]; rfl) (by rw [cell_of 1 h9]; rfl)
  have hxc : (∃ s, m = ⟨5, [], s⟩ ∧ commentOut l t = (s, nx, 0) ∧ [60, 33, 45, 45].isPrefixOf (l.drop t) = true) ∨ (∃ nm tx, m = ⟨4, nm, tx⟩ ∧ piOut l t = (nm, tx, nx, 0) ∧ [60, 33, 45, 45].isPrefixOf (l.drop t) = false ∧ [60, 63].isPrefixOf (l.drop t) = true) := by
    unfold misAt at hx
    by_cases hp : [60, 33, 45, 45].isPrefixOf (l.drop t) = true
    · rw [if_pos hp] at hx
      injection hx with hx
      injection hx with h1 h2
      injection h2 with h2 h3
      exact .inl ⟨_, h1.symm, by rw [← h2, ← h3], hp⟩
    · rw [if_neg hp] at hx
      by_cases hq : [60, 63].isPrefixOf (l.drop t) = true
      · rw [if_pos hq] at hx
        injection hx with hx
        injection hx with h1 h2
        injection h2 with h2 h3
        exact .inr ⟨_, _, h1.symm, by rw [← h2, ← h3], bfalse hp, hq⟩
      · rw [if_neg hq] at hx
        cases hx
  have CA : Hid (∃ kd nm tx, m = ⟨kd, nm, tx⟩ ∧ ∀ wr, Below W2.heap.size W2 wr → Calls Tryz.prog 107 #[.pointer (some ⟨D, 0, none⟩)] wr fun e w' => (∃ v, e = .returned v) ∧ w'.heap[D]? = some (.cells (rdrV A n cap nx 0 (kdR kd : Nat) nm tx) 215) ∧ wr.grownBy w' (some D)) := Lib.hid (by
    rcases hxc with ⟨s, hm5, hc, hp⟩ | ⟨nm, tx, hm4, hc, hp, hq⟩
    · exact ⟨5, [], s, hm5, fun wr hb => dnAsideC_c D A n cap l s t nx w wr h hW (hB2.trans (hb.mono hB2.size)) (by omega) hm (by omega) HWN.out.2.1 hp hc ((hb.block _ (lt_of hD2)).trans hD2)⟩
    · exact ⟨4, nm, tx, hm4, fun wr hb => dnAsideP_c D A n cap l nm tx t nx w wr h hW (hB2.trans (hb.mono hB2.size)) (by omega) hm (by omega) HWN.out.2.1 hp hq hc ((hb.block _ (lt_of hD2)).trans hD2)⟩)
  clear hxc
  have C93 := Lib.hid (CS.out [93] W2 (by decide) (Below.refl _ _))
  rw [HWN.out.1] at C93
  have h0t : (0 : Int) ≤ (k : Int) := by omega
  have h1t : ¬ (n : Int) < (k : Int) := by omega
  have h2t : ((t : Int) == (n : Int)) = false := by simp; omega
  have q1 : W2.cell? ⟨D, 1, none⟩ = some (.int .i64 (t : Nat)) := by rw [cell_of 1 hD2]; rfl
  obtain ⟨d9, hu⟩ := isStruct_of (P := Tryz.prog) (t := 177) (by kernel_rfl)
  have hi : (Tryz.prog.info? 177).map (·.size) = some 13 := by kernel_rfl
  have HU := Lib.hid (And.intro hi hu)
  clear hi hu
  have HM := Lib.hid (And.intro hB1 (And.intro hB2 (And.intro hR2 hD2)))
  unfold dclV at hW1
  unfold rdrV at hW2
  have HDW := Lib.hid hDw
  clear hB1 hB2 hR2 hD2 hz1 hDw
  go_enter Tryz.func73, Tryz.ntmps73
  go_wp2_with fail
  refine CB.out.mono ?_
  rintro e w2 ⟨rfl, rfl⟩
  go_wp2_with fail
  refine C93.out.mono ?_
  rintro e w3 ⟨rfl, hb3⟩
  have HB3 := Lib.hid hb3
  clear hb3 C93
  go_wp2_with fail
  have hF4 := hp_new w3 (.cells #[.func (.func 107) #[.pointer (some ⟨D, 0, none⟩)] #[], .func (.func 108) #[.pointer (some ⟨D, 0, none⟩)] #[], .func (.func 109) #[.pointer (some ⟨D, 0, none⟩)] #[], .func (.func 110) #[.pointer (some ⟨D, 0, none⟩)] #[], .func (.func 111) #[.pointer (some ⟨D, 0, none⟩)] #[]] 216)
  have hb4 := HB3.out.alloc HB3.out.size (.cells #[.func (.func 107) #[.pointer (some ⟨D, 0, none⟩)] #[], .func (.func 108) #[.pointer (some ⟨D, 0, none⟩)] #[], .func (.func 109) #[.pointer (some ⟨D, 0, none⟩)] #[], .func (.func 110) #[.pointer (some ⟨D, 0, none⟩)] #[], .func (.func 111) #[.pointer (some ⟨D, 0, none⟩)] #[]] 216)
  generalize (w3.alloc (.cells #[.func (.func 107) #[.pointer (some ⟨D, 0, none⟩)] #[], .func (.func 108) #[.pointer (some ⟨D, 0, none⟩)] #[], .func (.func 109) #[.pointer (some ⟨D, 0, none⟩)] #[], .func (.func 110) #[.pointer (some ⟨D, 0, none⟩)] #[], .func (.func 111) #[.pointer (some ⟨D, 0, none⟩)] #[]] 216)) = W4 at *
  generalize w3.heap.size = FB at *
  have H4 := Lib.hid (And.intro hb4 hF4)
  clear hb4 hF4 HB3
  go_loopg [9] (4) (fun g i wr => ∃ j : Nat, i = .int .i64 (j : Nat) ∧ 1 ≤ j ∧ j ≤ 5 ∧ Hid (g + j = 5) ∧ Hid (Below W4.heap.size W4 wr))
  case atStart => exact ⟨1, rfl, Nat.le_refl _, by decide, Lib.hid rfl, Lib.hid (Below.refl _ _)⟩
  case round =>
    obtain ⟨j, rfl, hj1, hj5, hg, HJ⟩ := hrel
    have hbr : Below W2.heap.size W2 wr := H4.out.1.trans (HJ.out.mono H4.out.1.size)
    by_cases hj : j ≤ 4
    · have hjI : (j : Int) ≤ 4 := by omega
      have hj0 : (0 : Int) ≤ (j : Int) := by omega
      have hjL : (j : Int) < 5 := by omega
      obtain ⟨x, hxj⟩ : ∃ x, wordsD[j]? = some x := ⟨_, List.getElem?_eq_getElem (by simp [wordsD]; omega)⟩
      have hxl : x.length ≤ 1000000 := by
        have : x ∈ wordsD := List.mem_of_getElem? hxj
        simp [wordsD] at this
        rcases this with rfl | rfl | rfl | rfl | rfl <;> decide
      have C := Lib.hid (CS.out x wr hxl hbr)
      rw [HWN.out.2.2 j x hj1 hxj] at C
      have gw : wr.cell? ⟨0, j, none⟩ = some (.string ⟨x.toArray⟩) := by
        have hlt := hWd.lt
        rw [hbr.cell (p := ⟨0, j, none⟩) (Nat.lt_of_lt_of_le hlt HM.out.2.1.size), HM.out.2.1.cell (p := ⟨0, j, none⟩) hlt]
        exact hWd j x hxj
      clear hxj hxl
      go_wp2_with fail
      refine C.out.mono ?_
      rintro e w5 ⟨rfl, hb5⟩
      have HJ5 := Lib.hid (HJ.out.trans (hb5.mono HJ.out.size))
      clear hb5 C hbr
      go_wp2
      go_roundg (4 - j)
      case measure => have := hg.out; omega
      case rel => exact ⟨j + 1, by go_num, by omega, by omega, Lib.hid (by have := hg.out; omega), HJ5⟩
    · obtain rfl : j = 5 := by omega
      obtain ⟨kd, nm, tx, hmm, CAw⟩ := CA.out
      have C := Lib.hid (CAw wr hbr)
      clear CAw
      have hD9 := (hbr.block _ (lt_of HM.out.2.2.2)).trans HM.out.2.2.2
      have g3 : wr.cell? ⟨D, 3, none⟩ = some (.int .i64 0) := by rw [cell_of 3 hD9]; rfl
      have gF : wr.cell? ⟨FB, 0, none⟩ = some (.func (.func 107) #[.pointer (some ⟨D, 0, none⟩)] #[]) := by rw [cell_of 0 ((HJ.out.block _ (lt_of H4.out.2)).trans H4.out.2)]; rfl
      have hDn : D ≠ w.heap.size := by have := HDW.out; omega
      have HR9 : Hid (wr.heap[w.heap.size]? = some (.cells (dclV 0 [] []) 177) ∧ Below w.heap.size w wr) := Lib.hid ⟨(hbr.block _ (lt_of HM.out.2.2.1)).trans HM.out.2.2.1, HM.out.2.1.trans (hbr.mono HM.out.2.1.size)⟩
      clear hbr hD9 CA hg hj hj1 hj5
      go_wp2_with fail
      refine C.out.mono ?_
      rintro e w5 ⟨⟨v, rfl⟩, hD5, hg5⟩
      have hR5 : w5.heap[w.heap.size]? = some (.cells (dclV 0 [] []) 177) := (hg5.block _ (lt_of HR9.out.1) (fun e => hDn (by injection e with e; exact e.symm))).trans HR9.out.1
      have hB5 : Below w.heap.size w w5 := HR9.out.2.grown hg5 HR9.out.2.size (fun q hq => by cases hq; have := HDW.out; omega)
      have d2 : w5.cell? ⟨D, 2, none⟩ = some (.int .i64 0) := by rw [cell_of 2 hD5]; rfl
      obtain ⟨K2, hK2⟩ : ∃ q, kdR kd = q := ⟨_, rfl⟩
      rw [hK2] at hD5
      have hst9 : (w5.drew.setRow w.heap.size (dclV (K2 : Nat) nm tx)).heap[w.heap.size]? = some (.cells (dclV (K2 : Nat) nm tx) 177 (0, 0)) := setRow_heap _ _ _ _ _ _ (show w5.drew.heap[w.heap.size]? = _ from hR5)
      have hBF := below_setRow (hB5.drew) (Nat.le_refl _) (dclV (K2 : Nat) nm tx)
      have rg : Hid (w5.drew.rangeAt D 3 (dclV (K2 : Nat) nm tx).toList) := Lib.hid (rangeAt_of (w := w5.drew) hD5 3 13 (Nat.le_refl 16))
      have d1 : w5.drew.cell? ⟨D, 1, none⟩ = some (.int .i64 (nx : Nat)) := by rw [cell_of (w := w5.drew) 1 hD5]; rfl
      have e1 : (w5.drew.setRow w.heap.size (dclV (K2 : Nat) nm tx)).cell? ⟨D, 1, none⟩ = some (.int .i64 (nx : Nat)) := by rw [cell_of 1 (show (w5.drew.setRow w.heap.size (dclV (K2 : Nat) nm tx)).heap[D]? = _ from (setRow_other _ _ _ _ hDn).trans hD5)]; rfl
      have hR9 : w5.drew.heap[w.heap.size]? = some (.cells (dclV 0 [] []) 177) := hR5
      have HFIN := Lib.hid (And.intro hst9 (And.intro hBF hK2))
      clear hst9 hBF hD5 hR5 hB5 hg5 HR9 hK2
      go_wp2_with fail
      refine wp_region_drew (by kernel_rfl) ?_
      refine wpAny_take (i := 0) (oi := { dst := some 95, op := Op.move (Operand.tmp 7), type := 213, pos := "decl.go:241", after := #[], guard := none }) (v := ?_) rfl (by kernel_rfl) (by kernel_rfl) (by kernel_rfl) (fun _ _ _ h => h) (Or.inl ⟨by rfl, fun w9 => by go_simp; try with_reducible rfl⟩) ?_
      (try simp only [Act.put, List.setIfInBounds_toArray, List.set_cons_zero, List.set_cons_succ])
      refine wpAny_take (i := 1) (oi := { dst := some 96, op := Op.nilCheck (Operand.tmp 95), type := 0, pos := "decl.go:241", after := #[{ on := 0, ground := Ground.data }], guard := none }) (v := ?_) rfl (by kernel_rfl) (by kernel_rfl) (by kernel_rfl) (fun _ _ _ h => h) (Or.inl ⟨by rfl, fun w9 => by go_simp; try with_reducible rfl⟩) ?_
      (try simp only [Act.put, List.setIfInBounds_toArray, List.set_cons_zero, List.set_cons_succ])
      refine wpAny_take (i := 2) (oi := { dst := some 97, op := Op.fieldAddr 215 (Operand.tmp 96) 3, type := 0, pos := "decl.go:241", after := #[{ on := 1, ground := Ground.data }], guard := none }) (v := ?_) rfl (by kernel_rfl) (by kernel_rfl) (by kernel_rfl) (fun _ _ _ h => h) (Or.inl ⟨by rfl, fun w9 => by go_simp; try with_reducible rfl⟩) ?_
      (try simp only [Act.put, List.setIfInBounds_toArray, List.set_cons_zero, List.set_cons_succ])
      refine wpAny_take (i := 4) (oi := { dst := some 99, op := Op.move (Operand.tmp 7), type := 213, pos := "decl.go:241", after := #[{ on := 8, ground := Ground.gcOnly Departure.lateStores }], guard := none }) (v := ?_) rfl (by kernel_rfl) (by kernel_rfl) (by kernel_rfl) (fun _ _ _ h => h) (Or.inl ⟨by rfl, fun w9 => by go_simp; try with_reducible rfl⟩) ?_
      (try simp only [Act.put, List.setIfInBounds_toArray, List.set_cons_zero, List.set_cons_succ])
      refine wpAny_take (i := 5) (oi := { dst := some 100, op := Op.nilCheck (Operand.tmp 99), type := 0, pos := "decl.go:241", after := #[{ on := 4, ground := Ground.data }, { on := 8, ground := Ground.gcOnly Departure.lateStores }], guard := none }) (v := ?_) rfl (by kernel_rfl) (by kernel_rfl) (by kernel_rfl) (fun _ _ _ h => h) (Or.inl ⟨by rfl, fun w9 => by go_simp; try with_reducible rfl⟩) ?_
      (try simp only [Act.put, List.setIfInBounds_toArray, List.set_cons_zero, List.set_cons_succ])
      refine wpAny_take (i := 6) (oi := { dst := some 101, op := Op.fieldAddr 215 (Operand.tmp 100) 1, type := 0, pos := "decl.go:241", after := #[{ on := 5, ground := Ground.data }, { on := 8, ground := Ground.gcOnly Departure.lateStores }], guard := none }) (v := ?_) rfl (by kernel_rfl) (by kernel_rfl) (by kernel_rfl) (fun _ _ _ h => h) (Or.inl ⟨by rfl, fun w9 => by go_simp; try with_reducible rfl⟩) ?_
      (try simp only [Act.put, List.setIfInBounds_toArray, List.set_cons_zero, List.set_cons_succ])
      refine wpAny_ready (rs := [3, 7]) (by kernel_rfl) (by simp) ?_
      refine AllReady.cons (o := { dst := some 98, op := Op.load 177 (Operand.tmp 97), type := 177, pos := "decl.go:241", after := #[{ on := 2, ground := Ground.data }], guard := none }) rfl (fun K hK => ?_) ?_
      · refine step_op rfl (wp_load_mid 177 (.tmp 97) rfl D 3 rfl _ _ rg.out HU.out.2 rfl (HU.out.1.trans rfl) ?_)
        refine hK _ _ ?_
        clear hK K
        (try simp only [Act.put, List.setIfInBounds_toArray, List.set_cons_zero, List.set_cons_succ])
        refine wpAny_ready (rs := [7, 8]) (by kernel_rfl) (by simp) ?_
        refine AllReady.cons (o := { dst := some 102, op := Op.load 3 (Operand.tmp 101), type := 3, pos := "decl.go:241", after := #[{ on := 6, ground := Ground.data }, { on := 8, ground := Ground.gcOnly Departure.lateStores }], guard := none }) rfl (fun K hK => ?_) ?_
        · go_simp
          refine hK _ _ ?_
          clear hK K
          (try simp only [Act.put, List.setIfInBounds_toArray, List.set_cons_zero, List.set_cons_succ])
          refine wpAny_ready (rs := [8]) (by kernel_rfl) (by simp) ?_
          refine AllReady.cons (o := { dst := none, op := Op.store 177 (Operand.tmp 4) (Operand.tmp 98), type := 0, pos := "decl.go:241", after := #[{ on := 3, ground := Ground.data }, { on := 0, ground := Ground.phase }, { on := 1, ground := Ground.phase }, { on := 2, ground := Ground.phase }, { on := 3, ground := Ground.phase }, { on := 4, ground := Ground.textOnly Departure.lateStores }, { on := 5, ground := Ground.textOnly Departure.lateStores }, { on := 6, ground := Ground.textOnly Departure.lateStores }, { on := 7, ground := Ground.textOnly Departure.lateStores }], guard := none }) rfl (fun K hK => ?_) ?_
          · refine step_op rfl (wp_store_row 177 (.tmp 4) (.tmp 98) rfl w.heap.size (dclV (K2 : Nat) nm tx) rfl rfl _ _ hR9 (HU.out.1.trans rfl) rfl (by kernel_rfl) ?_)
            refine hK _ _ ?_
            clear hK K
            (try simp only [Act.put, List.setIfInBounds_toArray, List.set_cons_zero, List.set_cons_succ])
            refine wpAny_take (i := 9) (oi := { dst := some 5, op := Op.assign (Operand.tmp 102), type := 3, pos := "decl.go:241", after := #[{ on := 7, ground := Ground.data }, { on := 8, ground := Ground.chain }, { on := 0, ground := Ground.phase }, { on := 1, ground := Ground.phase }, { on := 2, ground := Ground.phase }, { on := 3, ground := Ground.phase }, { on := 4, ground := Ground.phase }, { on := 5, ground := Ground.phase }, { on := 6, ground := Ground.phase }, { on := 7, ground := Ground.phase }, { on := 8, ground := Ground.phase }], guard := none }) (v := ?_) rfl (by kernel_rfl) (by kernel_rfl) (by kernel_rfl) (fun _ _ _ h => h) (Or.inl ⟨by rfl, fun w9 => by go_simp; try with_reducible rfl⟩) ?_
            (try simp only [Act.put, List.setIfInBounds_toArray, List.set_cons_zero, List.set_cons_succ])
            refine wpAny_take (i := 10) (oi := { dst := some 6, op := Op.assign (Operand.const (Value.int IntKind.i64 0)), type := 25, pos := "decl.go:241", after := #[{ on := 9, ground := Ground.chain }, { on := 0, ground := Ground.phase }, { on := 1, ground := Ground.phase }, { on := 2, ground := Ground.phase }, { on := 3, ground := Ground.phase }, { on := 4, ground := Ground.phase }, { on := 5, ground := Ground.phase }, { on := 6, ground := Ground.phase }, { on := 7, ground := Ground.phase }, { on := 8, ground := Ground.phase }, { on := 9, ground := Ground.phase }], guard := none }) (v := ?_) rfl (by kernel_rfl) (by kernel_rfl) (by kernel_rfl) (fun _ _ _ h => h) (Or.inl ⟨by rfl, fun w9 => by go_simp; try with_reducible rfl⟩) ?_
            (try simp only [Act.put, List.setIfInBounds_toArray, List.set_cons_zero, List.set_cons_succ])
            refine wpAny_done (by kernel_rfl) ?_ _
            (try simp only [Exit.inBlock, Exit.then])
            go_wp2
            refine bodyPost_ret (results_cell3p rfl _ _ w.heap.size _ _ _ _ rfl HFIN.out.1 HU.out.2 rfl (HU.out.1.trans rfl)) rfl ⟨by rw [hmm, ← HFIN.out.2.2]; rfl, HFIN.out.2.1⟩
          exact AllReady.nil
        refine AllReady.cons (o := { dst := none, op := Op.store 177 (Operand.tmp 4) (Operand.tmp 98), type := 0, pos := "decl.go:241", after := #[{ on := 3, ground := Ground.data }, { on := 0, ground := Ground.phase }, { on := 1, ground := Ground.phase }, { on := 2, ground := Ground.phase }, { on := 3, ground := Ground.phase }, { on := 4, ground := Ground.textOnly Departure.lateStores }, { on := 5, ground := Ground.textOnly Departure.lateStores }, { on := 6, ground := Ground.textOnly Departure.lateStores }, { on := 7, ground := Ground.textOnly Departure.lateStores }], guard := none }) rfl (fun K hK => ?_) ?_
        · refine step_op rfl (wp_store_row 177 (.tmp 4) (.tmp 98) rfl w.heap.size (dclV (K2 : Nat) nm tx) rfl rfl _ _ hR9 (HU.out.1.trans rfl) rfl (by kernel_rfl) ?_)
          refine hK _ _ ?_
          clear hK K
          (try simp only [Act.put, List.setIfInBounds_toArray, List.set_cons_zero, List.set_cons_succ])
          refine wpAny_ready (rs := [7]) (by kernel_rfl) (by simp) ?_
          refine AllReady.cons (o := { dst := some 102, op := Op.load 3 (Operand.tmp 101), type := 3, pos := "decl.go:241", after := #[{ on := 6, ground := Ground.data }, { on := 8, ground := Ground.gcOnly Departure.lateStores }], guard := none }) rfl (fun K hK => ?_) ?_
          · go_simp
            refine hK _ _ ?_
            clear hK K
            (try simp only [Act.put, List.setIfInBounds_toArray, List.set_cons_zero, List.set_cons_succ])
            refine wpAny_take (i := 9) (oi := { dst := some 5, op := Op.assign (Operand.tmp 102), type := 3, pos := "decl.go:241", after := #[{ on := 7, ground := Ground.data }, { on := 8, ground := Ground.chain }, { on := 0, ground := Ground.phase }, { on := 1, ground := Ground.phase }, { on := 2, ground := Ground.phase }, { on := 3, ground := Ground.phase }, { on := 4, ground := Ground.phase }, { on := 5, ground := Ground.phase }, { on := 6, ground := Ground.phase }, { on := 7, ground := Ground.phase }, { on := 8, ground := Ground.phase }], guard := none }) (v := ?_) rfl (by kernel_rfl) (by kernel_rfl) (by kernel_rfl) (fun _ _ _ h => h) (Or.inl ⟨by rfl, fun w9 => by go_simp; try with_reducible rfl⟩) ?_
            (try simp only [Act.put, List.setIfInBounds_toArray, List.set_cons_zero, List.set_cons_succ])
            refine wpAny_take (i := 10) (oi := { dst := some 6, op := Op.assign (Operand.const (Value.int IntKind.i64 0)), type := 25, pos := "decl.go:241", after := #[{ on := 9, ground := Ground.chain }, { on := 0, ground := Ground.phase }, { on := 1, ground := Ground.phase }, { on := 2, ground := Ground.phase }, { on := 3, ground := Ground.phase }, { on := 4, ground := Ground.phase }, { on := 5, ground := Ground.phase }, { on := 6, ground := Ground.phase }, { on := 7, ground := Ground.phase }, { on := 8, ground := Ground.phase }, { on := 9, ground := Ground.phase }], guard := none }) (v := ?_) rfl (by kernel_rfl) (by kernel_rfl) (by kernel_rfl) (fun _ _ _ h => h) (Or.inl ⟨by rfl, fun w9 => by go_simp; try with_reducible rfl⟩) ?_
            (try simp only [Act.put, List.setIfInBounds_toArray, List.set_cons_zero, List.set_cons_succ])
            refine wpAny_done (by kernel_rfl) ?_ _
            (try simp only [Exit.inBlock, Exit.then])
            go_wp2
            refine bodyPost_ret (results_cell3p rfl _ _ w.heap.size _ _ _ _ rfl HFIN.out.1 HU.out.2 rfl (HU.out.1.trans rfl)) rfl ⟨by rw [hmm, ← HFIN.out.2.2]; rfl, HFIN.out.2.1⟩
          exact AllReady.nil
        exact AllReady.nil
      refine AllReady.cons (o := { dst := some 102, op := Op.load 3 (Operand.tmp 101), type := 3, pos := "decl.go:241", after := #[{ on := 6, ground := Ground.data }, { on := 8, ground := Ground.gcOnly Departure.lateStores }], guard := none }) rfl (fun K hK => ?_) ?_
      · go_simp
        refine hK _ _ ?_
        clear hK K
        (try simp only [Act.put, List.setIfInBounds_toArray, List.set_cons_zero, List.set_cons_succ])
        refine wpAny_ready (rs := [3]) (by kernel_rfl) (by simp) ?_
        refine AllReady.cons (o := { dst := some 98, op := Op.load 177 (Operand.tmp 97), type := 177, pos := "decl.go:241", after := #[{ on := 2, ground := Ground.data }], guard := none }) rfl (fun K hK => ?_) ?_
        · refine step_op rfl (wp_load_mid 177 (.tmp 97) rfl D 3 rfl _ _ rg.out HU.out.2 rfl (HU.out.1.trans rfl) ?_)
          refine hK _ _ ?_
          clear hK K
          (try simp only [Act.put, List.setIfInBounds_toArray, List.set_cons_zero, List.set_cons_succ])
          refine wpAny_ready (rs := [8]) (by kernel_rfl) (by simp) ?_
          refine AllReady.cons (o := { dst := none, op := Op.store 177 (Operand.tmp 4) (Operand.tmp 98), type := 0, pos := "decl.go:241", after := #[{ on := 3, ground := Ground.data }, { on := 0, ground := Ground.phase }, { on := 1, ground := Ground.phase }, { on := 2, ground := Ground.phase }, { on := 3, ground := Ground.phase }, { on := 4, ground := Ground.textOnly Departure.lateStores }, { on := 5, ground := Ground.textOnly Departure.lateStores }, { on := 6, ground := Ground.textOnly Departure.lateStores }, { on := 7, ground := Ground.textOnly Departure.lateStores }], guard := none }) rfl (fun K hK => ?_) ?_
          · refine step_op rfl (wp_store_row 177 (.tmp 4) (.tmp 98) rfl w.heap.size (dclV (K2 : Nat) nm tx) rfl rfl _ _ hR9 (HU.out.1.trans rfl) rfl (by kernel_rfl) ?_)
            refine hK _ _ ?_
            clear hK K
            (try simp only [Act.put, List.setIfInBounds_toArray, List.set_cons_zero, List.set_cons_succ])
            refine wpAny_take (i := 9) (oi := { dst := some 5, op := Op.assign (Operand.tmp 102), type := 3, pos := "decl.go:241", after := #[{ on := 7, ground := Ground.data }, { on := 8, ground := Ground.chain }, { on := 0, ground := Ground.phase }, { on := 1, ground := Ground.phase }, { on := 2, ground := Ground.phase }, { on := 3, ground := Ground.phase }, { on := 4, ground := Ground.phase }, { on := 5, ground := Ground.phase }, { on := 6, ground := Ground.phase }, { on := 7, ground := Ground.phase }, { on := 8, ground := Ground.phase }], guard := none }) (v := ?_) rfl (by kernel_rfl) (by kernel_rfl) (by kernel_rfl) (fun _ _ _ h => h) (Or.inl ⟨by rfl, fun w9 => by go_simp; try with_reducible rfl⟩) ?_
            (try simp only [Act.put, List.setIfInBounds_toArray, List.set_cons_zero, List.set_cons_succ])
            refine wpAny_take (i := 10) (oi := { dst := some 6, op := Op.assign (Operand.const (Value.int IntKind.i64 0)), type := 25, pos := "decl.go:241", after := #[{ on := 9, ground := Ground.chain }, { on := 0, ground := Ground.phase }, { on := 1, ground := Ground.phase }, { on := 2, ground := Ground.phase }, { on := 3, ground := Ground.phase }, { on := 4, ground := Ground.phase }, { on := 5, ground := Ground.phase }, { on := 6, ground := Ground.phase }, { on := 7, ground := Ground.phase }, { on := 8, ground := Ground.phase }, { on := 9, ground := Ground.phase }], guard := none }) (v := ?_) rfl (by kernel_rfl) (by kernel_rfl) (by kernel_rfl) (fun _ _ _ h => h) (Or.inl ⟨by rfl, fun w9 => by go_simp; try with_reducible rfl⟩) ?_
            (try simp only [Act.put, List.setIfInBounds_toArray, List.set_cons_zero, List.set_cons_succ])
            refine wpAny_done (by kernel_rfl) ?_ _
            (try simp only [Exit.inBlock, Exit.then])
            go_wp2
            refine bodyPost_ret (results_cell3p rfl _ _ w.heap.size _ _ _ _ rfl HFIN.out.1 HU.out.2 rfl (HU.out.1.trans rfl)) rfl ⟨by rw [hmm, ← HFIN.out.2.2]; rfl, HFIN.out.2.1⟩
          exact AllReady.nil
        exact AllReady.nil
      exact AllReady.nil
end Go.Proofs.YtgenpgfhjhcahaaGreatDoor
/- decl.Next at the bracket. -/
namespace Go.Proofs.YtgenpgfhjhcahaaGreatDoor
open Go.ChangeShapes Go.WideShapes Go.ChangeAt Go.RowKit
set_option linter.unusedVariables false
set_option linter.unusedSimpArgs false in
set_option maxRecDepth 100000 in
set_option maxHeartbeats 8000000 in
theorem dnEnd_c (A : Option Addr) (n cap : Nat) (l : List UInt8) (k t : Nat) (w : World) (h : Byt w w.heap.size A n cap l) (hm : n ≤ 50000) (hk : k ≤ n) (ht : blankTo l k = t) (hbr : l[t]? = some 93) :
    Calls Tryz.prog 73 #[.slice A n cap, .int .i64 (k : Nat)] w fun e w' => e = .returned (.tuple #[.agg (dclV 0 [] []), .int .i64 (t : Nat), .int .i64 0]) ∧ Below w.heap.size w w' := by
  have htl : t < n := by have := (List.getElem?_eq_some_iff.1 hbr).1; rwa [h.length] at this
  have hpre : [93].isPrefixOf (l.drop t) = true := by
    rw [drop_cons l t 93 hbr]
    simp [List.isPrefixOf]
  obtain ⟨W1, hW1⟩ : ∃ W1, w.alloc (.cells (dclV 0 [] []) 177) = W1 := ⟨_, rfl⟩
  obtain ⟨W2, hW2⟩ : ∃ W2, W1.alloc (.cells (rdrV A n cap t 0 0 [] []) 215) = W2 := ⟨_, rfl⟩
  have hB1 : Below w.heap.size w W1 := by rw [← hW1]; exact (Below.refl _ _).alloc (Nat.le_refl _) _
  have hz1 : W1.heap.size = w.heap.size + 1 := by rw [← hW1]; exact World.size_alloc _ _
  have hB2 : Below w.heap.size w W2 := by rw [← hW2]; exact hB1.alloc hB1.size _
  obtain ⟨D, hDs⟩ : ∃ D, W1.heap.size = D := ⟨_, rfl⟩
  have hDw : D = w.heap.size + 1 := by rw [← hDs, hz1]
  have hDn : D ≠ w.heap.size := by omega
  have hR2 : W2.heap[w.heap.size]? = some (.cells (dclV 0 [] []) 177) := by rw [← hW2]; exact hp_old (by rw [← hW1]; exact hp_new _ _)
  have hD2 : W2.heap[D]? = some (.cells (rdrV A n cap t 0 0 [] []) 215) := by rw [← hW2, ← hDs]; exact hp_new _ _
  have CB : Hid (Calls Tryz.prog 13 #[.slice A n cap, .int .i64 (k : Nat)] W1 fun e w' => e = .returned (.int .i64 (t : Nat)) ∧ W1 = w') := Lib.hid (by
    have := blanks_c A n cap l k w.heap.size W1 (h.below hB1) (by omega) hk
    rwa [ht] at this)
  have C93 : Hid (Calls Tryz.prog 106 #[.pointer (some ⟨D, 0, none⟩), .string ⟨#[93]⟩] W2 fun e w' => e = .returned (.bool true) ∧ Below W2.heap.size W2 w') := Lib.hid (by
    have := dcStands_c D A n cap l t [93] w W2 h hB2 (by omega) (by decide) (lt_of hD2) (by rw [cell_of 0 hD2]; rfl) (by rw [cell_of 1 hD2]; rfl)
    rwa [hpre] at this)
  have h0t : (0 : Int) ≤ (k : Int) := by omega
  have h1t : ¬ (n : Int) < (k : Int) := by omega
  have h2t : ((t : Int) == (n : Int)) = false := by simp; omega
  have q1 : W2.cell? ⟨D, 1, none⟩ = some (.int .i64 (t : Nat)) := by rw [cell_of 1 hD2]; rfl
  obtain ⟨d9, hu⟩ := isStruct_of (P := Tryz.prog) (t := 177) (by kernel_rfl)
  have hi : (Tryz.prog.info? 177).map (·.size) = some 13 := by kernel_rfl
  have HU := Lib.hid (And.intro hi hu)
  have HM := Lib.hid (And.intro hB2 (And.intro hR2 hD2))
  unfold dclV at hW1
  unfold rdrV at hW2
  clear hB1 hB2 hR2 hD2 hz1 hDw hi hu h hpre hbr ht htl
  go_enter Tryz.func73, Tryz.ntmps73
  go_wp2_with fail
  refine CB.out.mono ?_
  rintro e w2 ⟨rfl, rfl⟩
  go_wp2_with fail
  refine C93.out.mono ?_
  rintro e w3 ⟨rfl, hb3⟩
  have hD5 : w3.heap[D]? = _ := (hb3.block _ (lt_of HM.out.2.2)).trans HM.out.2.2
  have hR5 : w3.heap[w.heap.size]? = _ := (hb3.block _ (lt_of HM.out.2.1)).trans HM.out.2.1
  have hB5 : Below w.heap.size w w3 := HM.out.1.trans (hb3.mono HM.out.1.size)
  have hst9 : (w3.drew.setRow w.heap.size (dclV 0 [] [])).heap[w.heap.size]? = some (.cells (dclV 0 [] []) 177 (0, 0)) := setRow_heap _ _ _ _ _ _ (show w3.drew.heap[w.heap.size]? = _ from hR5)
  have hBF := below_setRow (hB5.drew) (Nat.le_refl _) (dclV 0 [] [])
  have d1 : w3.drew.cell? ⟨D, 1, none⟩ = some (.int .i64 (t : Nat)) := by rw [cell_of (w := w3.drew) 1 hD5]; rfl
  have e1 : (w3.drew.setRow w.heap.size (dclV 0 [] [])).cell? ⟨D, 1, none⟩ = some (.int .i64 (t : Nat)) := by rw [cell_of 1 (show (w3.drew.setRow w.heap.size (dclV 0 [] [])).heap[D]? = _ from (setRow_other _ _ _ _ hDn).trans hD5)]; rfl
  have hR9 : w3.drew.heap[w.heap.size]? = some (.cells (dclV 0 [] []) 177) := hR5
  have HFIN := Lib.hid (And.intro hst9 hBF)
  clear hst9 hBF hD5 hR5 hB5 hb3 C93 CB
  go_wp2_with fail
  refine wp_region_drew (by kernel_rfl) ?_
  refine wpAny_take (i := 0) (oi := { dst := some 36, op := Op.build 177 #[], type := 177, pos := "decl.go:227", after := #[], guard := none }) (v := ?_) rfl (by kernel_rfl) (by kernel_rfl) (by kernel_rfl) (fun _ _ _ h => h) (Or.inl ⟨by rfl, fun w9 => by go_simp; try with_reducible rfl⟩) ?_
  (try simp only [Act.put, List.setIfInBounds_toArray, List.set_cons_zero, List.set_cons_succ])
  refine wpAny_take (i := 1) (oi := { dst := some 37, op := Op.move (Operand.tmp 7), type := 213, pos := "decl.go:227", after := #[{ on := 5, ground := Ground.gcOnly Departure.lateStores }], guard := none }) (v := ?_) rfl (by kernel_rfl) (by kernel_rfl) (by kernel_rfl) (fun _ _ _ h => h) (Or.inl ⟨by rfl, fun w9 => by go_simp; try with_reducible rfl⟩) ?_
  (try simp only [Act.put, List.setIfInBounds_toArray, List.set_cons_zero, List.set_cons_succ])
  refine wpAny_take (i := 2) (oi := { dst := some 38, op := Op.nilCheck (Operand.tmp 37), type := 0, pos := "decl.go:227", after := #[{ on := 1, ground := Ground.data }, { on := 5, ground := Ground.gcOnly Departure.lateStores }], guard := none }) (v := ?_) rfl (by kernel_rfl) (by kernel_rfl) (by kernel_rfl) (fun _ _ _ h => h) (Or.inl ⟨by rfl, fun w9 => by go_simp; try with_reducible rfl⟩) ?_
  (try simp only [Act.put, List.setIfInBounds_toArray, List.set_cons_zero, List.set_cons_succ])
  refine wpAny_take (i := 3) (oi := { dst := some 39, op := Op.fieldAddr 215 (Operand.tmp 38) 1, type := 0, pos := "decl.go:227", after := #[{ on := 2, ground := Ground.data }, { on := 5, ground := Ground.gcOnly Departure.lateStores }], guard := none }) (v := ?_) rfl (by kernel_rfl) (by kernel_rfl) (by kernel_rfl) (fun _ _ _ h => h) (Or.inl ⟨by rfl, fun w9 => by go_simp; try with_reducible rfl⟩) ?_
  (try simp only [Act.put, List.setIfInBounds_toArray, List.set_cons_zero, List.set_cons_succ])
  refine wpAny_ready (rs := [4, 5]) (by kernel_rfl) (by simp) ?_
  refine AllReady.cons (o := { dst := some 40, op := Op.load 3 (Operand.tmp 39), type := 3, pos := "decl.go:227", after := #[{ on := 3, ground := Ground.data }, { on := 5, ground := Ground.gcOnly Departure.lateStores }], guard := none }) rfl (fun K hK => ?_) ?_
  · go_simp
    refine hK _ _ ?_
    clear hK K
    (try simp only [Act.put, List.setIfInBounds_toArray, List.set_cons_zero, List.set_cons_succ])
    refine wpAny_ready (rs := [5]) (by kernel_rfl) (by simp) ?_
    refine AllReady.cons (o := { dst := none, op := Op.store 177 (Operand.tmp 4) (Operand.tmp 36), type := 0, pos := "decl.go:227", after := #[{ on := 0, ground := Ground.data }, { on := 0, ground := Ground.phase }, { on := 1, ground := Ground.textOnly Departure.lateStores }, { on := 2, ground := Ground.textOnly Departure.lateStores }, { on := 3, ground := Ground.textOnly Departure.lateStores }, { on := 4, ground := Ground.textOnly Departure.lateStores }], guard := none }) rfl (fun K hK => ?_) ?_
    · refine step_op rfl (wp_store_row 177 (.tmp 4) (.tmp 36) rfl w.heap.size (dclV 0 [] []) rfl rfl _ _ hR9 (HU.out.1.trans rfl) rfl (by kernel_rfl) ?_)
      refine hK _ _ ?_
      clear hK K
      (try simp only [Act.put, List.setIfInBounds_toArray, List.set_cons_zero, List.set_cons_succ])
      refine wpAny_take (i := 6) (oi := { dst := some 5, op := Op.assign (Operand.tmp 40), type := 3, pos := "decl.go:227", after := #[{ on := 4, ground := Ground.data }, { on := 5, ground := Ground.chain }, { on := 0, ground := Ground.phase }, { on := 1, ground := Ground.phase }, { on := 2, ground := Ground.phase }, { on := 3, ground := Ground.phase }, { on := 4, ground := Ground.phase }, { on := 5, ground := Ground.phase }], guard := none }) (v := ?_) rfl (by kernel_rfl) (by kernel_rfl) (by kernel_rfl) (fun _ _ _ h => h) (Or.inl ⟨by rfl, fun w9 => by go_simp; try with_reducible rfl⟩) ?_
      (try simp only [Act.put, List.setIfInBounds_toArray, List.set_cons_zero, List.set_cons_succ])
      refine wpAny_take (i := 7) (oi := { dst := some 6, op := Op.assign (Operand.const (Value.int IntKind.i64 0)), type := 25, pos := "decl.go:227", after := #[{ on := 6, ground := Ground.chain }, { on := 0, ground := Ground.phase }, { on := 1, ground := Ground.phase }, { on := 2, ground := Ground.phase }, { on := 3, ground := Ground.phase }, { on := 4, ground := Ground.phase }, { on := 5, ground := Ground.phase }, { on := 6, ground := Ground.phase }], guard := none }) (v := ?_) rfl (by kernel_rfl) (by kernel_rfl) (by kernel_rfl) (fun _ _ _ h => h) (Or.inl ⟨by rfl, fun w9 => by go_simp; try with_reducible rfl⟩) ?_
      (try simp only [Act.put, List.setIfInBounds_toArray, List.set_cons_zero, List.set_cons_succ])
      refine wpAny_done (by kernel_rfl) ?_ _
      (try simp only [Exit.inBlock, Exit.then])
      go_wp2
      refine bodyPost_ret (results_cell3p rfl _ _ w.heap.size _ _ _ _ rfl HFIN.out.1 HU.out.2 rfl (HU.out.1.trans rfl)) rfl ⟨rfl, HFIN.out.2⟩
    exact AllReady.nil
  refine AllReady.cons (o := { dst := none, op := Op.store 177 (Operand.tmp 4) (Operand.tmp 36), type := 0, pos := "decl.go:227", after := #[{ on := 0, ground := Ground.data }, { on := 0, ground := Ground.phase }, { on := 1, ground := Ground.textOnly Departure.lateStores }, { on := 2, ground := Ground.textOnly Departure.lateStores }, { on := 3, ground := Ground.textOnly Departure.lateStores }, { on := 4, ground := Ground.textOnly Departure.lateStores }], guard := none }) rfl (fun K hK => ?_) ?_
  · refine step_op rfl (wp_store_row 177 (.tmp 4) (.tmp 36) rfl w.heap.size (dclV 0 [] []) rfl rfl _ _ hR9 (HU.out.1.trans rfl) rfl (by kernel_rfl) ?_)
    refine hK _ _ ?_
    clear hK K
    (try simp only [Act.put, List.setIfInBounds_toArray, List.set_cons_zero, List.set_cons_succ])
    refine wpAny_ready (rs := [4]) (by kernel_rfl) (by simp) ?_
    refine AllReady.cons (o := { dst := some 40, op := Op.load 3 (Operand.tmp 39), type := 3, pos := "decl.go:227", after := #[{ on := 3, ground := Ground.data }, { on := 5, ground := Ground.gcOnly Departure.lateStores }], guard := none }) rfl (fun K hK => ?_) ?_
    · go_simp
      refine hK _ _ ?_
      clear hK K
      (try simp only [Act.put, List.setIfInBounds_toArray, List.set_cons_zero, List.set_cons_succ])
      refine wpAny_take (i := 6) (oi := { dst := some 5, op := Op.assign (Operand.tmp 40), type := 3, pos := "decl.go:227", after := #[{ on := 4, ground := Ground.data }, { on := 5, ground := Ground.chain }, { on := 0, ground := Ground.phase }, { on := 1, ground := Ground.phase }, { on := 2, ground := Ground.phase }, { on := 3, ground := Ground.phase }, { on := 4, ground := Ground.phase }, { on := 5, ground := Ground.phase }], guard := none }) (v := ?_) rfl (by kernel_rfl) (by kernel_rfl) (by kernel_rfl) (fun _ _ _ h => h) (Or.inl ⟨by rfl, fun w9 => by go_simp; try with_reducible rfl⟩) ?_
      (try simp only [Act.put, List.setIfInBounds_toArray, List.set_cons_zero, List.set_cons_succ])
      refine wpAny_take (i := 7) (oi := { dst := some 6, op := Op.assign (Operand.const (Value.int IntKind.i64 0)), type := 25, pos := "decl.go:227", after := #[{ on := 6, ground := Ground.chain }, { on := 0, ground := Ground.phase }, { on := 1, ground := Ground.phase }, { on := 2, ground := Ground.phase }, { on := 3, ground := Ground.phase }, { on := 4, ground := Ground.phase }, { on := 5, ground := Ground.phase }, { on := 6, ground := Ground.phase }], guard := none }) (v := ?_) rfl (by kernel_rfl) (by kernel_rfl) (by kernel_rfl) (fun _ _ _ h => h) (Or.inl ⟨by rfl, fun w9 => by go_simp; try with_reducible rfl⟩) ?_
      (try simp only [Act.put, List.setIfInBounds_toArray, List.set_cons_zero, List.set_cons_succ])
      refine wpAny_done (by kernel_rfl) ?_ _
      (try simp only [Exit.inBlock, Exit.then])
      go_wp2
      refine bodyPost_ret (results_cell3p rfl _ _ w.heap.size _ _ _ _ rfl HFIN.out.1 HU.out.2 rfl (HU.out.1.trans rfl)) rfl ⟨rfl, HFIN.out.2⟩
    exact AllReady.nil
  exact AllReady.nil
end Go.Proofs.YtgenpgfhjhcahaaGreatDoor
