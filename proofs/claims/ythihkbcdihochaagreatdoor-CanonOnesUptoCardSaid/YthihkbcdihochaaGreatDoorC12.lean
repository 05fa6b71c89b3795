/- Texts of ours, joined: CkS. -/
import Derived.Test.YthihkbcdihochaaGreatDoorRows
import Derived.WalkKit
import Derived.ProofKit
import Derived.OpenShut
import Derived.ShutString
import Derived.ChangeOld
import Derived.Below
import Derived.BigQuiet
import Derived.Deep.QuietTactic
import Derived.Lib.Hide
import Derived.Deep.RegionHeld3
import Derived.Lib.SlBytesConst
import Derived.Laws.CopyOwn
import Derived.Laws.CopyRow
import Derived.Lib.Bytes
import Derived.Deep.LoopGhost
import Derived.Deep.DeepFit
import Derived.Deep.DeepMust
import Derived.WalkSpells
import Derived.WalkLawsBesides
import Derived.Maps.OwnOps
import Derived.Maps.OwnSet
import Derived.Maps.Views
import Derived.Laws.EntriesVeiled
import Derived.Laws.Rows
import Derived.Maps.AppendAt
import Derived.Lib.SmallJoins
import Derived.Deep.AppendLies
import Derived.DeepKeys4
import Derived.MapViews
import Derived.Maps.Keyed
import Derived.WideKeyEntry
import Derived.Deep.RegionWith
import Derived.Test.YthihkbcdihochaaGreatDoorC1
import Derived.Test.YthihkbcdihochaaGreatDoorC4
import Derived.Test.YthihkbcdihochaaGreatDoorC2
import Derived.Test.YthihkbcdihochaaGreatDoorC3
import Derived.Test.YthihkbcdihochaaGreatDoorC5
import Derived.Test.YthihkbcdihochaaGreatDoorC10
import Derived.Test.YthihkbcdihochaaGreatDoorC11
/- check.spaced. -/
namespace Go.Proofs.YthihkbcdihochaaGreatDoor
open Go.ChangeShapes Go.WideShapes Go.ChangeAt Go.RowKit
set_option linter.unusedVariables false
/-- While the attributes' names are counted: the event's block, the map's. -/
def SpJ (w W : World) (cs : Array Value) (acc : List (List UInt8 × List UInt8)) : Prop := Below w.heap.size w W ∧ W.heap[w.heap.size]? = some (.cells cs 41) ∧ CntN W (w.heap.size + 1) acc
theorem SpJ.kept {w W W' : World} {cs : Array Value} {acc : List (List UInt8 × List UInt8)} (h : SpJ w W cs acc) (hb : Below W.heap.size W W') : SpJ w W' cs acc := by
  obtain ⟨h1, h2, D, h3, h4⟩ := h
  have hlt := nmMap_at h3
  exact ⟨h1.trans (hb.mono h1.size), by rw [hb.block _ (lt_of h2)]; exact h2, D, nmMap_keep h3 (hb.block _ hlt), h4⟩
theorem SpJ.start (w : World) (cs : Array Value) : SpJ w ((w.alloc (.cells cs 41)).alloc (.map #[] 0)) cs [] := by
  have h1 : Below w.heap.size w (w.alloc (.cells cs 41)) := (Below.refl _ w).alloc (Nat.le_refl _) _
  have h2 := CntN.start (w.alloc (.cells cs 41))
  rw [World.size_alloc] at h2
  exact ⟨h1.alloc h1.size _, by rw [Below.heap_alloc _ _ _ (by simp)]; exact hp_new _ _, h2⟩
theorem SpJ.drew {w W : World} {cs : Array Value} {acc : List (List UInt8 × List UInt8)} (h : SpJ w W cs acc) : SpJ w W.drew cs acc := ⟨below_drewN' (n := 1) h.1, h.2⟩
open Go.ChangeMaps in
theorem SpJ.twice {w W : World} {cs : Array Value} {acc acc' : List (List UInt8 × List UInt8)} (h : SpJ w W cs acc) (m1 m2 : Array MapEntry) (k1 k2 : Nat) (hc : CntN (setBlock (setBlock W (w.heap.size + 1) (.map m1 k1)) (w.heap.size + 1) (.map m2 k2)) (w.heap.size + 1) acc') : SpJ w (setBlock (setBlock W (w.heap.size + 1) (.map m1 k1)) (w.heap.size + 1) (.map m2 k2)) cs acc' ∧ ∀ b, b ≠ w.heap.size + 1 → (setBlock (setBlock W (w.heap.size + 1) (.map m1 k1)) (w.heap.size + 1) (.map m2 k2)).heap[b]? = W.heap[b]? := by
  obtain ⟨h1, h2, D, h3, h4⟩ := h
  obtain ⟨es, clock, hb, _⟩ := h3
  have hb1 := heap_setBlock_same hb (.map m1 k1)
  have ho : ∀ b, b ≠ w.heap.size + 1 → (setBlock (setBlock W (w.heap.size + 1) (.map m1 k1)) (w.heap.size + 1) (.map m2 k2)).heap[b]? = W.heap[b]? := fun b hne => by rw [heap_setBlock_other hb1 _ hne, heap_setBlock_other hb _ hne]
  refine ⟨⟨⟨h1.os, h1.tape, h1.output, by have := h1.size; simpa [setBlock] using this, fun i hi => ?_⟩, ?_, hc⟩, ho⟩
  · rw [ho _ (by omega)]; exact h1.block i hi
  · rw [ho _ (by omega)]; exact h2
theorem onceB_app (acc : List (List UInt8 × List UInt8)) (x : List UInt8 × List UInt8) (t : List (List UInt8 × List UInt8)) (h : (decide (x = ([], xmlnsN)) || hasNm acc x) = true) : onceB acc (x :: t) = false := by rw [onceB, if_pos h]
theorem onceB_go (acc : List (List UInt8 × List UInt8)) (x : List UInt8 × List UInt8) (t : List (List UInt8 × List UInt8)) (h : (decide (x = ([], xmlnsN)) || hasNm acc x) = false) : onceB acc (x :: t) = onceB (acc ++ [x]) t := by rw [onceB, if_neg (by rw [h]; simp)]
set_option maxRecDepth 100000 in
set_option maxHeartbeats 8000000 in
theorem spaced_c (k : Int) (sp lo tx : List UInt8) (A : Option Addr) (n cap : Nat) (ats : List (List UInt8 × List UInt8 × List UInt8)) (w : World) (h : RRd cA 3 w w.heap.size A n cap ats) (hm : n ≤ 100000) (hs : ∀ a ∈ ats, shortNm (a.1, a.2.1)) :
    Calls Tryz.prog 211 #[.agg #[.int .i64 k, .string ⟨sp.toArray⟩, .string ⟨lo.toArray⟩, .slice A n cap, .string ⟨tx.toArray⟩]] w fun e w' => e = .returned (.bool (spacedB ⟨k, sp, lo, ats, tx⟩)) ∧ Below w.heap.size w w' := by
  have HP : Hid (∀ W, Below w.heap.size w W → RRd cA 3 W W.heap.size A n cap ats) := Lib.hid fun W hb => (h.below hb).more hb.size
  have HLN : Hid (ats.length = n) := Lib.hid h.len
  have HS := Lib.hid hs
  have HNL : Hid ((namesE ⟨k, sp, lo, ats, tx⟩).length ≤ n + 1) := Lib.hid (by
    have := h.len
    unfold namesE namesA
    split <;> simp <;> omega)
  have CN : Hid (∀ W, Below w.heap.size w W → Calls Tryz.prog 235 #[.agg #[.int .i64 k, .string ⟨sp.toArray⟩, .string ⟨lo.toArray⟩, .slice A n cap, .string ⟨tx.toArray⟩]] W fun e w' => ∃ A2 c2, e = .returned (.slice A2 (namesE ⟨k, sp, lo, ats, tx⟩).length c2) ∧ RRd cN 2 w' w'.heap.size A2 (namesE ⟨k, sp, lo, ats, tx⟩).length c2 (namesE ⟨k, sp, lo, ats, tx⟩) ∧ Below W.heap.size W w') := Lib.hid fun W hb => ckNames_c k sp lo tx A n cap ats W ((h.below hb).more hb.size) hm
  have HR0 : Hid (spacedB ⟨k, sp, lo, ats, tx⟩ = (onceB (namesA (ats.take 0)) (namesA (ats.drop 0)) && nowhereB (namesE ⟨k, sp, lo, ats, tx⟩))) := Lib.hid rfl
  have J0 := Lib.hid (SpJ.start w #[.int .i64 k, .string ⟨sp.toArray⟩, .string ⟨lo.toArray⟩, .slice A n cap, .string ⟨tx.toArray⟩])
  have JC := Lib.hid (CJ.start 41 w #[.int .i64 k, .string ⟨sp.toArray⟩, .string ⟨lo.toArray⟩, .slice A n cap, .string ⟨tx.toArray⟩])
  have z2 : ((w.alloc (.cells #[.int .i64 k, .string ⟨sp.toArray⟩, .string ⟨lo.toArray⟩, .slice A n cap, .string ⟨tx.toArray⟩] 41)).alloc (.map #[] 0)).cell? ⟨w.heap.size, 3, none⟩ = some (.slice A n cap) := cell_of 3 J0.out.2.1
  clear h hs
  generalize spacedB ⟨k, sp, lo, ats, tx⟩ = R at *
  have hR9 : nowhereB (namesE ⟨k, sp, lo, ats, tx⟩) = !(namesE ⟨k, sp, lo, ats, tx⟩).any (fun x => decide (x.1 = xmlnsS)) := (all_any _ _ _ (fun x => (Bool.not_not _).symm)).symm
  generalize namesE ⟨k, sp, lo, ats, tx⟩ = l at *
  have hmm := @run_makeMap Tryz.prog
  go_enter Tryz.func211, Tryz.ntmps211
  go_wp2
  clear hmm
  go_loopg [10] (n) (fun g i wr => ∃ t : Nat, i = .int .i64 (t : Int) ∧ t ≤ n ∧ Hid (g + t = n) ∧ Hid (R = (onceB (namesA (ats.take t)) (namesA (ats.drop t)) && nowhereB l)) ∧ Hid (SpJ w wr #[.int .i64 k, .string ⟨sp.toArray⟩, .string ⟨lo.toArray⟩, .slice A n cap, .string ⟨tx.toArray⟩] (namesA (ats.take t))))
  case atStart => exact ⟨0, rfl, Nat.zero_le _, Lib.hid rfl, HR0, J0⟩
  case round =>
    obtain ⟨t, rfl, ht, hg, HA, HJ⟩ := hrel
    have ht0 : (0 : Int) ≤ (t : Int) := by omega
    have ht9 : (t : Int) ≤ 100000 := by omega
    by_cases htn : t < n
    · have hti : (t : Int) < (n : Int) := by omega
      obtain ⟨b1, o1, x, rfl, hb1, hx, hc1⟩ := (HP.out _ HJ.out.1).cell htn
      have hsx := HS.out x (List.mem_of_getElem? hx)
      have HSN := Lib.hid (namesA_snoc hx)
      have hdr : ats.drop t = x :: ats.drop (t + 1) := by
        have hl := (List.getElem?_eq_some_iff.1 hx).1
        have he : ats[t] = x := by rw [List.getElem?_eq_getElem hl] at hx; exact Option.some.inj hx
        rw [List.drop_eq_getElem_cons hl, he]
      have hA := HA.out
      rw [hdr] at hA
      obtain ⟨xs, xl, xv⟩ := x
      have y0 : wr.cell? ⟨b1, o1 + t * 3, none⟩ = some (.string ⟨xs.toArray⟩) := by rw [show o1 + t * 3 = o1 + (t * 3 + 0) by omega]; exact hc1 0 _ rfl
      have y1 : wr.cell? ⟨b1, o1 + t * 3 + 1, none⟩ = some (.string ⟨xl.toArray⟩) := by rw [show o1 + t * 3 + 1 = o1 + (t * 3 + 1) by omega]; exact hc1 1 _ rfl
      have y2 : wr.cell? ⟨b1, o1 + t * 3 + 2, none⟩ = some (.string ⟨xv.toArray⟩) := by rw [show o1 + t * 3 + 2 = o1 + (t * 3 + 2) by omega]; exact hc1 2 _ rfl
      have hA2 : R = (onceB (namesA (ats.take t)) ((xs, xl) :: namesA (ats.drop (t + 1))) && nowhereB l) := hA
      have HLEN : Hid ((namesA (ats.take t)).length ≤ 100000) := Lib.hid (by simp [namesA]; omega)
      have HA2 := Lib.hid hA2
      clear hb1 hx hc1 hdr hA hA2 HA
      simp only at hsx HSN
      generalize namesA (ats.take t) = acc at *
      generalize hac2 : namesA (ats.take (t + 1)) = acc2 at *
      generalize hrest : namesA (ats.drop (t + 1)) = rest at *
      have HAC2 := Lib.hid hac2
      have HREST := Lib.hid hrest
      clear hac2 hrest
      have J1 := Lib.hid (HJ.out.kept ((Below.refl _ wr).alloc (Nat.le_refl _) (.cells #[.string ⟨xs.toArray⟩, .string ⟨xl.toArray⟩, .string ⟨xv.toArray⟩] 112)))
      have q1 := hp_new wr (.cells #[.string ⟨xs.toArray⟩, .string ⟨xl.toArray⟩, .string ⟨xv.toArray⟩] 112)
      have hkey := keyNm_of hsx
      obtain ⟨D, hown, hcnt⟩ := J1.out.2.2
      obtain ⟨cc, hcl, hce, hhas⟩ := hcnt (xs, xl) hsx
      obtain ⟨c, st, es1, clock1, e1, e2, e3, e4, e5⟩ := entry_own lawNmK Tryz.underlying316 Tryz.underlying3 nmZero (by have := HLEN.out; unfold maxLen; omega) hown hkey
      rw [hce] at e1
      cases e1
      have hwf : (Lit.int .i64 ((cc : Int) + 1)).wf = true := wf_smallN cc (by have := HLEN.out; omega)
      obtain ⟨es2, clock2, f1, f2⟩ := e5 (.int .i64 ((cc : Int) + 1)) _ [] (plainElem_int Tryz.underlying3 hwf)
      have hbX : (wr.alloc (.cells #[.string ⟨xs.toArray⟩, .string ⟨xl.toArray⟩, .string ⟨xv.toArray⟩] 112)).drew.heap[w.heap.size + 1]? = some (.map _ _) := (Classical.choose_spec (Classical.choose_spec hown)).1
      have m1 := e2 (wr.alloc (.cells #[.string ⟨xs.toArray⟩, .string ⟨xl.toArray⟩, .string ⟨xv.toArray⟩] 112)).drew rfl
      have m2 := e3 (wr.alloc (.cells #[.string ⟨xs.toArray⟩, .string ⟨xl.toArray⟩, .string ⟨xv.toArray⟩] 112)).drew rfl
      have hs1 := Go.ChangeMaps.heap_setBlock_same hbX (.map es1 clock1)
      have m3 := e4 _ hs1
      have m4 := f1 _ hs1
      have hs2 := Go.ChangeMaps.heap_setBlock_same hs1 (.map es2 clock2)
      have x0 := cell_of 0 q1
      have x1 := cell_of 1 q1
      have x2 := cell_of 2 q1
      have JX := Lib.hid J1.out.drew
      have HCN := Lib.hid (cntN_snoc (p := (xs, xl)) hsx (nmMap_is hown) hcnt hcl)
      have HBN : Hid (w.heap.size + 1 < wr.heap.size) := Lib.hid (by obtain ⟨_, _, D', h3, _⟩ := HJ.out; exact nmMap_at h3)
      have HWK := Lib.hid hsx
      have HCL := Lib.hid hcl
      have HISM := Lib.hid (nmMap_is hown)
      have HHAS := Lib.hid hhas
      have HF2 := Lib.hid f2
      have HS2 := Lib.hid hs2
      have HQ1 := Lib.hid q1
      clear hhas hcl hsx e2 e3 e4 e5 f1 f2 hcnt hce hbX hs1 hs2 hown hkey q1
      have HY : Hid (SpJ w (Go.ChangeMaps.setBlock (Go.ChangeMaps.setBlock (wr.alloc (.cells #[.string ⟨xs.toArray⟩, .string ⟨xl.toArray⟩, .string ⟨xv.toArray⟩] 112)).drew (w.heap.size + 1) (.map es1 clock1)) (w.heap.size + 1) (.map es2 clock2)) _ acc2 ∧ ∀ b, b ≠ w.heap.size + 1 → _) := Lib.hid (JX.out.twice es1 es2 clock1 clock2 (acc' := acc2) (by
        rw [HSN.out]
        exact ⟨_, by rw [List.length_append]; exact HF2.out _ HS2.out, HCN.out⟩))
      have HQY := Lib.hid ((HY.out.2 wr.heap.size (by have := HBN.out; omega)).trans HQ1.out)
      have HLK : Hid ((Instr.lookup 316 (.map (some (w.heap.size + 1))) (.agg #[.string ⟨xs.toArray⟩, .string ⟨xl.toArray⟩]) false).run Tryz.prog (Go.ChangeMaps.setBlock (Go.ChangeMaps.setBlock (wr.alloc (.cells #[.string ⟨xs.toArray⟩, .string ⟨xl.toArray⟩, .string ⟨xv.toArray⟩] 112)).drew (w.heap.size + 1) (.map es1 clock1)) (w.heap.size + 1) (.map es2 clock2)) = .ok (.int .i64 ((cc : Int) + 1)) (Go.ChangeMaps.setBlock (Go.ChangeMaps.setBlock (wr.alloc (.cells #[.string ⟨xs.toArray⟩, .string ⟨xl.toArray⟩, .string ⟨xv.toArray⟩] 112)).drew (w.heap.size + 1) (.map es1 clock1)) (w.heap.size + 1) (.map es2 clock2))) := Lib.hid (by
        obtain ⟨c', g1, g2, _⟩ := (HF2.out _ HS2.out).lookup_int lawNm Tryz.underlying316 Tryz.underlying3 (nmZero _) (keyNm_of HWK.out)
        rw [Go.Maps.atKey_put_same HISM.out (by simp [WideAt.IsKeyLit, keyNm])] at g2
        cases g2
        exact g1)
      clear HF2 HS2 JX HQ1 HCN
      have hcb : (cc : Int) ≤ 100000 := by have := HCL.out; have := HLEN.out; omega
      have hcb0 : (0 : Int) ≤ (cc : Int) := by omega
      go_wp2_with fail
      go_region
      clear m1 m2 m3 m4 x0 x1 x2 y0 y1 y2
      generalize Go.ChangeMaps.setBlock (Go.ChangeMaps.setBlock (wr.alloc (.cells #[.string ⟨xs.toArray⟩, .string ⟨xl.toArray⟩, .string ⟨xv.toArray⟩] 112)).drew (w.heap.size + 1) (.map es1 clock1)) (w.heap.size + 1) (.map es2 clock2) = Y at *
      have hlk := HLK.out
      have x0 := cell_of 0 HQY.out
      have x1 := cell_of 1 HQY.out
      have x2 := cell_of 2 HQY.out
      have hh := HHAS.out
      by_cases hbad : (xs, xl) = (([], xmlnsN) : List UInt8 × List UInt8)
      · have e1 : xs = [] := congrArg Prod.fst hbad
        have e2 : xl = xmlnsN := congrArg Prod.snd hbad
        have e3 := onceB_app acc (xs, xl) rest (by rw [decide_eq_true hbad]; rfl)
        have HR3 : Hid (R = false) := Lib.hid (by rw [HA2.out, e3]; rfl)
        clear HA2 e3 hbad hh
        subst e1
        unfold xmlnsN at e2
        subst e2
        clear hcb hcb0 hlk ht9
        go_wp2
        go_ret
        exact ⟨by rw [HR3.out]; rfl, HY.out.1.1⟩
      · have hl9 : xs = [] → (xl == xmlnsN) = false := fun e => by
          rw [Bool.eq_false_iff]
          intro h
          exact hbad (by rw [e, beq_iff_eq.1 h])
        cases cc with
        | zero =>
          have e3 := onceB_go acc (xs, xl) rest (by rw [decide_eq_false hbad, hh]; rfl)
          have HA3 : Hid (R = (onceB acc2 rest && nowhereB l)) := Lib.hid (by rw [HA2.out, e3, HSN.out])
          clear HA2 e3 hbad hh
          unfold xmlnsN at hl9
          cases xs with
          | nil =>
            have hl8 := hl9 rfl
            clear hl9
            go_wp2
            go_roundg (n - (t + 1))
            case measure => have := hg.out; omega
            case rel => exact ⟨t + 1, by go_num, by omega, Lib.hid (by have := hg.out; omega), by rw [HAC2.out, HREST.out]; exact HA3, by rw [HAC2.out]; exact Lib.hid HY.out.1⟩
          | cons a tl =>
            clear hl9
            go_wp2
            go_roundg (n - (t + 1))
            case measure => have := hg.out; omega
            case rel => exact ⟨t + 1, by go_num, by omega, Lib.hid (by have := hg.out; omega), by rw [HAC2.out, HREST.out]; exact HA3, by rw [HAC2.out]; exact Lib.hid HY.out.1⟩
        | succ c1 =>
          have e3 := onceB_app acc (xs, xl) rest (by rw [hh]; simp)
          have HR3 : Hid (R = false) := Lib.hid (by rw [HA2.out, e3]; rfl)
          have hc9 : (c1 : Int) ≤ 100000 := by have := HCL.out; have := HLEN.out; omega
          have hc0 : (0 : Int) ≤ (c1 : Int) := by omega
          have hlt : (1 : Int) < (c1 : Int) + 1 + 1 := by omega
          clear HA2 e3 hbad hh
          unfold xmlnsN at hl9
          cases xs with
          | nil =>
            have hl8 := hl9 rfl
            clear hl9
            go_wp2
            go_ret
            exact ⟨by rw [HR3.out]; rfl, HY.out.1.1⟩
          | cons a tl =>
            clear hl9
            go_wp2
            go_ret
            exact ⟨by rw [HR3.out]; rfl, HY.out.1.1⟩
    · have hti : ¬ (t : Int) < (n : Int) := by omega
      have HA2 : Hid (R = !l.any (fun x => decide (x.1 = xmlnsS))) := Lib.hid (by
        rw [HA.out, List.drop_of_length_le (by rw [HLN.out]; omega), ← hR9]
        rfl)
      have z0 := cell_of 0 HJ.out.2.1
      have z1 := cell_of 1 HJ.out.2.1
      have z2 := cell_of 2 HJ.out.2.1
      have z3 := cell_of 3 HJ.out.2.1
      have z4 := cell_of 4 HJ.out.2.1
      have HBJ := Lib.hid HJ.out.1
      have C1 := Lib.hid (CN.out wr HBJ.out)
      have C2 : Hid (∀ (W : World) (A2 : Option Addr) (c2 : Nat), RRd cN 2 W W.heap.size A2 l.length c2 l → Calls Tryz.prog 234 #[.slice A2 l.length c2, .func (.func 242) #[] #[]] W fun e w' => e = .returned (.bool (l.any (fun x => decide (x.1 = xmlnsS)))) ∧ Below W.heap.size W w') := Lib.hid fun W A2 c2 hr => containsFunc_c _ (fun x => decide (x.1 = xmlnsS)) A2 _ c2 _ W hr (by have := HNL.out; omega) (enters_of Tryz.func242 (by kernel_rfl) rfl) (fun x hx W' hb' => spaced1_c x.1 x.2 W')
      clear HA HP HLN HS HNL CN HJ hR9
      generalize l.any (fun x => decide (x.1 = xmlnsS)) = b at *
      generalize l.length = m at *
      go_wp2_with fail
      refine C1.out.mono ?_
      rintro e w1 ⟨A2, c2, rfl, hr, hb⟩
      have HB1 := Lib.hid (HBJ.out.trans (hb.mono HBJ.out.size))
      have C3 := Lib.hid (C2.out w1 A2 c2 hr)
      clear hr hb C2 C1
      go_wp2_with fail
      refine C3.out.mono ?_
      rintro e w2 ⟨rfl, hb⟩
      have HB2 := Lib.hid (HB1.out.trans (hb.mono HB1.out.size))
      clear hb
      go_wp2
      go_ret
      exact ⟨by rw [HA2.out]; rfl, HB2.out⟩
end Go.Proofs.YthihkbcdihochaaGreatDoor
