/- Texts of ours, joined: GcT. -/
import Derived.Test.YtfemfgkcgboopaaGreatDoorRows
import Derived.WalkKit
import Derived.ProofKit
import Derived.OpenShut
import Derived.ShutString
import Derived.ChangeOld
import Derived.Below
import Derived.BigQuiet
import Derived.Deep.QuietTactic
import Derived.Lib.Hide
import Derived.Deep.RegionHeld3
import Derived.Lib.SlBytesConst
import Derived.Laws.CopyOwn
import Derived.Laws.CopyRow
import Derived.Lib.Bytes
import Derived.Deep.LoopGhost
import Derived.Deep.DeepFit
import Derived.Deep.DeepMust
import Derived.WalkSpells
import Derived.WalkLawsBesides
import Derived.Laws.EntriesVeiled
import Derived.Laws.Rows
import Derived.Maps.OwnOps
import Derived.Maps.OwnSet
import Derived.Maps.Views
import Derived.Maps.AppendAt
import Derived.Deep.AppendLies
import Derived.DeepKeys4
import Derived.MapViews
import Derived.Maps.Keyed
import Derived.Deep.RegionLaw
import Derived.Deep.RegionWith
import Derived.StillTailTactics
import Derived.Deep.CutRange
import Derived.Test.YtfemfgkcgboopaaGreatDoorQ1
import Derived.Test.YtfemfgkcgboopaaGreatDoorQ13
import Derived.Test.YtfemfgkcgboopaaGreatDoorQ16
import Derived.Test.YtfemfgkcgboopaaGreatDoorQ2
import Derived.Test.YtfemfgkcgboopaaGreatDoorQ3
import Derived.Test.YtfemfgkcgboopaaGreatDoorQ4
import Derived.Test.YtfemfgkcgboopaaGreatDoorQ9
import Derived.Test.YtfemfgkcgboopaaGreatDoorQ15
import Derived.Test.YtfemfgkcgboopaaGreatDoorQ14
import Derived.Test.YtfemfgkcgboopaaGreatDoorQ10
import Derived.Test.YtfemfgkcgboopaaGreatDoorQ17
import Derived.Test.YtfemfgkcgboopaaGreatDoorQ23
import Derived.Test.YtfemfgkcgboopaaGreatDoorQ24
import Derived.Test.YtfemfgkcgboopaaGreatDoorQ19
import Derived.Test.YtfemfgkcgboopaaGreatDoorQ20
import Derived.Test.YtfemfgkcgboopaaGreatDoorQ32
/- What expanding a text costs, by the document. -/
namespace Go.Proofs.YtfemfgkcgboopaaGreatDoor
open Go.ChangeShapes Go.WideShapes Go.ChangeAt Go.RowKit
set_option linter.unusedVariables false
theorem CJ.set {T : TypeId} {w W : World} {rs : Array Value} (h : CJ T w W rs) (i : Nat) (v : Value) : CJ T w (W.setCell ⟨w.heap.size, i, none⟩ v) (rs.setIfInBounds i v) :=
  ⟨h.1.setCell (p := ⟨w.heap.size, i, none⟩) (Nat.le_refl _) _, hp_set h.2⟩
theorem CJ.drew {T : TypeId} {w W : World} {rs : Array Value} (h : CJ T w W rs) : CJ T w W.drew rs := h.kept (Below.drew (Below.refl _ _))
def cZ (z : Nat × Nat × Nat) : List Value := [.int .i64 (z.1 : Nat), .int .i64 (z.2.1 : Nat), .int .i64 (z.2.2 : Nat)]
/-- What a reference costs, where the costs of entities are known so far. -/
def refZ (g : List EntT) (zc : List Nat) (r : Nat × Nat × List UInt8) : Nat := if r.2.2 ∈ g.map EntT.nm then zc.getD ((g.map EntT.nm).idxOf r.2.2) 0 else 0
def costT (g : List EntT) (zc : List Nat) (s : List UInt8) : Nat := satN (s.length + ((rfsA s 0).map (refZ g zc)).sum)
def costK (g : List EntT) (zc : List Nat) (s : List UInt8) (k : Nat) : Nat := satN (s.length + (((rfsA s 0).take k).map (refZ g zc)).sum)
theorem costK_snoc {g : List EntT} {zc : List Nat} {s : List UInt8} {k : Nat} {r : Nat × Nat × List UInt8} (h : (rfsA s 0)[k]? = some r) (hz : refZ g zc r ≤ 9223372036854775807) : costK g zc s (k + 1) = satN (costK g zc s k + refZ g zc r) := by
  unfold costK
  rw [List.take_add_one, h, List.map_append, List.sum_append]
  simp only [Option.toList_some, List.map_cons, List.map_nil, List.sum_cons, List.sum_nil, Nat.add_zero]
  rw [← Nat.add_assoc]
  have := satN_add (s.length + ((List.take k (rfsA s 0)).map (refZ g zc)).sum) (refZ g zc r)
  rw [satN_id hz] at this
  exact this.symm
set_option maxRecDepth 100000 in
set_option maxHeartbeats 4000000 in
theorem rholdNeg_c (y : Int) (hy : y < 0) (hy2 : -9000000000 ≤ y) (w : World) : Calls Tryz.prog 57 #[.int .i64 y] w fun e w' => e = .returned (.int .i64 0) ∧ w = w' := by
  go_enter Tryz.func57, Tryz.ntmps57
  go_wp2
  go_ret
  exact ⟨rfl, rfl⟩
set_option maxRecDepth 100000 in
set_option maxHeartbeats 4000000 in
theorem rAddNeg_c (x : Nat) (y : Int) (hx : x ≤ 9223372036854775807) (hy : y < 0) (hy2 : -9000000000 ≤ y) (w : World) : Calls Tryz.prog 38 #[.int .i64 x, .int .i64 y] w fun e w' => e = .returned (.int .i64 (satN x : Nat)) ∧ w = w' := by
  have CX : Hid (∀ W, Calls Tryz.prog 57 #[.int .i64 x] W fun e w' => e = .returned (.int .i64 x) ∧ W = w') := Lib.hid fun W => rhold_c x W
  have CY : Hid (∀ W, Calls Tryz.prog 57 #[.int .i64 y] W fun e w' => e = .returned (.int .i64 0) ∧ W = w') := Lib.hid fun W => rholdNeg_c y hy hy2 W
  have HS : Hid (satN x = x) := Lib.hid (satN_id hx)
  have hx2 : ¬ (9223372036854775807 : Int) - 0 < (x : Int) := by omega
  have hx3 : ¬ (9223372036854775807 : Int) < (x : Int) := by omega
  go_enter Tryz.func38, Tryz.ntmps38
  go_wp2_with fail
  refine (CX.out _).mono ?_
  rintro e wq ⟨rfl, rfl⟩
  go_wp2_with fail
  refine (CY.out _).mono ?_
  rintro e wq ⟨rfl, rfl⟩
  go_wp2
  go_ret
  exact ⟨by rw [HS.out]; rfl, rfl⟩
set_option maxRecDepth 100000 in
set_option maxHeartbeats 32000000 in
/-- ref20.text. -/
theorem rfText_c (A : Option Addr) (n cap : Nat) (g : List EntT) (ZA : Option Addr) (zcap : Nat) (zs : List (Nat × Nat × Nat)) (D0 : Nat) (s : List UInt8) (w : World) (h : RRd cE 6 w w.heap.size A n cap g) (hz : RRd cZ 3 w w.heap.size ZA n zcap zs) (hm : n ≤ 1000) (hzb : ∀ z ∈ zs, z.1 ≤ 9223372036854775807 ∧ z.2.1 ≤ 9223372036854775807 ∧ z.2.2 ≤ D0) (hD : D0 ≤ 1000000) (hs : s.length ≤ 20000) :
    Calls Tryz.prog 19 #[.slice A n cap, .slice ZA n zcap, .string ⟨s.toArray⟩] w fun e w' => ∃ L Dd : Nat, e = .returned (.agg #[.int .i64 (costT g (zs.map (·.1)) s : Nat), .int .i64 (L : Nat), .int .i64 (Dd : Nat)]) ∧ L ≤ 9223372036854775807 ∧ Dd ≤ D0 + 1 ∧ Below w.heap.size w w' := by
  have HZB := Lib.hid hzb
  have HLG : Hid (g.length = n) := Lib.hid h.len
  have HLZ : Hid (zs.length = n) := Lib.hid hz.len
  have HP : Hid (∀ W, Below w.heap.size w W → RRd cE 6 W W.heap.size A n cap g ∧ RRd cZ 3 W W.heap.size ZA n zcap zs) := Lib.hid fun W hb => ⟨(h.below hb).more hb.size, (hz.below hb).more hb.size⟩
  have ka := (Below.refl w.heap.size w).alloc (Nat.le_refl _) (.cells #[.int .i64 0, .int .i64 0, .int .i64 0] 27)
  have hq0 := hp_new w (.cells #[.int .i64 0, .int .i64 0, .int .i64 0] 27)
  have CA := Lib.hid (rfAll_c s (w.alloc (.cells #[.int .i64 0, .int .i64 0, .int .i64 0] 27)) hs)
  have hsz : (⟨s.toArray⟩ : ByteArray).size = s.length := by simp [ByteArray.size]
  have KA := Lib.hid ka
  have HQ0 := Lib.hid hq0
  have hql := rfsA_len s s.length 0 (by omega)
  clear h hz hzb ka hq0
  go_enter Tryz.func19, Tryz.ntmps19
  go_wp2_with fail
  refine CA.out.mono ?_
  rintro e w1 ⟨OA, oc, rfl, ho, hb1⟩
  obtain ⟨A1, c1, hv1, hr1⟩ := OwnC.rrd (c := cRf) (k := 3) (fun _ => rfl) (by decide) ho
  cases hv1
  have KB := Lib.hid (KA.out.trans (hb1.mono KA.out.size))
  have HQ1 : Hid (w1.heap[w.heap.size]? = some (.cells #[.int .i64 0, .int .i64 0, .int .i64 0] 27 (0, 0))) := Lib.hid ((hb1.block _ (by simp)).trans HQ0.out)
  have HRf : Hid (∀ W, Below w1.heap.size w1 W → RRd cRf 3 W W.heap.size OA (rfsA s 0).length oc (rfsA s 0)) := Lib.hid fun W hb => (hr1.below hb).more hb.size
  obtain ⟨q, hq⟩ : ∃ q, (rfsA s 0).length = q := ⟨_, rfl⟩
  have HQL := Lib.hid hq
  rw [hq] at HRf hql
  rw [hq]
  clear CA ho hb1 hr1 KA HQ0 hq
  have HC0 : Hid (CJ 27 w1 (w1.alloc (.cells #[.int .i64 (s.length : Nat), .int .i64 0, .int .i64 0] 27)) #[.int .i64 ((costK g (zs.map (·.1)) s 0 : Nat) : Int), .int .i64 ((0 : Nat) : Int), .int .i64 ((0 : Nat) : Int)]) := Lib.hid (by
    have : costK g (zs.map (·.1)) s 0 = s.length := by unfold costK; simp; exact satN_id (by omega)
    rw [this]
    exact CJ.start _ _ _)
  go_wp2_with fail
  go_loopg [8, 10] (q) (fun gg nv iv wr => ∃ (k : Nat) (N : Int) (L Dd : Nat), nv = .int .i64 N ∧ iv = .int .i64 (k : Int) ∧ k ≤ q ∧ Hid (gg + k = q) ∧ -(20000 * (k : Int)) ≤ N ∧ N ≤ 20000 + (k : Int) ∧ Hid (L ≤ 9223372036854775807 ∧ Dd ≤ D0 + 1) ∧ Hid (CJ 27 w1 wr #[.int .i64 ((costK g (zs.map (·.1)) s k : Nat) : Int), .int .i64 ((L : Nat) : Int), .int .i64 ((Dd : Nat) : Int)]))
  case atStart => exact ⟨0, _, 0, 0, rfl, rfl, Nat.zero_le _, Lib.hid rfl, by omega, by omega, Lib.hid ⟨Nat.zero_le _, Nat.zero_le _⟩, HC0⟩
  case round =>
    clear HC0
    obtain ⟨k, N, L, Dd, rfl, rfl, hk, hgk, hN1, hN2, HLD, HC⟩ := hrel
    have hk0 : (0 : Int) ≤ (k : Int) := by omega
    have hk9 : (k : Int) ≤ 20000 := by omega
    obtain ⟨cK, hcK⟩ : ∃ c, costK g (zs.map (·.1)) s k = c := ⟨_, rfl⟩
    have hcK9 : cK ≤ 9223372036854775807 := by rw [← hcK]; exact satN_le _
    have HCK := Lib.hid hcK
    rw [hcK] at HC
    clear hcK
    by_cases hkq : k < q
    · have hki : (k : Int) < (q : Int) := by omega
      obtain ⟨rb, ro, r, rfl, hrb, hr, hrc⟩ := (HRf.out wr HC.out.1).cell hkq
      have HRR := Lib.hid hr
      obtain ⟨f0, t0, nm⟩ := r
      have HFW : Hid (∀ W cs, CJ 27 w1 W cs → W.cell? ⟨rb, ro + k * 3, none⟩ = some (.int .i64 (f0 : Nat)) ∧ W.cell? ⟨rb, ro + k * 3 + 1, none⟩ = some (.int .i64 (t0 : Nat)) ∧ W.cell? ⟨rb, ro + k * 3 + 2, none⟩ = some (.string ⟨nm.toArray⟩) ∧ Below w.heap.size w W) := Lib.hid fun W cs hW => by
        obtain ⟨rb', ro', r', eA, hrb', hr', hrc'⟩ := (HRf.out W hW.1).cell hkq
        cases eA
        rw [hr] at hr'
        cases hr'
        exact ⟨by have := hrc' 0 _ rfl; rwa [show ro + (k * 3 + 0) = ro + k * 3 by omega] at this, by have := hrc' 1 _ rfl; rwa [show ro + (k * 3 + 1) = ro + k * 3 + 1 by omega] at this, by have := hrc' 2 _ rfl; rwa [show ro + (k * 3 + 2) = ro + k * 3 + 2 by omega] at this, KB.out.trans (hW.1.mono KB.out.size)⟩
      have hft : f0 ≤ t0 ∧ t0 ≤ s.length := by
        obtain ⟨k9, _, h2, h3, h4⟩ := rfsA_sub s s.length 0 (by omega) _ (List.mem_of_getElem? hr)
        have h5 := refOut_nx s k9 h4
        simp only [Prod.mk.injEq] at h3
        omega
      have hf9 : (f0 : Int) ≤ (t0 : Int) := by omega
      have ht9 : (t0 : Int) ≤ 20000 := by omega
      have hf0 : (0 : Int) ≤ (f0 : Int) := by omega
      obtain ⟨u0, u1, u2, hbw⟩ := HFW.out _ _ HC.out
      have FD := Lib.hid (rfFindE_c A n cap g nm wr (HP.out wr hbw).1 (by omega))
      clear hrb hr hrc hbw
      by_cases hmem : nm ∈ g.map EntT.nm
      · obtain ⟨ix, hix⟩ : ∃ i, (g.map EntT.nm).idxOf nm = i := ⟨_, rfl⟩
        have hfn : fndN (g.map EntT.nm) nm = (ix : Int) := by unfold fndN; rw [if_pos hmem, hix]
        have hixn : ix < n := by rw [← HLG.out, ← hix]; have := List.idxOf_lt_length_iff.2 hmem; simpa using this
        rw [hfn] at FD
        have hix0 : (ix : Int) ≥ 0 := by omega
        have hix1 : (0 : Int) ≤ (ix : Int) := by omega
        have hix2 : (ix : Int) < (n : Int) := by omega
        obtain ⟨zb, zo, z, hZA, hzb', hzi, hzc⟩ := (HP.out wr (HFW.out _ _ HC.out).2.2.2).2.cell hixn
        subst hZA
        obtain ⟨z0, z1, z2⟩ := z
        have hzz := HZB.out _ (List.mem_of_getElem? hzi)
        simp only at hzz
        have HZW : Hid (∀ W cs, CJ 27 w1 W cs → W.cell? ⟨zb, zo + ix * 3, none⟩ = some (.int .i64 (z0 : Nat)) ∧ W.cell? ⟨zb, zo + ix * 3 + 1, none⟩ = some (.int .i64 (z1 : Nat)) ∧ W.cell? ⟨zb, zo + ix * 3 + 2, none⟩ = some (.int .i64 (z2 : Nat))) := Lib.hid fun W cs hW => by
          obtain ⟨zb', zo', z', eA, hb', hr', hrc'⟩ := (HP.out W (HFW.out _ _ hW).2.2.2).2.cell hixn
          cases eA
          rw [hzi] at hr'
          cases hr'
          exact ⟨by have := hrc' 0 _ rfl; rwa [show zo + (ix * 3 + 0) = zo + ix * 3 by omega] at this, by have := hrc' 1 _ rfl; rwa [show zo + (ix * 3 + 1) = zo + ix * 3 + 1 by omega] at this, by have := hrc' 2 _ rfl; rwa [show zo + (ix * 3 + 2) = zo + ix * 3 + 2 by omega] at this⟩
        have hrz : refZ g (zs.map (·.1)) (f0, t0, nm) = z0 := by
          unfold refZ
          simp only
          rw [if_pos hmem, hix, List.getD_eq_getElem?_getD, List.getElem?_map, hzi]
          rfl
        have HSN : Hid (costK g (zs.map (·.1)) s (k + 1) = satN (cK + z0)) := Lib.hid (by rw [costK_snoc HRR.out (by rw [hrz]; exact hzz.1), HCK.out, hrz])
        have HADD := Lib.hid fun (x y : Nat) hx hy W => rAdd_c x y hx hy W
        have hL9 := HLD.out
        clear hmem hix hfn hrz hzi hzc hzb'
        go_wp2_with fail
        refine FD.out.mono ?_
        rintro e wq ⟨rfl, rfl⟩
        go_wp2_with fail
        go_quiet (fail)
        have HC1 : Hid (CJ 27 w1 (wr.drewN nq) #[.int .i64 ((cK : Nat) : Int), .int .i64 ((L : Nat) : Int), .int .i64 ((Dd : Nat) : Int)]) := Lib.hid (HC.out.kept (below_drewN' (Below.refl _ _)))
        clear u0 u1 u2 HC FD
        generalize wr.drewN nq = W1 at *
        go_wp2_with fail
        have HC1d := Lib.hid HC1.out.drew
        have v0 := cell_of 0 HC1d.out.2
        have fr0 := free_of 0 HC1d.out.2
        obtain ⟨zz0, zz1, zz2⟩ := HZW.out _ _ HC1d.out
        have AD := Lib.hid (HADD.out cK z0 hcK9 hzz.1 W1.drew)
        refine wp_region_still_tail 9 (by kernel_rfl) (by kernel_rfl) ?_
        simp only [List.take_succ_cons, List.take_zero, List.drop_succ_cons, List.drop_zero]
        repeat still_step
        still_call (AD.out.mono fun e w' ⟨he, hw⟩ => ⟨he, hw.symm⟩)
        repeat still_step
        refine wpStill_nil ?_
        change wpList _ _ _ _ _ W1.drew
        have HC1e := HC1d
        clear HC1d HC1 zz0 zz1 zz2 AD
        generalize W1.drew = W1d at *
        go_wp2_with fail
        have HC2 : Hid (CJ 27 w1 (W1d.setCell ⟨w1.heap.size, 0, none⟩ (.int .i64 ((satN (cK + z0) : Nat) : Int))) #[.int .i64 ((satN (cK + z0) : Nat) : Int), .int .i64 ((L : Nat) : Int), .int .i64 ((Dd : Nat) : Int)]) := Lib.hid (HC1e.out.set 0 _)
        clear HC1e v0 fr0
        generalize W1d.setCell ⟨w1.heap.size, 0, none⟩ (.int .i64 ((satN (cK + z0) : Nat) : Int)) = W2 at *
        go_wp2_with fail
        have HC2d := Lib.hid HC2.out.drew
        have v0 := cell_of 1 HC2d.out.2
        have fr0 := free_of 1 HC2d.out.2
        obtain ⟨zz0, zz1, zz2⟩ := HZW.out _ _ HC2d.out
        have AD := Lib.hid (HADD.out L z1 hL9.1 hzz.2.1 W2.drew)
        refine wp_region_still_tail 9 (by kernel_rfl) (by kernel_rfl) ?_
        simp only [List.take_succ_cons, List.take_zero, List.drop_succ_cons, List.drop_zero]
        repeat still_step
        still_call (AD.out.mono fun e w' ⟨he, hw⟩ => ⟨he, hw.symm⟩)
        repeat still_step
        refine wpStill_nil ?_
        change wpList _ _ _ _ _ W2.drew
        have HC2e := HC2d
        clear HC2d HC2 zz0 zz1 zz2 AD
        generalize W2.drew = W2d at *
        go_wp2_with fail
        have HC3 : Hid (CJ 27 w1 (W2d.setCell ⟨w1.heap.size, 1, none⟩ (.int .i64 ((satN (L + z1) : Nat) : Int))) #[.int .i64 ((satN (cK + z0) : Nat) : Int), .int .i64 ((satN (L + z1) : Nat) : Int), .int .i64 ((Dd : Nat) : Int)]) := Lib.hid (HC2e.out.set 1 _)
        clear HC2e v0 fr0
        generalize W2d.setCell ⟨w1.heap.size, 1, none⟩ (.int .i64 ((satN (L + z1) : Nat) : Int)) = W3 at *
        go_wp2_with fail
        have HC3d := Lib.hid HC3.out.drew
        have v0 := cell_of 2 HC3d.out.2
        have fr0 := free_of 2 HC3d.out.2
        obtain ⟨zz0, zz1, zz2⟩ := HZW.out _ _ HC3d.out
        have hz29 : (z2 : Int) ≤ 1000000 := by have := hzz.2.2; omega
        have hmx : max (Dd : Int) ((z2 : Int) + 1) = ((max Dd (z2 + 1) : Nat) : Int) := by omega
        refine wp_region_still_tail 10 (by kernel_rfl) (by kernel_rfl) ?_
        simp only [List.take_succ_cons, List.take_zero, List.drop_succ_cons, List.drop_zero]
        repeat still_step
        refine wpStill_nil ?_
        change wpList _ _ _ _ _ W3.drew
        have HC3e := HC3d
        clear HC3d HC3 zz0 zz1 zz2
        generalize W3.drew = W3d at *
        go_wp2_with fail
        have HC4 : Hid (CJ 27 w1 (W3d.setCell ⟨w1.heap.size, 2, none⟩ (.int .i64 ((max Dd (z2 + 1) : Nat) : Int))) #[.int .i64 ((costK g (zs.map (·.1)) s (k + 1) : Nat) : Int), .int .i64 ((satN (L + z1) : Nat) : Int), .int .i64 ((max Dd (z2 + 1) : Nat) : Int)]) := Lib.hid (by rw [HSN.out]; exact HC3e.out.set 2 _)
        go_roundg (q - (k + 1))
        case measure => have := hgk.out; omega
        case rel => exact ⟨k + 1, N - ((t0 : Int) - (f0 : Int)), satN (L + z1), max Dd (z2 + 1), rfl, by go_num, by omega, Lib.hid (by have := hgk.out; omega), by omega, by omega, Lib.hid ⟨satN_le _, by have := hL9.2; have := hzz.2.2; omega⟩, HC4⟩
      · have hfn : fndN (g.map EntT.nm) nm = -1 := by unfold fndN; rw [if_neg hmem]
        have hrz : refZ g (zs.map (·.1)) (f0, t0, nm) = 0 := by unfold refZ; simp only; rw [if_neg hmem]
        have HSN : Hid (costK g (zs.map (·.1)) s (k + 1) = cK) := Lib.hid (by rw [costK_snoc HRR.out (by rw [hrz]; exact Nat.zero_le _), HCK.out, hrz, Nat.add_zero]; exact satN_id hcK9)
        rw [hfn] at FD
        have CK := Lib.hid fun W => refKnown_c ⟨nm.toArray⟩ W
        have hk255 : knownOf ⟨nm.toArray⟩ ≤ 255 := by unfold knownOf; (repeat' split) <;> omega
        generalize knownOf ⟨nm.toArray⟩ = kn at *
        clear hmem hfn hrz
        by_cases hk0 : 0 < kn
        · have hkp : (0 : Int) < (kn : Int) := by omega
          have hk9 : (kn : Int) ≤ 255 := by omega
          go_wp2_with fail
          refine FD.out.mono ?_
          rintro e wq ⟨rfl, rfl⟩
          go_wp2_with fail
          refine (CK.out _).mono ?_
          rintro e wq ⟨rfl, rfl⟩
          go_wp2_with fail
          go_quiet (fail)
          have HC1 : Hid (CJ 27 w1 (wr.drewN nq) #[.int .i64 ((costK g (zs.map (·.1)) s (k + 1) : Nat) : Int), .int .i64 ((L : Nat) : Int), .int .i64 ((Dd : Nat) : Int)]) := Lib.hid (by rw [HSN.out]; exact HC.out.kept (below_drewN' (Below.refl _ _)))
          clear u0 u1 u2 HC FD CK
          generalize wr.drewN nq = W1 at *
          go_wp2
          go_roundg (q - (k + 1))
          case measure => have := hgk.out; omega
          case rel => exact ⟨k + 1, N - ((t0 : Int) - (f0 : Int)) + 1, L, Dd, by go_num, by go_num, by omega, Lib.hid (by have := hgk.out; omega), by omega, by omega, HLD, HC1⟩
        · have hkp : ¬ (0 : Int) < (kn : Int) := by omega
          have HC1 : Hid (CJ 27 w1 wr #[.int .i64 ((costK g (zs.map (·.1)) s (k + 1) : Nat) : Int), .int .i64 ((L : Nat) : Int), .int .i64 ((Dd : Nat) : Int)]) := Lib.hid (by rw [HSN.out]; exact HC.out)
          go_wp2_with fail
          refine FD.out.mono ?_
          rintro e wq ⟨rfl, rfl⟩
          go_wp2_with fail
          refine (CK.out _).mono ?_
          rintro e wq ⟨rfl, rfl⟩
          go_wp2
          go_roundg (q - (k + 1))
          case measure => have := hgk.out; omega
          case rel => exact ⟨k + 1, N, L, Dd, rfl, by go_num, by omega, Lib.hid (by have := hgk.out; omega), by omega, by omega, HLD, HC1⟩
    · have hki : ¬ (k : Int) < (q : Int) := by omega
      have HCT : Hid (cK = costT g (zs.map (·.1)) s) := Lib.hid (by rw [← HCK.out]; unfold costK costT; rw [List.take_of_length_le (by rw [HQL.out]; omega)])
      have AD : ∃ L' : Nat, L' ≤ 9223372036854775807 ∧ ∀ W, Calls Tryz.prog 38 #[.int .i64 (L : Nat), .int .i64 N] W fun e w' => e = .returned (.int .i64 (L' : Nat)) ∧ W = w' := by
        by_cases hN0 : 0 ≤ N
        · obtain ⟨N', rfl⟩ : ∃ N' : Nat, N = (N' : Int) := ⟨N.toNat, by omega⟩
          exact ⟨satN (L + N'), satN_le _, fun W => rAdd_c L N' HLD.out.1 (by omega) W⟩
        · exact ⟨satN L, satN_le _, fun W => rAddNeg_c L N HLD.out.1 (by omega) (by omega) W⟩
      obtain ⟨L', hL', hAD⟩ := AD
      have HAD := Lib.hid hAD
      have v0 := cell_of 1 HC.out.2
      have fr0 := free_of 1 HC.out.2
      have HQ2 : Hid (∀ W cs, CJ 27 w1 W cs → W.heap[w.heap.size]? = some (.cells #[.int .i64 0, .int .i64 0, .int .i64 0] 27 (0, 0))) := Lib.hid fun W cs hW => (hW.1.block _ (lt_of HQ1.out)).trans HQ1.out
      clear hAD
      go_wp2_with fail
      refine (HAD.out _).mono ?_
      rintro e wq ⟨rfl, rfl⟩
      go_upto_region 16 with fail
      have HC2 : Hid (CJ 27 w1 (wr.setCell ⟨w1.heap.size, 1, none⟩ (.int .i64 ((L' : Nat) : Int))) #[.int .i64 ((cK : Nat) : Int), .int .i64 ((L' : Nat) : Int), .int .i64 ((Dd : Nat) : Int)]) := Lib.hid (HC.out.set 1 _)
      clear v0 fr0 HC
      generalize wr.setCell ⟨w1.heap.size, 1, none⟩ (.int .i64 ((L' : Nat) : Int)) = W4 at *
      have jq := HC2.out.2
      have hq2 := HQ2.out _ _ HC2.out
      have hi : (Tryz.prog.info? 27).map (·.size) = some 3 := by kernel_rfl
      obtain ⟨d, hu⟩ := isStruct_of (P := Tryz.prog) (t := 27) (by kernel_rfl)
      have HU := Lib.hid (And.intro hi hu)
      have HQ3 : Hid ((W4.setRow w.heap.size #[.int .i64 ((cK : Nat) : Int), .int .i64 ((L' : Nat) : Int), .int .i64 ((Dd : Nat) : Int)]).heap[w.heap.size]? = some (.cells #[.int .i64 ((cK : Nat) : Int), .int .i64 ((L' : Nat) : Int), .int .i64 ((Dd : Nat) : Int)] 27 (0, 0))) := Lib.hid (setRow_heap _ _ _ _ _ _ hq2)
      have HBF : Hid (Below w.heap.size w (W4.setRow w.heap.size #[.int .i64 ((cK : Nat) : Int), .int .i64 ((L' : Nat) : Int), .int .i64 ((Dd : Nat) : Int)])) := Lib.hid (by
        have hb9 : Below w.heap.size w W4 := KB.out.trans (HC2.out.1.mono KB.out.size)
        refine ⟨hb9.os, hb9.tape, hb9.output, ?_, fun k hk => ?_⟩
        · have := hb9.size
          simpa [World.setRow] using this
        · rw [setRow_other _ _ _ _ (by omega)]
          exact hb9.block k hk)
      clear hi hu HC2 HQ2
      go_wp2_with (first | (refine wpList_load_row rfl _ _ rfl w1.heap.size rfl _ _ _ _ jq HU.out.2 rfl HU.out.1 ?_) | (refine wpList_store_row rfl _ _ _ rfl w.heap.size #[.int .i64 ((cK : Nat) : Int), .int .i64 ((L' : Nat) : Int), .int .i64 ((Dd : Nat) : Int)] rfl rfl _ _ hq2 (by kernel_rfl) rfl (by kernel_rfl) ?_))
      (try simp only [Exit.inBlock, Exit.then])
      exact bodyPost_ret (results_cell_row rfl _ _ w.heap.size _ _ _ _ rfl HQ3.out HU.out.2 rfl HU.out.1) rfl ⟨L', Dd, by rw [← HCT.out], hL', HLD.out.2, HBF.out⟩
end Go.Proofs.YtfemfgkcgboopaaGreatDoor
