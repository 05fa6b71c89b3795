/- The law AttvalParts. -/
import Derived.Test.YtfemfgkcgboopaaGreatDoorRows
import Derived.WalkKit
import Derived.ProofKit
import Derived.OpenShut
import Derived.ShutString
import Derived.ChangeOld
import Derived.Below
import Derived.BigQuiet
import Derived.Deep.QuietTactic
import Derived.Lib.Hide
import Derived.Deep.RegionHeld3
import Derived.Lib.SlBytesConst
import Derived.Laws.CopyOwn
import Derived.Laws.CopyRow
import Derived.Lib.Bytes
import Derived.Deep.LoopGhost
import Derived.Deep.DeepFit
import Derived.Deep.DeepMust
import Derived.WalkSpells
import Derived.WalkLawsBesides
import Derived.Laws.EntriesVeiled
import Derived.Laws.Rows
import Derived.Maps.OwnOps
import Derived.Maps.OwnSet
import Derived.Maps.Views
import Derived.Maps.AppendAt
import Derived.Deep.AppendLies
import Derived.DeepKeys4
import Derived.MapViews
import Derived.Maps.Keyed
import Derived.Deep.RegionLaw
import Derived.Deep.RegionWith
import Derived.StillTailTactics
import Derived.Deep.CutRange
import Derived.Test.YtfemfgkcgboopaaGreatDoorQ1
import Derived.Test.YtfemfgkcgboopaaGreatDoorQ13
import Derived.Test.YtfemfgkcgboopaaGreatDoorQ16
import Derived.Test.YtfemfgkcgboopaaGreatDoorQ2
import Derived.Test.YtfemfgkcgboopaaGreatDoorQ3
import Derived.Test.YtfemfgkcgboopaaGreatDoorQ4
import Derived.Test.YtfemfgkcgboopaaGreatDoorQ9
import Derived.Test.YtfemfgkcgboopaaGreatDoorQ15
import Derived.Test.YtfemfgkcgboopaaGreatDoorQ14
import Derived.Test.YtfemfgkcgboopaaGreatDoorQ10
import Derived.Test.YtfemfgkcgboopaaGreatDoorQ17
import Derived.Test.YtfemfgkcgboopaaGreatDoorQ23
import Derived.Test.YtfemfgkcgboopaaGreatDoorQ24
import Derived.Test.YtfemfgkcgboopaaGreatDoorQ19
import Derived.Test.YtfemfgkcgboopaaGreatDoorQ20
import Derived.Test.YtfemfgkcgboopaaGreatDoorQ32
import Derived.Test.YtfemfgkcgboopaaGreatDoorQ26
import Derived.Test.YtfemfgkcgboopaaGreatDoorQ33
import Derived.Test.YtfemfgkcgboopaaGreatDoorQ34
import Derived.Test.YtfemfgkcgboopaaGreatDoorQ18
import Derived.Test.YtfemfgkcgboopaaGreatDoorQ25
import Derived.Test.YtfemfgkcgboopaaGreatDoorQ29
import Derived.Test.YtfemfgkcgboopaaGreatDoorQ27
import Derived.Test.YtfemfgkcgboopaaGreatDoorQ28
import Derived.Test.YtfemfgkcgboopaaGreatDoorQ30
import Derived.Test.YtfemfgkcgboopaaGreatDoorQ21
import Derived.Test.YtfemfgkcgboopaaGreatDoorQ22
import Derived.Test.YtfemfgkcgboopaaGreatDoorQ31
import Derived.Test.YtfemfgkcgboopaaGreatDoorQ36
import Derived.Test.YtfemfgkcgboopaaGreatDoorQ37
import Derived.Test.YtfemfgkcgboopaaGreatDoorMk2
import Derived.Test.YtfemfgkcgboopaaGreatDoorQ38
namespace Go.Proofs.YtfemfgkcgboopaaGreatDoor
open Go.ChangeShapes Go.WideShapes Go.ChangeAt Go.RowKit
set_option linter.unusedVariables false
theorem rfs_names_sh (u v : List UInt8) : ∀ (m k : Nat), v.length - k ≤ m → (rfsA (u ++ v) (u.length + k)).map (fun r => r.2.2) = (rfsA v k).map (fun r => r.2.2) := by
  intro m
  induction m with
  | zero => intro k h; rw [rfsA_end v k (by omega), rfsA_end (u ++ v) _ (by rw [List.length_append]; omega)]
  | succ m ih =>
    intro k h
    by_cases hk : k < v.length
    · have hs := refOut_sh u v k
      by_cases h0 : (refOut 38 v k).2.2 = 0
      · have hn := refOut_nx v k h0
        have h1 : (refOut 38 (u ++ v) (u.length + k)).2.2 = 0 := by rw [hs]; exact h0
        rw [rfsA_ref v k h0, rfsA_ref (u ++ v) _ h1, List.map_cons, List.map_cons, hs]
        simp only [h0, if_pos]
        rw [ih _ (by omega)]
      · have h1 : (refOut 38 (u ++ v) (u.length + k)).2.2 ≠ 0 := by rw [hs]; exact h0
        rw [rfsA_no v k hk h0, rfsA_no (u ++ v) _ (by rw [List.length_append]; omega) h1]
        exact ih (k + 1) (by omega)
    · rw [rfsA_end v k (by omega), rfsA_end (u ++ v) _ (by rw [List.length_append]; omega)]
theorem rfs_names (a b : List UInt8) : ∀ (m t : Nat), a.length + 1 - t ≤ m → t ≤ a.length + 1 → (rfsA (a ++ 32 :: b) t).map (fun r => r.2.2) = (rfsA (a ++ [32]) t).map (fun r => r.2.2) ++ (rfsA b 0).map (fun r => r.2.2) := by
  intro m
  have hlen : (a ++ [32]).length = a.length + 1 := by simp
  have hlen2 : (a ++ 32 :: b).length = a.length + 1 + b.length := by simp; omega
  have hend : (rfsA (a ++ 32 :: b) (a.length + 1)).map (fun r => r.2.2) = (rfsA b 0).map (fun r => r.2.2) := by
    have := rfs_names_sh (a ++ [32]) b b.length 0 (by omega)
    rw [List.append_assoc, hlen, Nat.add_zero] at this
    exact this
  induction m with
  | zero =>
    intro t h ht
    have : t = a.length + 1 := by omega
    subst this
    rw [hend, rfsA_end (a ++ [32]) _ (by omega), List.map_nil, List.nil_append]
  | succ m ih =>
    intro t h ht
    rcases Nat.lt_or_ge t a.length with h1 | h1
    · have hs := refOut_blank a b t h1
      by_cases h0 : (refOut 38 (a ++ [32]) t).2.2 = 0
      · have hn := refOut_nx _ t h0
        rw [hlen] at hn
        have h2 : (refOut 38 (a ++ 32 :: b) t).2.2 = 0 := by rw [hs]; exact h0
        rw [rfsA_ref _ t h0, rfsA_ref _ t h2, List.map_cons, List.map_cons, hs, ih (refOut 38 (a ++ [32]) t).2.1 (by omega) (by omega)]
        rfl
      · have h2 : (refOut 38 (a ++ 32 :: b) t).2.2 ≠ 0 := by rw [hs]; exact h0
        rw [rfsA_no _ t (by omega) h0, rfsA_no _ t (by omega) h2]
        exact ih _ (by omega) (by omega)
    · rcases (show t = a.length ∨ t = a.length + 1 by omega) with e | e
      · subst e
        have e1 : (refOut 38 (a ++ [32]) a.length).2.2 ≠ 0 := fun h => by have := (refOut_nx _ _ h).2.2; simp at this
        have e2 : (refOut 38 (a ++ 32 :: b) a.length).2.2 ≠ 0 := fun h => by have := (refOut_nx _ _ h).2.2; simp at this
        rw [rfsA_no _ _ (by omega) e1, rfsA_no _ _ (by omega) e2]
        exact ih _ (by omega) (by omega)
      · subst e
        rw [hend, rfsA_end (a ++ [32]) _ (by omega), List.map_nil, List.nil_append]
/-- What a name costs. -/
def nameC (g : List EntT) (k : Nat) (s : List UInt8) : Nat := match fndE g s with | none => 0 | some x => costB g k x.tx
theorem cost_names (g : List EntT) (k : Nat) (b : List UInt8) : costB g (k + 1) b = b.length + (((rfsA b 0).map (fun r => r.2.2)).map (nameC g k)).sum := by
  rw [List.map_map]
  rfl
theorem cost_parts (g : List EntT) (k : Nat) (a b : List UInt8) : costB g (k + 1) (a ++ 32 :: b) = costB g (k + 1) (a ++ [32]) + costB g (k + 1) b := by
  rw [cost_names, cost_names, cost_names, rfs_names a b _ 0 (Nat.le_refl _) (Nat.zero_le _), List.map_append, List.sum_append]
  simp
  omega
theorem trimK_one (o : List UInt8) : trimK 1 o = o := by unfold trimK; rw [if_pos rfl]
/-- The three answers. -/
theorem parts_c (A : Option Addr) (n cap : Nat) (l : List EntT) (a b : List UInt8) (deep : Int) (w : World) (h : RRd cE 6 w w.heap.size A n cap l) (hl : l.length ≤ 24) (hs2 : (l.map fun y => y.tx.length).sum ≤ 1500) (hs3 : ∀ x ∈ l, x.tx.length ≤ 1500) (hnm : ∀ x ∈ l, x.nm.length ≤ 1000000000000000) (ha : a.length ≤ 200) (hb : b.length ≤ 200) (hF : Forms w) (hT : Tabs w) (hK : KnownT w) (hc : ¬ loopsE l → costL l (a ++ [32] ++ b) ≤ 20000) :
    ∃ (v1 v2 v3 : List UInt8) (e1 e2 e3 : Nat), ((e1 ≠ 0 → e3 = e1 ∧ v3 = []) ∧ (e1 = 0 → e2 ≠ 0 → e3 = e2 ∧ v3 = []) ∧ (e1 = 0 → e2 = 0 → e3 = 0 ∧ v3 = v1 ++ v2) ∧ v1.length ≤ 20000 ∧ v2.length ≤ 20000) ∧ ∀ W, Below w.heap.size w W →
      Calls Tryz.prog 10 #[.slice A n cap, .string ⟨(a ++ [32]).toArray⟩, .int .i64 1, .int .i64 deep] W (fun e w' => e = .returned (.tuple #[.string ⟨v1.toArray⟩, .int .i64 (e1 : Nat)]) ∧ Below W.heap.size W w') ∧
      Calls Tryz.prog 10 #[.slice A n cap, .string ⟨b.toArray⟩, .int .i64 1, .int .i64 deep] W (fun e w' => e = .returned (.tuple #[.string ⟨v2.toArray⟩, .int .i64 (e2 : Nat)]) ∧ Below W.heap.size W w') ∧
      Calls Tryz.prog 10 #[.slice A n cap, .string ⟨(a ++ [32] ++ b).toArray⟩, .int .i64 1, .int .i64 deep] W (fun e w' => e = .returned (.tuple #[.string ⟨v3.toArray⟩, .int .i64 (e3 : Nat)]) ∧ Below W.heap.size W w') := by
  have hln := h.len
  have hx20 : ∀ x ∈ l, x.tx.length ≤ 20000 := fun x hx => by have := hs3 x hx; omega
  by_cases hL : loopsE l
  · refine ⟨[], [], [], 8, 8, 8, ⟨fun _ => ⟨rfl, rfl⟩, (fun e => by cases e), (fun e => by cases e), Nat.zero_le _, Nat.zero_le _⟩, fun W hW => ?_⟩
    have hr := (h.below hW).more hW.size
    have hFW := hF.below hW hF.lt
    have hTW := hT.below hW (hT.low hF)
    exact ⟨attValue_loops A n cap l _ 1 deep W hr (by omega) hx20 hnm (by omega) hFW hTW hL, attValue_loops A n cap l _ 1 deep W hr (by omega) hx20 hnm (by omega) hFW hTW hL, attValue_loops A n cap l _ 1 deep W hr (by omega) hx20 hnm (by omega) hFW hTW hL⟩
  · have hN : (innerE l).length ≤ 900 := by
      have := inner_len l []
      have h2 : (innerE l).length ≤ l.length := by simpa [innerE] using this
      omega
    have hwh : a ++ [32] ++ b = a ++ 32 :: b := by simp
    have hcw := costL_low (hc hL)
    have hcp := cost_parts (innerE l) ((innerE l).length + 1) a b
    rw [hwh] at hcw
    rw [show (innerE l).length + 1 + 1 = (innerE l).length + 2 by omega] at hcp
    obtain ⟨f1, o1, e1, p1, q1⟩ := over_cheap hL hN (a ++ [32]) deep (by omega)
    obtain ⟨f2, o2, e2, p2, q2⟩ := over_cheap hL hN b deep (by omega)
    obtain ⟨f3, o3, e3, p3, q3⟩ := over_cheap hL hN (a ++ 32 :: b) deep hcw
    obtain ⟨g1, n1, r1, s1⟩ := over_all p1
    obtain ⟨g2, n2, r2, s2⟩ := over_all p2
    obtain ⟨g3, n3, r3, s3⟩ := over_all p3
    obtain ⟨t1, t2, t3⟩ := ov_parts (ov_of _ _ _ _ _ _ _ _ _ p1) (ov_of _ _ _ _ _ _ _ _ _ p2) (ov_of _ _ _ _ _ _ _ _ _ p3)
    simp only [Prod.mk.injEq] at t1 t2 t3
    have hv : ∀ (e : Nat) (o : List UInt8), (if e = 0 then trimK 1 o else []) = valD 1 o e := fun e o => rfl
    have hvl : ∀ (e : Nat) (o : List UInt8), o.length ≤ 20000 → (valD 1 o e).length ≤ 20000 := fun e o ho => by
      unfold valD
      split
      · rw [trimK_one]; exact ho
      · simp
    refine ⟨valD 1 o1 e1, valD 1 o2 e2, valD 1 o3 e3, e1, e2, e3, ⟨fun h => ?_, fun h h' => ?_, fun h h' => ?_, hvl _ _ q1, hvl _ _ q2⟩, fun W hW => ?_⟩
    · obtain ⟨i1, i2⟩ := t1 h
      subst i1 i2
      refine ⟨rfl, ?_⟩
      unfold valD
      rw [if_neg h]
    · obtain ⟨i1, i2⟩ := t2 h h'
      subst i1 i2
      refine ⟨rfl, ?_⟩
      unfold valD
      rw [if_neg h']
    · obtain ⟨i1, i2⟩ := t3 h h'
      subst h h' i1 i2
      refine ⟨rfl, ?_⟩
      unfold valD
      rw [if_pos rfl, if_pos rfl, if_pos rfl, trimK_one, trimK_one, trimK_one]
    · have hr := (h.below hW).more hW.size
      have hFW := hF.below hW hF.lt
      have hTW := hT.below hW (hT.low hF)
      have hKW := hK.below hW
      rw [hwh]
      have c1 := attValue_c A n cap l (a ++ [32]) 1 deep g1 n1 e1 W hr (by omega) hx20 hnm (by omega) hFW hTW hKW (by simp; omega) hL r1 (fun he => by rw [s1 he]; omega)
      have c2 := attValue_c A n cap l b 1 deep g2 n2 e2 W hr (by omega) hx20 hnm (by omega) hFW hTW hKW (by omega) hL r2 (fun he => by rw [s2 he]; omega)
      have c3 := attValue_c A n cap l (a ++ 32 :: b) 1 deep g3 n3 e3 W hr (by omega) hx20 hnm (by omega) hFW hTW hKW (by simp; omega) hL r3 (fun he => by rw [s3 he]; omega)
      have v1 : (if e1 = 0 then trimK 1 n1 else []) = valD 1 o1 e1 := by
        unfold valD
        by_cases he : e1 = 0
        · rw [if_pos he, if_pos he, s1 he]
        · rw [if_neg he, if_neg he]
      have v2 : (if e2 = 0 then trimK 1 n2 else []) = valD 1 o2 e2 := by
        unfold valD
        by_cases he : e2 = 0
        · rw [if_pos he, if_pos he, s2 he]
        · rw [if_neg he, if_neg he]
      have v3 : (if e3 = 0 then trimK 1 n3 else []) = valD 1 o3 e3 := by
        unfold valD
        by_cases he : e3 = 0
        · rw [if_pos he, if_pos he, s3 he]
        · rw [if_neg he, if_neg he]
      rw [v1] at c1
      rw [v2] at c2
      rw [v3] at c3
      exact ⟨c1, c2, c3⟩
set_option maxRecDepth 100000 in
set_option maxHeartbeats 16000000 in
/-- The law. -/
theorem attvalParts_walk (A : Option Addr) (n cap : Nat) (l : List EntT) (a b : List UInt8) (w : World) (h : RRd cE 6 w w.heap.size A n cap l) (hx : ∀ x ∈ l, x.tx.length ≤ 281474976710656) (hnm : ∀ x ∈ l, x.nm.length ≤ 1000000000000000) (hF : Forms w) (hT : Tabs w) (hK : KnownT w) :
    Calls Tryz.prog 4 #[.slice A n cap, .string ⟨a.toArray⟩, .string ⟨b.toArray⟩] w fun e w' => e = .returned (.bool true) ∧ Below w.heap.size w w' := by
  have hln := h.len
  have HP : Hid (∀ W, Below w.heap.size w W → RRd cE 6 W W.heap.size A n cap l) := Lib.hid fun W hb => (h.below hb).more hb.size
  have J0 := Lib.hid (Below.refl w.heap.size w)
  have CM := Lib.hid (rfMuch_c A n cap l _ h hx)
  have LV : Hid (∀ W, Below w.heap.size w W → Calls Tryz.prog 9 #[] W fun e w' => e = .returned (.bool true) ∧ Below W.heap.size W w') := Lib.hid fun W hW => live27_c W (hF.below hW hF.lt) (hT.below hW (hT.low hF)) (hK.below hW)
  have hsa : (⟨a.toArray⟩ : ByteArray).size = a.length := by simp [ByteArray.size]
  have hsb : (⟨b.toArray⟩ : ByteArray).size = b.length := by simp [ByteArray.size]
  cases hmu : muchE l with
  | true =>
    rw [hmu] at CM
    clear h hx hnm hF hT hK hmu HP
    go_enter Tryz.func4, Tryz.ntmps4
    go_wp2_with fail
    refine (CM.out).mono ?_
    rintro e w1 ⟨rfl, hb⟩
    have J1 := Lib.hid (J0.out.trans (hb.mono J0.out.size))
    clear hb
    go_wp2_with fail
    refine (LV.out _ J1.out).mono ?_
    rintro e wl ⟨rfl, hb⟩
    have HBL := Lib.hid (J1.out.trans (hb.mono J1.out.size))
    clear hb
    go_wp2
    go_ret
    exact ⟨rfl, HBL.out⟩
  | false =>
    rw [hmu] at CM
    obtain ⟨hs1, hs2, hs3⟩ := much_small hmu
    have CL : Hid (∀ W, Below w.heap.size w W → Calls Tryz.prog 7 #[.slice A n cap] W fun e w' => ∃ b : Bool, e = .returned (.bool b) ∧ (b = true ↔ loopsE l) ∧ Below W.heap.size W w') := Lib.hid fun W hW => rfLoops_c A n cap l W (HP.out W hW) (by omega) (fun x hx2 => by have := hs3 x hx2; omega)
    by_cases hv1 : a.length ≤ 200
    · have hai : ¬ ((200 : Int) < (a.length : Int)) := by omega
      by_cases hv2 : b.length ≤ 200
      · have hbi : ¬ ((200 : Int) < (b.length : Int)) := by omega
        have CO : Hid (∀ W, Below w.heap.size w W → Calls Tryz.prog 8 #[.slice A n cap, .string ⟨(a ++ [32] ++ b).toArray⟩] W fun e w' => ∃ L Dd : Nat, e = .returned (.agg #[.int .i64 (costL l (a ++ [32] ++ b) : Nat), .int .i64 (L : Nat), .int .i64 (Dd : Nat)]) ∧ Below W.heap.size W w') := Lib.hid fun W hW => rfCost_c A n cap l (a ++ [32] ++ b) W (HP.out W hW) (by omega) (fun x hx2 => by have := hs3 x hx2; omega) (by simp; omega)
        have BC := Lib.hid fun hc => parts_c A n cap l a b 20 w h (by omega) hs2 hs3 hnm hv1 hv2 hF hT hK hc
        have hcl9 : costL l (a ++ [32] ++ b) ≤ 9223372036854775807 := satN_le _
        have hc1 : ∀ W, (Op.stringOp .add ⟨a.toArray⟩ ⟨#[32]⟩).run Tryz.prog W = .ok (.string ⟨(a ++ [32]).toArray⟩) W := fun W => run_sop a [32] (by simp; omega)
        have hc2 : ∀ W, (Op.stringOp .add ⟨(a ++ [32]).toArray⟩ ⟨b.toArray⟩).run Tryz.prog W = .ok (.string ⟨(a ++ [32] ++ b).toArray⟩) W := fun W => run_sop (a ++ [32]) b (by simp; omega)
        clear h hx hnm hF hT hK hmu hs1 hs2 hs3
        generalize hwh : a ++ [32] ++ b = wh at *
        generalize hau : a ++ [32] = au at *
        clear hwh hau
        go_enter Tryz.func4, Tryz.ntmps4
        go_wp2_with fail
        refine (CM.out).mono ?_
        rintro e w1 ⟨rfl, hb⟩
        have J1 := Lib.hid (J0.out.trans (hb.mono J0.out.size))
        clear hb
        clear CM
        go_wp2_with fail
        refine (CL.out _ J1.out).mono ?_
        rintro e w2 ⟨bl, rfl, hbl, hb⟩
        have J2 := Lib.hid (J1.out.trans (hb.mono J1.out.size))
        have HBL2 := Lib.hid hbl
        clear hb hbl CL J1
        cases bl with
        | true =>
          obtain ⟨v1, v2, v3, e1, e2, e3, hrl, hvv⟩ := BC.out (fun hn => absurd (HBL2.out.1 rfl) hn)
          have HVV := Lib.hid hvv
          have HRL := Lib.hid hrl
          clear hvv hrl BC CO
          by_cases h1 : e1 ≠ 0
          · obtain ⟨i1, i2⟩ := HRL.out.1 h1
            subst i1 i2
            have h1i : ((e3 : Nat) : Int) ≠ 0 := by omega
            have h1b : (((e3 : Nat) : Int) != 0) = true := by simpa using h1
            go_wp2_with fail
            refine ((HVV.out _ J2.out).1).mono ?_
            rintro e w4 ⟨rfl, hb⟩
            have K4 := Lib.hid (J2.out.trans (hb.mono J2.out.size))
            clear hb
            go_wp2_with fail
            refine ((HVV.out _ K4.out).2.1).mono ?_
            rintro e w5 ⟨rfl, hb⟩
            have K5 := Lib.hid (K4.out.trans (hb.mono K4.out.size))
            clear hb
            go_wp2_with fail
            refine ((HVV.out _ K5.out).2.2).mono ?_
            rintro e w6 ⟨rfl, hb⟩
            have K6 := Lib.hid (K5.out.trans (hb.mono K5.out.size))
            clear hb
            clear HVV
            go_wp2_with fail
            refine (LV.out _ K6.out).mono ?_
            rintro e wl ⟨rfl, hb⟩
            have HBL := Lib.hid (K6.out.trans (hb.mono K6.out.size))
            clear hb
            go_wp2
            go_ret
            exact ⟨rfl, HBL.out⟩
          · have h10 : e1 = 0 := by omega
            subst h10
            by_cases h2 : e2 ≠ 0
            · obtain ⟨i1, i2⟩ := HRL.out.2.1 rfl h2
              subst i1 i2
              have h2i : ((e3 : Nat) : Int) ≠ 0 := by omega
              have h2b : (((e3 : Nat) : Int) != 0) = true := by simpa using h2
              go_wp2_with fail
              refine ((HVV.out _ J2.out).1).mono ?_
              rintro e w4 ⟨rfl, hb⟩
              have K4 := Lib.hid (J2.out.trans (hb.mono J2.out.size))
              clear hb
              go_wp2_with fail
              refine ((HVV.out _ K4.out).2.1).mono ?_
              rintro e w5 ⟨rfl, hb⟩
              have K5 := Lib.hid (K4.out.trans (hb.mono K4.out.size))
              clear hb
              go_wp2_with fail
              refine ((HVV.out _ K5.out).2.2).mono ?_
              rintro e w6 ⟨rfl, hb⟩
              have K6 := Lib.hid (K5.out.trans (hb.mono K5.out.size))
              clear hb
              clear HVV
              go_wp2_with fail
              refine (LV.out _ K6.out).mono ?_
              rintro e wl ⟨rfl, hb⟩
              have HBL := Lib.hid (K6.out.trans (hb.mono K6.out.size))
              clear hb
              go_wp2
              go_ret
              exact ⟨rfl, HBL.out⟩
            · have h20 : e2 = 0 := by omega
              subst h20
              obtain ⟨i1, i2⟩ := HRL.out.2.2.1 rfl rfl
              subst i1
              have hs3 : ∀ W, (Op.stringOp .add ⟨v1.toArray⟩ ⟨v2.toArray⟩).run Tryz.prog W = .ok (.string ⟨v3.toArray⟩) W := fun W => by rw [i2]; exact run_sop v1 v2 (by have := HRL.out.2.2.2; omega)
              clear i2
              go_wp2_with fail
              refine ((HVV.out _ J2.out).1).mono ?_
              rintro e w4 ⟨rfl, hb⟩
              have K4 := Lib.hid (J2.out.trans (hb.mono J2.out.size))
              clear hb
              go_wp2_with fail
              refine ((HVV.out _ K4.out).2.1).mono ?_
              rintro e w5 ⟨rfl, hb⟩
              have K5 := Lib.hid (K4.out.trans (hb.mono K4.out.size))
              clear hb
              go_wp2_with fail
              refine ((HVV.out _ K5.out).2.2).mono ?_
              rintro e w6 ⟨rfl, hb⟩
              have K6 := Lib.hid (K5.out.trans (hb.mono K5.out.size))
              clear hb
              clear HVV
              go_wp2_with fail
              refine (LV.out _ K6.out).mono ?_
              rintro e wl ⟨rfl, hb⟩
              have HBL := Lib.hid (K6.out.trans (hb.mono K6.out.size))
              clear hb
              go_wp2
              go_ret
              exact ⟨rfl, HBL.out⟩
        | false =>
          go_wp2_with fail
          refine (CO.out _ J2.out).mono ?_
          rintro e w3 ⟨L, Dd, rfl, hb⟩
          have hfd := fun W => fldCost (costL l wh : Nat) L Dd W
          have J3 := Lib.hid (J2.out.trans (hb.mono J2.out.size))
          clear hb
          by_cases hco : costL l wh ≤ 20000
          · obtain ⟨v1, v2, v3, e1, e2, e3, hrl, hvv⟩ := BC.out (fun _ => hco)
            have HVV := Lib.hid hvv
            have HRL := Lib.hid hrl
            have hci : ¬ (20000 : Int) < (costL l wh : Int) := by omega
            clear hvv hrl BC CO hco
            generalize costL l wh = cl at *
            by_cases h1 : e1 ≠ 0
            · obtain ⟨i1, i2⟩ := HRL.out.1 h1
              subst i1 i2
              have h1i : ((e3 : Nat) : Int) ≠ 0 := by omega
              have h1b : (((e3 : Nat) : Int) != 0) = true := by simpa using h1
              go_wp2_with fail
              refine ((HVV.out _ J3.out).1).mono ?_
              rintro e w4 ⟨rfl, hb⟩
              have K4 := Lib.hid (J3.out.trans (hb.mono J3.out.size))
              clear hb
              go_wp2_with fail
              refine ((HVV.out _ K4.out).2.1).mono ?_
              rintro e w5 ⟨rfl, hb⟩
              have K5 := Lib.hid (K4.out.trans (hb.mono K4.out.size))
              clear hb
              go_wp2_with fail
              refine ((HVV.out _ K5.out).2.2).mono ?_
              rintro e w6 ⟨rfl, hb⟩
              have K6 := Lib.hid (K5.out.trans (hb.mono K5.out.size))
              clear hb
              clear HVV
              go_wp2_with fail
              refine (LV.out _ K6.out).mono ?_
              rintro e wl ⟨rfl, hb⟩
              have HBL := Lib.hid (K6.out.trans (hb.mono K6.out.size))
              clear hb
              go_wp2
              go_ret
              exact ⟨rfl, HBL.out⟩
            · have h10 : e1 = 0 := by omega
              subst h10
              by_cases h2 : e2 ≠ 0
              · obtain ⟨i1, i2⟩ := HRL.out.2.1 rfl h2
                subst i1 i2
                have h2i : ((e3 : Nat) : Int) ≠ 0 := by omega
                have h2b : (((e3 : Nat) : Int) != 0) = true := by simpa using h2
                go_wp2_with fail
                refine ((HVV.out _ J3.out).1).mono ?_
                rintro e w4 ⟨rfl, hb⟩
                have K4 := Lib.hid (J3.out.trans (hb.mono J3.out.size))
                clear hb
                go_wp2_with fail
                refine ((HVV.out _ K4.out).2.1).mono ?_
                rintro e w5 ⟨rfl, hb⟩
                have K5 := Lib.hid (K4.out.trans (hb.mono K4.out.size))
                clear hb
                go_wp2_with fail
                refine ((HVV.out _ K5.out).2.2).mono ?_
                rintro e w6 ⟨rfl, hb⟩
                have K6 := Lib.hid (K5.out.trans (hb.mono K5.out.size))
                clear hb
                clear HVV
                go_wp2_with fail
                refine (LV.out _ K6.out).mono ?_
                rintro e wl ⟨rfl, hb⟩
                have HBL := Lib.hid (K6.out.trans (hb.mono K6.out.size))
                clear hb
                go_wp2
                go_ret
                exact ⟨rfl, HBL.out⟩
              · have h20 : e2 = 0 := by omega
                subst h20
                obtain ⟨i1, i2⟩ := HRL.out.2.2.1 rfl rfl
                subst i1
                have hs3 : ∀ W, (Op.stringOp .add ⟨v1.toArray⟩ ⟨v2.toArray⟩).run Tryz.prog W = .ok (.string ⟨v3.toArray⟩) W := fun W => by rw [i2]; exact run_sop v1 v2 (by have := HRL.out.2.2.2; omega)
                clear i2
                go_wp2_with fail
                refine ((HVV.out _ J3.out).1).mono ?_
                rintro e w4 ⟨rfl, hb⟩
                have K4 := Lib.hid (J3.out.trans (hb.mono J3.out.size))
                clear hb
                go_wp2_with fail
                refine ((HVV.out _ K4.out).2.1).mono ?_
                rintro e w5 ⟨rfl, hb⟩
                have K5 := Lib.hid (K4.out.trans (hb.mono K4.out.size))
                clear hb
                go_wp2_with fail
                refine ((HVV.out _ K5.out).2.2).mono ?_
                rintro e w6 ⟨rfl, hb⟩
                have K6 := Lib.hid (K5.out.trans (hb.mono K5.out.size))
                clear hb
                clear HVV
                go_wp2_with fail
                refine (LV.out _ K6.out).mono ?_
                rintro e wl ⟨rfl, hb⟩
                have HBL := Lib.hid (K6.out.trans (hb.mono K6.out.size))
                clear hb
                go_wp2
                go_ret
                exact ⟨rfl, HBL.out⟩
          · have hci : (20000 : Int) < (costL l wh : Int) := by omega
            clear BC CO hco
            generalize costL l wh = cl at *
            go_wp2_with fail
            refine (LV.out _ J3.out).mono ?_
            rintro e wl ⟨rfl, hb⟩
            have HBL := Lib.hid (J3.out.trans (hb.mono J3.out.size))
            clear hb
            go_wp2
            go_ret
            exact ⟨rfl, HBL.out⟩
      · have hbi : (200 : Int) < (b.length : Int) := by omega
        clear h hx hnm hF hT hK hmu hs1 hs2 hs3 CL HP
        go_enter Tryz.func4, Tryz.ntmps4
        go_wp2_with fail
        refine (CM.out).mono ?_
        rintro e w1 ⟨rfl, hb⟩
        have J1 := Lib.hid (J0.out.trans (hb.mono J0.out.size))
        clear hb
        go_wp2_with fail
        refine (LV.out _ J1.out).mono ?_
        rintro e wl ⟨rfl, hb⟩
        have HBL := Lib.hid (J1.out.trans (hb.mono J1.out.size))
        clear hb
        go_wp2
        go_ret
        exact ⟨rfl, HBL.out⟩
    · have hai : (200 : Int) < (a.length : Int) := by omega
      clear h hx hnm hF hT hK hmu hs1 hs2 hs3 CL HP
      go_enter Tryz.func4, Tryz.ntmps4
      go_wp2_with fail
      refine (CM.out).mono ?_
      rintro e w1 ⟨rfl, hb⟩
      have J1 := Lib.hid (J0.out.trans (hb.mono J0.out.size))
      clear hb
      go_wp2_with fail
      refine (LV.out _ J1.out).mono ?_
      rintro e wl ⟨rfl, hb⟩
      have HBL := Lib.hid (J1.out.trans (hb.mono J1.out.size))
      clear hb
      go_wp2
      go_ret
      exact ⟨rfl, HBL.out⟩
theorem attvalParts_law (A : Option Addr) (n cap : Nat) (l : List EntT) (ab bb : ByteArray) (w : World) (h : RRd cE 6 w w.heap.size A n cap l) (hm : n ≤ 1048576) (hl : ∀ x ∈ l, EntLe 1048576 x) (hF : Forms w) (hT : Tabs w) (hK : KnownT w) :
    Calls Tryz.prog 4 #[.slice A n cap, .string ab, .string bb] w fun e w' => e = .returned (.bool true) ∧ Below w.heap.size w w' := by
  obtain ⟨a, rfl⟩ : ∃ l : List UInt8, ab = ⟨l.toArray⟩ := ⟨ab.data.toList, by simp⟩
  obtain ⟨b, rfl⟩ : ∃ l : List UInt8, bb = ⟨l.toArray⟩ := ⟨bb.data.toList, by simp⟩
  exact attvalParts_walk A n cap l a b w h (fun x hx => by have := (hl x hx).2; omega) (fun x hx => by have := (hl x hx).1; omega) hF hT hK
end Go.Proofs.YtfemfgkcgboopaaGreatDoor
