/- The document: two cases the same. -/
import Derived.Test.YtbllodeanfdebaaGreatDoorRows
import Derived.WalkKit
import Derived.ProofKit
import Derived.OpenShut
import Derived.ShutString
import Derived.ChangeOld
import Derived.Below
import Derived.BigQuiet
import Derived.Deep.QuietTactic
import Derived.Lib.Hide
import Derived.Deep.RegionHeld3
import Derived.Lib.SlBytesConst
import Derived.Laws.CopyOwn
import Derived.Laws.CopyRow
import Derived.Lib.Bytes
import Derived.Deep.LoopGhost
import Derived.Deep.DeepFit
import Derived.Deep.DeepMust
import Derived.WalkSpells
import Derived.WalkLawsBesides
import Derived.Laws.EntriesVeiled
import Derived.Lib.IndexBytes
import Derived.Deep.RegionWith
import Derived.Tactics2
import Derived.Laws.Rows
import Derived.Lib.Replace
import Derived.Lib.Split
import Derived.Lib.ItoaNum
import Derived.Lib.AtoiAllCases
import Derived.Lib.AtoiErrMem
import Derived.Lib.AppendIntMem
import Derived.Maps.OwnOps
import Derived.Maps.OwnSet
import Derived.Maps.Views
import Derived.Maps.AppendAt
import Derived.Deep.AppendLies
import Derived.Defers
import Derived.Recover
import Derived.Laws.Pointers
import Derived.Test.YtbllodeanfdebaaGreatDoorShelf
import Derived.Test.YtbllodeanfdebaaGreatDoorBase
import Derived.Test.YtbllodeanfdebaaGreatDoorCsE
import Derived.Test.YtbllodeanfdebaaGreatDoorCsG
import Derived.Test.YtbllodeanfdebaaGreatDoorCsH
import Derived.Test.YtbllodeanfdebaaGreatDoorCsI
import Derived.Test.YtbllodeanfdebaaGreatDoorCsJ
import Derived.Test.YtbllodeanfdebaaGreatDoorCalm
import Derived.Test.YtbllodeanfdebaaGreatDoorCsL
import Derived.Test.YtbllodeanfdebaaGreatDoorRowS
import Derived.Test.YtbllodeanfdebaaGreatDoorRowG
import Derived.Test.YtbllodeanfdebaaGreatDoorCsO
import Derived.Test.YtbllodeanfdebaaGreatDoorCsM
import Derived.Test.YtbllodeanfdebaaGreatDoorCsN2
import Derived.Test.YtbllodeanfdebaaGreatDoorStL
import Derived.Test.YtbllodeanfdebaaGreatDoorCsO2
import Derived.Test.YtbllodeanfdebaaGreatDoorCsQ
import Derived.Test.YtbllodeanfdebaaGreatDoorStr
import Derived.Test.YtbllodeanfdebaaGreatDoorCsR
import Derived.Test.YtbllodeanfdebaaGreatDoorCsS
import Derived.Test.YtbllodeanfdebaaGreatDoorCsT
import Derived.Test.YtbllodeanfdebaaGreatDoorCsU
import Derived.Test.YtbllodeanfdebaaGreatDoorCsV
import Derived.Test.YtbllodeanfdebaaGreatDoorCsW
import Derived.Test.YtbllodeanfdebaaGreatDoorCsY
import Derived.Test.YtbllodeanfdebaaGreatDoorCsZ
import Derived.Test.YtbllodeanfdebaaGreatDoorCsPa
import Derived.Test.YtbllodeanfdebaaGreatDoorRpC
import Derived.Test.YtbllodeanfdebaaGreatDoorCtD
namespace Go.Proofs.YtbllodeanfdebaaGreatDoor
open Go.ChangeShapes Go.WideShapes Go.ChangeAt Go.RowKit
set_option linter.unusedVariables false
set_option linter.unusedSimpArgs false in
set_option maxRecDepth 100000 in
set_option maxHeartbeats 8000000 in
theorem refSame23_yes (A1 A2 : Option Addr) (n c1 c2 : Nat) (ys zs : List AnV) (w : World) (he : ys.map AnV.a = zs.map AnV.a) (h1 : RRd cAn 3 w w.heap.size A1 n c1 ys) (h2 : RRd cAn 3 w w.heap.size A2 n c2 zs) (d1 : ∀ y ∈ ys, Byt w w.heap.size y.A y.a.data.length y.cap y.a.data) (d2 : ∀ y ∈ zs, Byt w w.heap.size y.A y.a.data.length y.cap y.a.data) (hn : n ≤ 1000000) :
    Calls Tryz.prog 31 #[.slice A1 n c1, .slice A2 n c2] w fun e w' => e = .returned (.bool true) ∧ Below w.heap.size w w' := by
  have HP1 : Hid (∀ W, Below w.heap.size w W → RRd cAn 3 W W.heap.size A1 n c1 ys ∧ ∀ y ∈ ys, Byt W W.heap.size y.A y.a.data.length y.cap y.a.data) := Lib.hid fun W hb => ⟨(h1.below hb).more hb.size, fun y hy => ((d1 y hy).below hb).more hb.size⟩
  have HP2 : Hid (∀ W, Below w.heap.size w W → RRd cAn 3 W W.heap.size A2 n c2 zs ∧ ∀ y ∈ zs, Byt W W.heap.size y.A y.a.data.length y.cap y.a.data) := Lib.hid fun W hb => ⟨(h2.below hb).more hb.size, fun y hy => ((d2 y hy).below hb).more hb.size⟩
  have hn1 : (n : Int) ≤ 1000000 := by omega
  have HE := Lib.hid he
  clear h1 h2 d1 d2 he
  go_enter Tryz.func31, Tryz.ntmps31
  go_wp2_with fail
  go_loopg [5] n (fun g i wr => ∃ k : Nat, i = .int .i64 (k : Int) ∧ k ≤ n ∧ Hid (g + k = n) ∧ Hid (Below w.heap.size w wr))
  case atStart => exact ⟨0, rfl, Nat.zero_le _, Lib.hid rfl, Lib.hid (Below.refl _ _)⟩
  case round =>
    obtain ⟨k, rfl, hk, hg, HB⟩ := hrel
    by_cases hkn : k < n
    · have hk1 : (k : Int) < (n : Int) := by omega
      have hk9 : (k : Int) ≤ 1000000 := by omega
      obtain ⟨b1, o1, x, rfl, hb1, hx, hc1⟩ := (HP1.out _ HB.out).1.cell hkn
      obtain ⟨b2, o2, y, rfl, hb2, hy, hc2⟩ := (HP2.out _ HB.out).1.cell hkn
      have hxy : x.a = y.a := by
        have h3 : (ys.map AnV.a)[k]? = some x.a := by rw [List.getElem?_map, hx]; rfl
        rw [HE.out, List.getElem?_map, hy] at h3
        exact (Option.some.inj h3).symm
      have hbx := fun W hb => (HP1.out W hb).2 x (List.mem_of_getElem? hx)
      have hby := fun W hb => (HP2.out W hb).2 y (List.mem_of_getElem? hy)
      obtain ⟨xa, xA, xc⟩ := x
      obtain ⟨ya, yA, yc⟩ := y
      simp only at hxy hbx hby
      subst hxy
      have ONE : Hid (∀ W, Hid (Below wr.heap.size wr W) → Calls Tryz.prog 52 #[.agg #[.string ⟨xa.id.toArray⟩, .bool xa.ok, .slice xA xa.data.length xc], .agg #[.string ⟨xa.id.toArray⟩, .bool xa.ok, .slice yA xa.data.length yc]] W fun e w' => e = .returned (.bool true) ∧ Hid (Below wr.heap.size wr w')) := Lib.hid fun W hb => by
        have hb' := HB.out.trans (hb.out.mono HB.out.size)
        exact (refOne_yes xA yA xc yc xa W (hbx W hb') (hby W hb')).mono fun e w' ⟨h3, h4⟩ => ⟨h3, Lib.hid (hb.out.trans (h4.mono hb.out.size))⟩
      have C1 : Hid (∀ W, Hid (Below wr.heap.size wr W) → W.cell? ⟨b1, o1 + k * 3, none⟩ = some (.string ⟨xa.id.toArray⟩) ∧ W.cell? ⟨b1, o1 + k * 3 + 1, none⟩ = some (.bool xa.ok) ∧ W.cell? ⟨b1, o1 + k * 3 + 2, none⟩ = some (.slice xA xa.data.length xc) ∧ W.cell? ⟨b2, o2 + k * 3, none⟩ = some (.string ⟨xa.id.toArray⟩) ∧ W.cell? ⟨b2, o2 + k * 3 + 1, none⟩ = some (.bool xa.ok) ∧ W.cell? ⟨b2, o2 + k * 3 + 2, none⟩ = some (.slice yA xa.data.length yc)) := Lib.hid fun W hb => by
        refine ⟨(hb.out.cell hb1).trans ?_, (hb.out.cell hb1).trans ?_, (hb.out.cell hb1).trans ?_, (hb.out.cell hb2).trans ?_, (hb.out.cell hb2).trans ?_, (hb.out.cell hb2).trans ?_⟩
        · rw [show o1 + k * 3 = o1 + (k * 3 + 0) by omega]; exact hc1 0 _ rfl
        · rw [show o1 + k * 3 + 1 = o1 + (k * 3 + 1) by omega]; exact hc1 1 _ rfl
        · rw [show o1 + k * 3 + 2 = o1 + (k * 3 + 2) by omega]; exact hc1 2 _ rfl
        · rw [show o2 + k * 3 = o2 + (k * 3 + 0) by omega]; exact hc2 0 _ rfl
        · rw [show o2 + k * 3 + 1 = o2 + (k * 3 + 1) by omega]; exact hc2 1 _ rfl
        · rw [show o2 + k * 3 + 2 = o2 + (k * 3 + 2) by omega]; exact hc2 2 _ rfl
      have JG : Hid (Below wr.heap.size wr wr.drew) := Lib.hid (Below.refl _ _).drew
      clear hb1 hb2 hx hy hc1 hc2 hbx hby
      go_wp2_with fail
      refine wp_region_calm (fun W => Hid (Below wr.heap.size wr W)) 9 (by kernel_rfl) (by kernel_rfl) JG ?_
      simp only [List.take_succ_cons, List.take_zero, List.drop_succ_cons, List.drop_zero]
      repeat
        refine wpQuiet_step (fun K hK => ?_)
        go_simp
        first
          | (refine hK _ ?_; clear hK K)
          | (apply Exists.intro
             refine ⟨fun W hW => ?_, hK _ ?_⟩
             · first
                 | exact rfl
                 | (with_reducible exact ONE.out W hW)
                 | (obtain ⟨a0, a1, a2, a3, a4, a5⟩ := C1.out W hW; go_simp; done)
                 | (obtain ⟨a0, a1, a2, a3, a4, a5⟩ := C1.out W hW; go_simp; exact rfl)
             clear hK K)
      refine wpQuiet_nil ?_
      intro w9 hw9
      have HB9 := Lib.hid (HB.out.trans (hw9.out.mono HB.out.size))
      clear hw9 JG C1 ONE
      go_wp2
      go_roundg (n - (k + 1))
      case measure => have := hg.out; omega
      case rel => exact ⟨k + 1, by go_num, by omega, Lib.hid (by have := hg.out; omega), HB9⟩
    · have hk1 : ¬ (k : Int) < (n : Int) := by omega
      go_wp2
      go_ret
      exact ⟨rfl, HB.out⟩
set_option linter.unusedSimpArgs false in
set_option maxRecDepth 100000 in
set_option maxHeartbeats 4000000 in
theorem refLimits_c (m0 m1 m2 m3 m4 m5 : Int) (A : Option Addr) (n c : Nat) (w : World) :
    Calls Tryz.prog 29 #[.agg #[.int .i64 m0, .int .i64 m1, .int .i64 m2, .int .i64 m3, .int .i64 m4, .int .i64 m5, .slice A n c]] w fun e w' => ∃ p, e = .returned (.slice (some ⟨p, 0, none⟩) 6 6) ∧ Hid (w'.heap[p]? = some (.cells #[.int .i64 m0, .int .i64 m1, .int .i64 m2, .int .i64 m3, .int .i64 m4, .int .i64 m5] 3) ∧ Below w.heap.size w w') := by
  go_enter Tryz.func29, Tryz.ntmps29
  go_wp2
  go_ret
  exact ⟨_, rfl, Lib.hid ⟨by first | exact hp_new _ _ | (have := hp_new (w.alloc (.cells #[.int .i64 m0, .int .i64 m1, .int .i64 m2, .int .i64 m3, .int .i64 m4, .int .i64 m5, .slice A n c] 26)) (.cells #[.int .i64 m0, .int .i64 m1, .int .i64 m2, .int .i64 m3, .int .i64 m4, .int .i64 m5] 3); rw [World.size_alloc] at this; exact this), ((Below.refl _ _).alloc (Nat.le_refl _) _).alloc (by simp) _⟩⟩
/-- A case of the document's in memory. -/
structure RIn (w : World) (c : CaseC) (A2 A3 : Option Addr) (c2 c3 : Nat) (ys : List AnV) : Prop where
  al : RRd cS1 1 w w.heap.size A2 c.allow.length c2 c.allow
  ym : ys.map AnV.a = c.script
  sc : RRd cAn 3 w w.heap.size A3 c.script.length c3 ys
  dat : ∀ y ∈ ys, Byt w w.heap.size y.A y.a.data.length y.cap y.a.data
theorem RIn.up {w w' : World} {c : CaseC} {A2 A3 : Option Addr} {c2 c3 : Nat} {ys : List AnV} (h : RIn w c A2 A3 c2 c3 ys) (hb : Below w.heap.size w w') : RIn w' c A2 A3 c2 c3 ys :=
  ⟨(h.al.below hb).more hb.size, h.ym, (h.sc.below hb).more hb.size, fun y hy => ((h.dat y hy).below hb).more hb.size⟩
def rcaseW (c : CaseC) (A2 A3 : Option Addr) (c2 c3 : Nat) : Value := .agg (caseV (.string ⟨c.doc.toArray⟩) c.lim (.slice A2 c.allow.length c2) (.slice A3 c.script.length c3))
set_option linter.unusedSimpArgs false in
set_option maxRecDepth 100000 in
set_option maxHeartbeats 16000000 in
theorem refSame_yes (w : World) (c : CaseC) (A2 A3 B2 B3 : Option Addr) (c2 c3 d2 d3 : Nat) (ys zs : List AnV) (h1 : RIn w c A2 A3 c2 c3 ys) (h2 : RIn w c B2 B3 d2 d3 zs) (hn : c.allow.length ≤ 1000000 ∧ c.script.length ≤ 1000000) :
    Calls Tryz.prog 8 #[rcaseW c A2 A3 c2 c3, rcaseW c B2 B3 d2 d3] w fun e w' => e = .returned (.bool true) ∧ Below w.heap.size w w' := by
  obtain ⟨m0, m1, m2, m3, m4, m5, HCV⟩ := caseV_ints c.lim
  unfold rcaseW
  rw [HCV, HCV]
  obtain ⟨N1, hN1⟩ : ∃ N, w.heap.size = N := ⟨_, rfl⟩
  obtain ⟨w1, hw1⟩ : ∃ w1, w.alloc (.cells #[.string ⟨c.doc.toArray⟩, .int .i64 m0, .int .i64 m1, .int .i64 m2, .int .i64 m3, .int .i64 m4, .int .i64 m5, .slice A2 c.allow.length c2, .slice A3 c.script.length c3] 34) = w1 := ⟨_, rfl⟩
  obtain ⟨N2, hN2⟩ : ∃ N, w1.heap.size = N := ⟨_, rfl⟩
  obtain ⟨w2, hw2⟩ : ∃ w2, w1.alloc (.cells #[.string ⟨c.doc.toArray⟩, .int .i64 m0, .int .i64 m1, .int .i64 m2, .int .i64 m3, .int .i64 m4, .int .i64 m5, .slice B2 c.allow.length d2, .slice B3 c.script.length d3] 34) = w2 := ⟨_, rfl⟩
  have k1 : w2.heap[N1]? = some (.cells #[.string ⟨c.doc.toArray⟩, .int .i64 m0, .int .i64 m1, .int .i64 m2, .int .i64 m3, .int .i64 m4, .int .i64 m5, .slice A2 c.allow.length c2, .slice A3 c.script.length c3] 34) := by rw [← hw2, ← hw1, ← hN1]; exact hp_old (hp_new _ _)
  have k2 : w2.heap[N2]? = some (.cells #[.string ⟨c.doc.toArray⟩, .int .i64 m0, .int .i64 m1, .int .i64 m2, .int .i64 m3, .int .i64 m4, .int .i64 m5, .slice B2 c.allow.length d2, .slice B3 c.script.length d3] 34) := by rw [← hw2, ← hN2]; exact hp_new _ _
  have hb2 : Below w.heap.size w w2 := by
    rw [← hw2]
    refine Below.alloc (by rw [← hw1]; exact (Below.refl _ _).alloc (Nat.le_refl _) _) ?_ _
    rw [← hw1]; simp
  have KP : Hid (∀ W, Below w2.heap.size w2 W → (W.cell? ⟨N1, 1, none⟩ = some (.int .i64 m0) ∧ W.cell? ⟨N1, 2, none⟩ = some (.int .i64 m1) ∧ W.cell? ⟨N1, 3, none⟩ = some (.int .i64 m2) ∧ W.cell? ⟨N1, 4, none⟩ = some (.int .i64 m3) ∧ W.cell? ⟨N1, 5, none⟩ = some (.int .i64 m4) ∧ W.cell? ⟨N1, 6, none⟩ = some (.int .i64 m5) ∧ W.cell? ⟨N1, 7, none⟩ = some (.slice A2 c.allow.length c2)) ∧ (W.cell? ⟨N2, 1, none⟩ = some (.int .i64 m0) ∧ W.cell? ⟨N2, 2, none⟩ = some (.int .i64 m1) ∧ W.cell? ⟨N2, 3, none⟩ = some (.int .i64 m2) ∧ W.cell? ⟨N2, 4, none⟩ = some (.int .i64 m3) ∧ W.cell? ⟨N2, 5, none⟩ = some (.int .i64 m4) ∧ W.cell? ⟨N2, 6, none⟩ = some (.int .i64 m5) ∧ W.cell? ⟨N2, 7, none⟩ = some (.slice B2 c.allow.length d2)) ∧ Hid (Below w2.heap.size w2 W)) := Lib.hid fun W hb => by
    have e1 := (hb.block _ (lt_of k1)).trans k1
    have e2 := (hb.block _ (lt_of k2)).trans k2
    exact ⟨⟨by rw [cell_of 1 e1]; rfl, by rw [cell_of 2 e1]; rfl, by rw [cell_of 3 e1]; rfl, by rw [cell_of 4 e1]; rfl, by rw [cell_of 5 e1]; rfl, by rw [cell_of 6 e1]; rfl, by rw [cell_of 7 e1]; rfl⟩, ⟨by rw [cell_of 1 e2]; rfl, by rw [cell_of 2 e2]; rfl, by rw [cell_of 3 e2]; rfl, by rw [cell_of 4 e2]; rfl, by rw [cell_of 5 e2]; rfl, by rw [cell_of 6 e2]; rfl, by rw [cell_of 7 e2]; rfl⟩, Lib.hid hb⟩
  have HK := Lib.hid (And.intro k1 (And.intro k2 (And.intro hb2 (And.intro (h1.up hb2) (h2.up hb2)))))
  have HN := Lib.hid hn
  have HB0 : Hid (Below w2.heap.size w2 w2.drew) := Lib.hid (Below.refl _ _).drew
  obtain ⟨⟨a1, a2, a3, a4, a5, a6, a7⟩, ⟨b1, b2, b3, b4, b5, b6, b7⟩, _⟩ := KP.out w2.drew HB0.out
  clear h1 h2 k1 k2 hb2 hn
  go_enter Tryz.func8, Tryz.ntmps8
  go_wp2_with fail
  go_region_held3 (fun W => (W.cell? ⟨N1, 1, none⟩ = some (.int .i64 m0) ∧ W.cell? ⟨N1, 2, none⟩ = some (.int .i64 m1) ∧ W.cell? ⟨N1, 3, none⟩ = some (.int .i64 m2) ∧ W.cell? ⟨N1, 4, none⟩ = some (.int .i64 m3) ∧ W.cell? ⟨N1, 5, none⟩ = some (.int .i64 m4) ∧ W.cell? ⟨N1, 6, none⟩ = some (.int .i64 m5) ∧ W.cell? ⟨N1, 7, none⟩ = some (.slice A2 c.allow.length c2)) ∧ (W.cell? ⟨N2, 1, none⟩ = some (.int .i64 m0) ∧ W.cell? ⟨N2, 2, none⟩ = some (.int .i64 m1) ∧ W.cell? ⟨N2, 3, none⟩ = some (.int .i64 m2) ∧ W.cell? ⟨N2, 4, none⟩ = some (.int .i64 m3) ∧ W.cell? ⟨N2, 5, none⟩ = some (.int .i64 m4) ∧ W.cell? ⟨N2, 6, none⟩ = some (.int .i64 m5) ∧ W.cell? ⟨N2, 7, none⟩ = some (.slice B2 c.allow.length d2)) ∧ Hid (Below w2.heap.size w2 W)) (first | exact KP.out _ HBY.out | exact KP.out _ HBX.out | exact KP.out _ HB0.out) (first
    | (go_at_call_of 29 (Value.agg #[.int .i64 m0, .int .i64 m1, .int .i64 m2, .int .i64 m3, .int .i64 m4, .int .i64 m5, .slice A2 c.allow.length c2]); refine (refLimits_c m0 m1 m2 m3 m4 m5 A2 c.allow.length c2 _).mono ?_; rintro e wx ⟨px, rfl, HX⟩; have HBX := Lib.hid (HB0.out.trans (HX.out.2.mono HB0.out.size)); obtain ⟨⟨a1, a2, a3, a4, a5, a6, a7⟩, ⟨b1, b2, b3, b4, b5, b6, b7⟩, _⟩ := KP.out _ HBX.out)
    | (go_at_call_of 29 (Value.agg #[.int .i64 m0, .int .i64 m1, .int .i64 m2, .int .i64 m3, .int .i64 m4, .int .i64 m5, .slice B2 c.allow.length d2]); refine (refLimits_c m0 m1 m2 m3 m4 m5 B2 c.allow.length d2 _).mono ?_; rintro e wy ⟨py, rfl, HY⟩; have HBY := Lib.hid (HBX.out.trans (HY.out.2.mono HBX.out.size)); obtain ⟨⟨a1, a2, a3, a4, a5, a6, a7⟩, ⟨b1, b2, b3, b4, b5, b6, b7⟩, _⟩ := KP.out _ HBY.out))
  all_goals
    have HXY := Lib.hid (And.intro ((HY.out.2.block _ (lt_of HX.out.1)).trans HX.out.1) HY.out.1)
    clear HX HBX HB0 a1 a2 a3 a4 a5 a6 a7 b1 b2 b3 b4 b5 b6 b7 HY
    have hget : ∀ k : Nat, k < 6 → ∃ z : Int, (#[.int .i64 m0, .int .i64 m1, .int .i64 m2, .int .i64 m3, .int .i64 m4, .int .i64 m5] : Array Value)[k]? = some (.int .i64 z) := fun k hk => by
      rcases (show k = 0 ∨ k = 1 ∨ k = 2 ∨ k = 3 ∨ k = 4 ∨ k = 5 by omega) with rfl | rfl | rfl | rfl | rfl | rfl <;> exact ⟨_, rfl⟩
    have HGET := Lib.hid hget
    clear hget
    go_wp2_with fail
    go_loopg [7] 6 (fun g i wr => ∃ k : Nat, i = .int .i64 (k : Int) ∧ k ≤ 6 ∧ Hid (g + k = 6) ∧ Hid (Below wy.heap.size wy wr))
    case atStart => exact ⟨0, rfl, by omega, Lib.hid rfl, Lib.hid (Below.refl _ _)⟩
    case round =>
      obtain ⟨k, rfl, hk, hg, HB⟩ := hrel
      by_cases hkn : k < 6
      · have hk1 : (k : Int) < 6 := by omega
        obtain ⟨z, hz⟩ := HGET.out k hkn
        have x1 : wr.cell? ⟨px, k, none⟩ = some (.int .i64 z) := by rw [cell_of k ((HB.out.block _ (lt_of HXY.out.1)).trans HXY.out.1)]; exact hz
        have x2 : wr.cell? ⟨py, k, none⟩ = some (.int .i64 z) := by rw [cell_of k ((HB.out.block _ (lt_of HXY.out.2)).trans HXY.out.2)]; exact hz
        clear hz
        go_wp2
        go_quiet (fail)
        go_wp2
        go_roundg (6 - (k + 1))
        case measure => have := hg.out; omega
        case rel => exact ⟨k + 1, by go_num, by omega, Lib.hid (by have := hg.out; omega), Lib.hid (below_drewN' HB.out)⟩
      · have hk1 : ¬ (k : Int) < 6 := by omega
        have hb2r : Below w2.heap.size w2 wr := HBY.out.trans (HB.out.mono HBY.out.size)
        have e1 := (hb2r.block _ (lt_of HK.out.1)).trans HK.out.1
        have e2 := (hb2r.block _ (lt_of HK.out.2.1)).trans HK.out.2.1
        have x0 : wr.cell? ⟨N1, 0, none⟩ = some (.string ⟨c.doc.toArray⟩) := by rw [cell_of 0 e1]; rfl
        have x7 : wr.cell? ⟨N1, 7, none⟩ = some (.slice A2 c.allow.length c2) := by rw [cell_of 7 e1]; rfl
        have z0 : wr.cell? ⟨N2, 0, none⟩ = some (.string ⟨c.doc.toArray⟩) := by rw [cell_of 0 e2]; rfl
        have z7 : wr.cell? ⟨N2, 7, none⟩ = some (.slice B2 c.allow.length d2) := by rw [cell_of 7 e2]; rfl
        have hse := str_beqC c.doc
        have hI1 := HK.out.2.2.2.1.up hb2r
        have hI2 := HK.out.2.2.2.2.up hb2r
        have TX := Lib.hid (refTexts_yes A2 B2 c.allow.length c2 d2 c.allow wr hI1.al hI2.al HN.out.1)
        have E1 := Lib.hid (And.intro e1 (And.intro e2 hb2r))
        have HI := Lib.hid (And.intro hI1 hI2)
        clear e1 e2 hb2r hI1 hI2
        go_wp2_with fail
        refine TX.out.mono ?_
        rintro e w7 ⟨rfl, hb7⟩
        have hI1 := HI.out.1.up hb7
        have hI2 := HI.out.2.up hb7
        have x8 : w7.cell? ⟨N1, 8, none⟩ = some (.slice A3 c.script.length c3) := by rw [cell_of 8 ((hb7.block _ (lt_of E1.out.1)).trans E1.out.1)]; rfl
        have z8 : w7.cell? ⟨N2, 8, none⟩ = some (.slice B3 c.script.length d3) := by rw [cell_of 8 ((hb7.block _ (lt_of E1.out.2.1)).trans E1.out.2.1)]; rfl
        have SM := Lib.hid (refSame23_yes A3 B3 c.script.length c3 d3 ys zs w7 (hI1.ym.trans hI2.ym.symm) hI1.sc hI2.sc hI1.dat hI2.dat HN.out.2)
        have HF := Lib.hid (HK.out.2.2.1.trans ((E1.out.2.2.trans (hb7.mono E1.out.2.2.size)).mono HK.out.2.2.1.size))
        clear hb7 hI1 hI2 TX
        go_wp2_with fail
        refine SM.out.mono ?_
        rintro e w8 ⟨rfl, hb8⟩
        have HF8 := Lib.hid (HF.out.trans (hb8.mono HF.out.size))
        clear hb8
        go_wp2
        go_ret
        exact ⟨rfl, HF8.out⟩
end Go.Proofs.YtbllodeanfdebaaGreatDoor
