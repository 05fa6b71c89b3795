/- cases.Same where limits and lists are the same. -/
import Derived.Test.YtbllodeanfdebaaGreatDoorRows
import Derived.WalkKit
import Derived.ProofKit
import Derived.OpenShut
import Derived.ShutString
import Derived.ChangeOld
import Derived.Below
import Derived.BigQuiet
import Derived.Deep.QuietTactic
import Derived.Lib.Hide
import Derived.Deep.RegionHeld3
import Derived.Lib.SlBytesConst
import Derived.Laws.CopyOwn
import Derived.Laws.CopyRow
import Derived.Lib.Bytes
import Derived.Deep.LoopGhost
import Derived.Deep.DeepFit
import Derived.Deep.DeepMust
import Derived.WalkSpells
import Derived.WalkLawsBesides
import Derived.Laws.EntriesVeiled
import Derived.Lib.IndexBytes
import Derived.Deep.RegionWith
import Derived.Tactics2
import Derived.Laws.Rows
import Derived.Lib.Replace
import Derived.Lib.Split
import Derived.Lib.ItoaNum
import Derived.Lib.AtoiAllCases
import Derived.Lib.AtoiErrMem
import Derived.Lib.AppendIntMem
import Derived.Maps.OwnOps
import Derived.Maps.OwnSet
import Derived.Maps.Views
import Derived.Maps.AppendAt
import Derived.Deep.AppendLies
import Derived.Defers
import Derived.Recover
import Derived.Laws.Pointers
import Derived.Test.YtbllodeanfdebaaGreatDoorShelf
import Derived.Test.YtbllodeanfdebaaGreatDoorBase
import Derived.Test.YtbllodeanfdebaaGreatDoorCsE
import Derived.Test.YtbllodeanfdebaaGreatDoorCsG
import Derived.Test.YtbllodeanfdebaaGreatDoorCsH
import Derived.Test.YtbllodeanfdebaaGreatDoorCsI
import Derived.Test.YtbllodeanfdebaaGreatDoorCsJ
import Derived.Test.YtbllodeanfdebaaGreatDoorCalm
import Derived.Test.YtbllodeanfdebaaGreatDoorCsL
import Derived.Test.YtbllodeanfdebaaGreatDoorRowS
import Derived.Test.YtbllodeanfdebaaGreatDoorRowG
import Derived.Test.YtbllodeanfdebaaGreatDoorCsO
import Derived.Test.YtbllodeanfdebaaGreatDoorCsM
import Derived.Test.YtbllodeanfdebaaGreatDoorCsN2
import Derived.Test.YtbllodeanfdebaaGreatDoorStL
import Derived.Test.YtbllodeanfdebaaGreatDoorCsO2
import Derived.Test.YtbllodeanfdebaaGreatDoorCsQ
import Derived.Test.YtbllodeanfdebaaGreatDoorStr
import Derived.Test.YtbllodeanfdebaaGreatDoorCsR
import Derived.Test.YtbllodeanfdebaaGreatDoorCsS
import Derived.Test.YtbllodeanfdebaaGreatDoorCsT
import Derived.Test.YtbllodeanfdebaaGreatDoorCsU
import Derived.Test.YtbllodeanfdebaaGreatDoorCsV
import Derived.Test.YtbllodeanfdebaaGreatDoorCsW
import Derived.Test.YtbllodeanfdebaaGreatDoorCsY
import Derived.Test.YtbllodeanfdebaaGreatDoorCsZ
import Derived.Test.YtbllodeanfdebaaGreatDoorCsPa
import Derived.Test.YtbllodeanfdebaaGreatDoorRpC
import Derived.Test.YtbllodeanfdebaaGreatDoorCtD
import Derived.Test.YtbllodeanfdebaaGreatDoorCtE
import Derived.Test.YtbllodeanfdebaaGreatDoorCsB2
import Derived.Test.YtbllodeanfdebaaGreatDoorBuild
import Derived.Test.YtbllodeanfdebaaGreatDoorCsPb
import Derived.Test.YtbllodeanfdebaaGreatDoorCtF
import Derived.Test.YtbllodeanfdebaaGreatDoorCuA
import Derived.Test.YtbllodeanfdebaaGreatDoorCuB
namespace Go.Proofs.YtbllodeanfdebaaGreatDoor
open Go.ChangeShapes Go.WideShapes Go.ChangeAt Go.RowKit
set_option linter.unusedVariables false
theorem str_beqD (a b : List UInt8) : ((⟨a.toArray⟩ : ByteArray).toList == (⟨b.toArray⟩ : ByteArray).toList) = decide (a = b) := by
  by_cases h : a = b
  · subst h; rw [str_beqC, decide_eq_true rfl]
  · rw [str_bneC h, decide_eq_false h]
set_option linter.unusedSimpArgs false in
set_option maxRecDepth 100000 in
set_option maxHeartbeats 8000000 in
theorem bytesEq_c (A1 A2 : Option Addr) (n1 c1 n2 c2 : Nat) (l1 l2 : List UInt8) (w : World) (h1 : Byt w w.heap.size A1 n1 c1 l1) (h2 : Byt w w.heap.size A2 n2 c2 l2) :
    Calls Tryz.prog 41 #[.slice A1 n1 c1, .slice A2 n2 c2] w fun e w' => e = .returned (.bool (decide (l1 = l2))) ∧ w = w' := by
  have hs1 := h1.str
  have hs2 := h2.str
  have hse := str_beqD l1 l2
  have hse2 : (l1 == l2) = decide (l1 = l2) := by
    by_cases h : l1 = l2
    · subst h; simp
    · rw [decide_eq_false h]; simpa using h
  obtain ⟨b, hb⟩ : ∃ b, decide (l1 = l2) = b := ⟨_, rfl⟩
  rw [hb] at hse hse2 ⊢
  clear h1 h2 hb
  go_enter Tryz.func41, Tryz.ntmps41
  go_wp2
  go_ret
  exact ⟨rfl, rfl⟩
set_option linter.unusedSimpArgs false in
set_option maxRecDepth 100000 in
set_option maxHeartbeats 8000000 in
theorem sameAn_yes (A1 A2 : Option Addr) (c1 c2 : Nat) (a : AnsC) (w : World) (h1 : Byt w w.heap.size A1 a.data.length c1 a.data) (h2 : Byt w w.heap.size A2 a.data.length c2 a.data) :
    Calls Tryz.prog 44 #[.agg #[.string ⟨a.id.toArray⟩, .bool a.ok, .slice A1 a.data.length c1], .agg #[.string ⟨a.id.toArray⟩, .bool a.ok, .slice A2 a.data.length c2]] w fun e w' => e = .returned (.bool true) ∧ Below w.heap.size w w' := by
  obtain ⟨id, ok, d⟩ := a
  simp only at h1 h2 ⊢
  obtain ⟨n, hn⟩ : ∃ n, d.length = n := ⟨_, rfl⟩
  rw [hn] at h1 h2 ⊢
  obtain ⟨w1, hw1⟩ : ∃ w1, w.alloc (.cells #[.string ⟨id.toArray⟩, .bool ok, .slice A1 n c1] 71) = w1 := ⟨_, rfl⟩
  obtain ⟨w2, hw2⟩ : ∃ w2, w1.alloc (.cells #[.string ⟨id.toArray⟩, .bool ok, .slice A2 n c2] 71) = w2 := ⟨_, rfl⟩
  have hb1 : Below w.heap.size w w1 := by rw [← hw1]; exact (Below.refl _ _).alloc (Nat.le_refl _) _
  have hb2 : Below w1.heap.size w1 w2 := by rw [← hw2]; exact (Below.refl _ _).alloc (Nat.le_refl _) _
  have hbb : Below w.heap.size w w2 := hb1.trans (hb2.mono hb1.size)
  have BE := bytesEq_c A1 A2 n c1 n c2 d d w2 ((h1.below hbb).more hbb.size) ((h2.below hbb).more hbb.size)
  rw [decide_eq_true rfl] at BE
  have HBE := Lib.hid BE
  have k1 : w2.heap[w.heap.size]? = some (.cells #[.string ⟨id.toArray⟩, .bool ok, .slice A1 n c1] 71) := by rw [← hw2, ← hw1]; exact hp_old (hp_new _ _)
  have k2 : w2.heap[w1.heap.size]? = some (.cells #[.string ⟨id.toArray⟩, .bool ok, .slice A2 n c2] 71) := by rw [← hw2]; exact hp_new _ _
  have x0 : w2.cell? ⟨w.heap.size, 0, none⟩ = some (.string ⟨id.toArray⟩) := by rw [cell_of 0 k1]; rfl
  have x1 : w2.cell? ⟨w.heap.size, 1, none⟩ = some (.bool ok) := by rw [cell_of 1 k1]; rfl
  have x2 : w2.cell? ⟨w.heap.size, 2, none⟩ = some (.slice A1 n c1) := by rw [cell_of 2 k1]; rfl
  have z0 : w2.cell? ⟨w1.heap.size, 0, none⟩ = some (.string ⟨id.toArray⟩) := by rw [cell_of 0 k2]; rfl
  have z1 : w2.cell? ⟨w1.heap.size, 1, none⟩ = some (.bool ok) := by rw [cell_of 1 k2]; rfl
  have z2 : w2.cell? ⟨w1.heap.size, 2, none⟩ = some (.slice A2 n c2) := by rw [cell_of 2 k2]; rfl
  have hse := str_beqC id
  have HBB := Lib.hid hbb
  clear h1 h2 hb1 hb2 hbb k1 k2 hn BE
  cases ok
  all_goals
    go_enter Tryz.func44, Tryz.ntmps44
    go_wp2_with fail
    refine HBE.out.mono ?_
    rintro e w3 ⟨rfl, rfl⟩
    go_wp2
    go_ret
    exact ⟨rfl, HBB.out⟩
set_option linter.unusedSimpArgs false in
set_option maxRecDepth 100000 in
set_option maxHeartbeats 8000000 in
theorem eqAns_yes (A1 A2 : Option Addr) (n c1 c2 : Nat) (ys zs : List AnV) (w : World) (he : ys.map AnV.a = zs.map AnV.a) (h1 : RRd cAn 3 w w.heap.size A1 n c1 ys) (h2 : RRd cAn 3 w w.heap.size A2 n c2 zs) (d1 : ∀ y ∈ ys, Byt w w.heap.size y.A y.a.data.length y.cap y.a.data) (d2 : ∀ y ∈ zs, Byt w w.heap.size y.A y.a.data.length y.cap y.a.data) (hn : n ≤ 1000000) :
    Calls Tryz.prog 43 #[.slice A1 n c1, .slice A2 n c2, .func (.func 44) #[] #[]] w fun e w' => e = .returned (.bool true) ∧ Below w.heap.size w w' := by
  have HP1 : Hid (∀ W, Below w.heap.size w W → RRd cAn 3 W W.heap.size A1 n c1 ys ∧ ∀ y ∈ ys, Byt W W.heap.size y.A y.a.data.length y.cap y.a.data) := Lib.hid fun W hb => ⟨(h1.below hb).more hb.size, fun y hy => ((d1 y hy).below hb).more hb.size⟩
  have HP2 : Hid (∀ W, Below w.heap.size w W → RRd cAn 3 W W.heap.size A2 n c2 zs ∧ ∀ y ∈ zs, Byt W W.heap.size y.A y.a.data.length y.cap y.a.data) := Lib.hid fun W hb => ⟨(h2.below hb).more hb.size, fun y hy => ((d2 y hy).below hb).more hb.size⟩
  have hn1 : (n : Int) ≤ 1000000 := by omega
  have HE := Lib.hid he
  have ec : ∀ args W, (callFunc 44 args).run Tryz.prog W = .ok (.enter 44 args) W := enters_of Tryz.func44 (by kernel_rfl) rfl
  clear h1 h2 d1 d2 he
  go_enter Tryz.func43, Tryz.ntmps43
  go_wp2_with fail
  go_loopg [17] n (fun g i wr => ∃ k : Nat, i = .int .i64 (k : Int) ∧ k ≤ n ∧ Hid (g + k = n) ∧ Hid (Below w.heap.size w wr))
  case atStart => exact ⟨0, rfl, Nat.zero_le _, Lib.hid rfl, Lib.hid (Below.refl _ _)⟩
  case round =>
    obtain ⟨k, rfl, hk, hg, HB⟩ := hrel
    by_cases hkn : k < n
    · have hk1 : (k : Int) < (n : Int) := by omega
      have hk9 : (k : Int) ≤ 1000000 := by omega
      obtain ⟨b1, o1, x, rfl, hb1, hx, hc1⟩ := (HP1.out _ HB.out).1.cell hkn
      obtain ⟨b2, o2, y, rfl, hb2, hy, hc2⟩ := (HP2.out _ HB.out).1.cell hkn
      have hxy : x.a = y.a := by
        have h3 : (ys.map AnV.a)[k]? = some x.a := by rw [List.getElem?_map, hx]; rfl
        rw [HE.out, List.getElem?_map, hy] at h3
        exact (Option.some.inj h3).symm
      have hbx := fun W hb => (HP1.out W hb).2 x (List.mem_of_getElem? hx)
      have hby := fun W hb => (HP2.out W hb).2 y (List.mem_of_getElem? hy)
      obtain ⟨xa, xA, xc⟩ := x
      obtain ⟨ya, yA, yc⟩ := y
      simp only at hxy hbx hby
      subst hxy
      obtain ⟨wa, hwa⟩ : ∃ wa, wr.alloc (.cells #[.string ⟨xa.id.toArray⟩, .bool xa.ok, .slice xA xa.data.length xc] 71) = wa := ⟨_, rfl⟩
      obtain ⟨wb, hwb⟩ : ∃ wb, wa.alloc (.cells #[.string ⟨xa.id.toArray⟩, .bool xa.ok, .slice yA xa.data.length yc] 71) = wb := ⟨_, rfl⟩
      have ka : Below wr.heap.size wr wa := by rw [← hwa]; exact (Below.refl _ _).alloc (Nat.le_refl _) _
      have kb : Below wa.heap.size wa wb := by rw [← hwb]; exact (Below.refl _ _).alloc (Nat.le_refl _) _
      have y0 : wr.cell? ⟨b1, o1 + k * 3, none⟩ = some (.string ⟨xa.id.toArray⟩) := by rw [show o1 + k * 3 = o1 + (k * 3 + 0) by omega]; exact hc1 0 _ rfl
      have y1 : wr.cell? ⟨b1, o1 + k * 3 + 1, none⟩ = some (.bool xa.ok) := by rw [show o1 + k * 3 + 1 = o1 + (k * 3 + 1) by omega]; exact hc1 1 _ rfl
      have y2 : wr.cell? ⟨b1, o1 + k * 3 + 2, none⟩ = some (.slice xA xa.data.length xc) := by rw [show o1 + k * 3 + 2 = o1 + (k * 3 + 2) by omega]; exact hc1 2 _ rfl
      have z0 : wa.cell? ⟨b2, o2 + k * 3, none⟩ = some (.string ⟨xa.id.toArray⟩) := (ka.cell hb2).trans (by rw [show o2 + k * 3 = o2 + (k * 3 + 0) by omega]; exact hc2 0 _ rfl)
      have z1 : wa.cell? ⟨b2, o2 + k * 3 + 1, none⟩ = some (.bool xa.ok) := (ka.cell hb2).trans (by rw [show o2 + k * 3 + 1 = o2 + (k * 3 + 1) by omega]; exact hc2 1 _ rfl)
      have z2 : wa.cell? ⟨b2, o2 + k * 3 + 2, none⟩ = some (.slice yA xa.data.length yc) := (ka.cell hb2).trans (by rw [show o2 + k * 3 + 2 = o2 + (k * 3 + 2) by omega]; exact hc2 2 _ rfl)
      have HBB : Hid (Below w.heap.size w wb) := Lib.hid (HB.out.trans ((ka.trans (kb.mono ka.size)).mono HB.out.size))
      have k1 : wb.heap[wr.heap.size]? = some (.cells #[.string ⟨xa.id.toArray⟩, .bool xa.ok, .slice xA xa.data.length xc] 71) := by rw [← hwb, ← hwa]; exact hp_old (hp_new _ _)
      have k2 : wb.heap[wa.heap.size]? = some (.cells #[.string ⟨xa.id.toArray⟩, .bool xa.ok, .slice yA xa.data.length yc] 71) := by rw [← hwb]; exact hp_new _ _
      have x0 : wb.cell? ⟨wr.heap.size, 0, none⟩ = some (.string ⟨xa.id.toArray⟩) := by rw [cell_of 0 k1]; rfl
      have x1 : wb.cell? ⟨wr.heap.size, 1, none⟩ = some (.bool xa.ok) := by rw [cell_of 1 k1]; rfl
      have x2 : wb.cell? ⟨wr.heap.size, 2, none⟩ = some (.slice xA xa.data.length xc) := by rw [cell_of 2 k1]; rfl
      have v0 : wb.cell? ⟨wa.heap.size, 0, none⟩ = some (.string ⟨xa.id.toArray⟩) := by rw [cell_of 0 k2]; rfl
      have v1 : wb.cell? ⟨wa.heap.size, 1, none⟩ = some (.bool xa.ok) := by rw [cell_of 1 k2]; rfl
      have v2 : wb.cell? ⟨wa.heap.size, 2, none⟩ = some (.slice yA xa.data.length yc) := by rw [cell_of 2 k2]; rfl
      have ONE := Lib.hid (sameAn_yes xA yA xc yc xa wb (hbx wb HBB.out) (hby wb HBB.out))
      clear hb1 hb2 hx hy hc1 hc2 hbx hby ka kb k1 k2
      go_wp2_with fail
      refine ONE.out.mono ?_
      rintro e w6 ⟨rfl, hb6⟩
      have HB6 := Lib.hid (HBB.out.trans (hb6.mono HBB.out.size))
      clear hb6
      go_wp2
      go_roundg (n - (k + 1))
      case measure => have := hg.out; omega
      case rel => exact ⟨k + 1, by go_num, by omega, Lib.hid (by have := hg.out; omega), HB6⟩
    · have hk1 : ¬ (k : Int) < (n : Int) := by omega
      go_wp2
      go_ret
      exact ⟨rfl, HB.out⟩
set_option linter.unusedSimpArgs false in
set_option maxRecDepth 100000 in
set_option maxHeartbeats 8000000 in
theorem eqTexts_yes (A1 A2 : Option Addr) (n c1 c2 : Nat) (l : List (List UInt8)) (w : World) (h1 : RRd cS1 1 w w.heap.size A1 n c1 l) (h2 : RRd cS1 1 w w.heap.size A2 n c2 l) (hn : n ≤ 1000000) :
    Calls Tryz.prog 42 #[.slice A1 n c1, .slice A2 n c2] w fun e w' => e = .returned (.bool true) ∧ Below w.heap.size w w' := by
  have HP1 : Hid (∀ W, Below w.heap.size w W → RRd cS1 1 W W.heap.size A1 n c1 l) := Lib.hid fun W hb => (h1.below hb).more hb.size
  have HP2 : Hid (∀ W, Below w.heap.size w W → RRd cS1 1 W W.heap.size A2 n c2 l) := Lib.hid fun W hb => (h2.below hb).more hb.size
  have hn1 : (n : Int) ≤ 1000000 := by omega
  clear h1 h2
  go_enter Tryz.func42, Tryz.ntmps42
  go_wp2_with fail
  go_loopg [13] n (fun g i wr => ∃ k : Nat, i = .int .i64 (k : Int) ∧ k ≤ n ∧ Hid (g + k = n) ∧ Hid (Below w.heap.size w wr))
  case atStart => exact ⟨0, rfl, Nat.zero_le _, Lib.hid rfl, Lib.hid (Below.refl _ _)⟩
  case round =>
    obtain ⟨k, rfl, hk, hg, HB⟩ := hrel
    by_cases hkn : k < n
    · have hk1 : (k : Int) < (n : Int) := by omega
      have hk9 : (k : Int) ≤ 1000000 := by omega
      obtain ⟨b1, o1, x, rfl, hb1, hx, hc1⟩ := (HP1.out _ HB.out).cell hkn
      obtain ⟨b2, o2, y, rfl, hb2, hy, hc2⟩ := (HP2.out _ HB.out).cell hkn
      obtain rfl : x = y := by rw [hx] at hy; exact Option.some.inj hy
      have y1 : wr.cell? ⟨b1, o1 + k, none⟩ = some (.string ⟨x.toArray⟩) := by rw [show o1 + k = o1 + (k * 1 + 0) by omega]; exact hc1 0 _ rfl
      have y2 : wr.cell? ⟨b2, o2 + k, none⟩ = some (.string ⟨x.toArray⟩) := by rw [show o2 + k = o2 + (k * 1 + 0) by omega]; exact hc2 0 _ rfl
      have hse := str_beqC x
      clear hb1 hb2 hx hy hc1 hc2
      go_wp2
      go_quiet (fail)
      go_wp2
      go_roundg (n - (k + 1))
      case measure => have := hg.out; omega
      case rel => exact ⟨k + 1, by go_num, by omega, Lib.hid (by have := hg.out; omega), Lib.hid (below_drewN' HB.out)⟩
    · have hk1 : ¬ (k : Int) < (n : Int) := by omega
      go_wp2
      go_ret
      exact ⟨rfl, HB.out⟩
set_option linter.unusedSimpArgs false in
set_option maxRecDepth 100000 in
set_option maxHeartbeats 16000000 in
theorem csSame_c (w : World) (d1 d2 : List UInt8) (al : List (List UInt8)) (A1 A2 A3 B1 B2 B3 : Option Addr) (c1 c2 c3 f1 f2 f3 : Nat) (ys zs : List AnV) (m0 m1 m2 m3 m4 m5 : Int) (h1 : CInI w d1 al A1 A2 A3 c1 c2 c3 ys) (h2 : CInI w d2 al B1 B2 B3 f1 f2 f3 zs) (he : ys.map AnV.a = zs.map AnV.a) (hn : al.length ≤ 1000000 ∧ ys.length ≤ 1000000) :
    Calls Tryz.prog 15 #[.agg #[.slice A1 d1.length c1, .int .i64 m0, .int .i64 m1, .int .i64 m2, .int .i64 m3, .int .i64 m4, .int .i64 m5, .slice A2 al.length c2, .slice A3 ys.length c3], .agg #[.slice B1 d2.length f1, .int .i64 m0, .int .i64 m1, .int .i64 m2, .int .i64 m3, .int .i64 m4, .int .i64 m5, .slice B2 al.length f2, .slice B3 zs.length f3]] w fun e w' => e = .returned (.bool (decide (d1 = d2))) ∧ Below w.heap.size w w' := by
  have hyz : ys.length = zs.length := by have := congrArg List.length he; simpa using this
  obtain ⟨n1, hn1⟩ : ∃ n, d1.length = n := ⟨_, rfl⟩
  obtain ⟨n2, hn2⟩ : ∃ n, d2.length = n := ⟨_, rfl⟩
  obtain ⟨n3, hn3⟩ : ∃ n, zs.length = n := ⟨_, rfl⟩
  have i1doc := h1.doc
  have i2doc := h2.doc
  have i1sc := h1.sc
  have i2sc := h2.sc
  rw [hn1] at i1doc
  rw [hn2] at i2doc
  rw [hyz, hn3] at i1sc
  rw [hn3] at i2sc
  rw [hn1, hn2, hyz, hn3]
  obtain ⟨N1, hN1⟩ : ∃ N, w.heap.size = N := ⟨_, rfl⟩
  obtain ⟨w1, hw1⟩ : ∃ w1, w.alloc (.cells #[.slice A1 n1 c1, .int .i64 m0, .int .i64 m1, .int .i64 m2, .int .i64 m3, .int .i64 m4, .int .i64 m5, .slice A2 al.length c2, .slice A3 n3 c3] 29) = w1 := ⟨_, rfl⟩
  obtain ⟨N2, hN2⟩ : ∃ N, w1.heap.size = N := ⟨_, rfl⟩
  obtain ⟨w2, hw2⟩ : ∃ w2, w1.alloc (.cells #[.slice B1 n2 f1, .int .i64 m0, .int .i64 m1, .int .i64 m2, .int .i64 m3, .int .i64 m4, .int .i64 m5, .slice B2 al.length f2, .slice B3 n3 f3] 29) = w2 := ⟨_, rfl⟩
  have k1 : w2.heap[N1]? = some (.cells #[.slice A1 n1 c1, .int .i64 m0, .int .i64 m1, .int .i64 m2, .int .i64 m3, .int .i64 m4, .int .i64 m5, .slice A2 al.length c2, .slice A3 n3 c3] 29) := by rw [← hw2, ← hw1, ← hN1]; exact hp_old (hp_new _ _)
  have k2 : w2.heap[N2]? = some (.cells #[.slice B1 n2 f1, .int .i64 m0, .int .i64 m1, .int .i64 m2, .int .i64 m3, .int .i64 m4, .int .i64 m5, .slice B2 al.length f2, .slice B3 n3 f3] 29) := by rw [← hw2, ← hN2]; exact hp_new _ _
  have hb2 : Below w.heap.size w w2 := by
    rw [← hw2]
    refine Below.alloc (by rw [← hw1]; exact (Below.refl _ _).alloc (Nat.le_refl _) _) ?_ _
    rw [← hw1]; simp
  have hcell : ∀ k, k < 6 → ∃ v : Int, (#[.slice A1 n1 c1, .int .i64 m0, .int .i64 m1, .int .i64 m2, .int .i64 m3, .int .i64 m4, .int .i64 m5, .slice A2 al.length c2, .slice A3 n3 c3] : Array Value)[1 + k]? = some (.int .i64 v) ∧ (#[.slice B1 n2 f1, .int .i64 m0, .int .i64 m1, .int .i64 m2, .int .i64 m3, .int .i64 m4, .int .i64 m5, .slice B2 al.length f2, .slice B3 n3 f3] : Array Value)[1 + k]? = some (.int .i64 v) := fun k hk => by
    rcases (show k = 0 ∨ k = 1 ∨ k = 2 ∨ k = 3 ∨ k = 4 ∨ k = 5 by omega) with rfl | rfl | rfl | rfl | rfl | rfl <;> exact ⟨_, rfl, rfl⟩
  have HK := Lib.hid (And.intro k1 (And.intro k2 (And.intro hb2 hcell)))
  have BE := Lib.hid (fun W (hb : Below w.heap.size w W) => bytesEq_c A1 B1 n1 c1 n2 f1 d1 d2 W ((i1doc.below hb).more hb.size) ((i2doc.below hb).more hb.size))
  have TX := Lib.hid (fun W (hb : Below w.heap.size w W) => eqTexts_yes A2 B2 al.length c2 f2 al W ((h1.al.below hb).more hb.size) ((h2.al.below hb).more hb.size) hn.1)
  have SM := Lib.hid (fun W (hb : Below w.heap.size w W) => eqAns_yes A3 B3 n3 c3 f3 ys zs W he ((i1sc.below hb).more hb.size) ((i2sc.below hb).more hb.size) (fun y hy => ((h1.dat y hy).below hb).more hb.size) (fun y hy => ((h2.dat y hy).below hb).more hb.size) (by rw [← hn3, ← hyz]; exact hn.2))
  clear h1 h2 k1 k2 hb2 hcell he hn hyz hn1 hn2 hn3 i1doc i2doc i1sc i2sc
  obtain ⟨dd, hdd⟩ : ∃ dd, decide (d1 = d2) = dd := ⟨_, rfl⟩
  rw [hdd] at BE ⊢
  clear hdd
  go_enter Tryz.func15, Tryz.ntmps15
  go_wp2_with fail
  refine (limits_c N1 w2).mono ?_
  rintro e w3 ⟨rfl, hp3, hb3⟩
  obtain ⟨p1, hp1⟩ : ∃ p, w2.heap.size = p := ⟨_, rfl⟩
  rw [hp1] at hp3 hb3 ⊢
  have HB3 := Lib.hid (And.intro hp3 (show Below w2.heap.size w2 w3 by rw [hp1]; exact hb3))
  clear hp3 hb3 hp1
  go_wp2_with fail
  refine (limits_c N2 w3).mono ?_
  rintro e w4 ⟨rfl, hp4, hb4⟩
  have HB4 := Lib.hid (And.intro ((hb4.block _ (lt_of HB3.out.1)).trans HB3.out.1) (And.intro hp4 (HB3.out.2.trans (hb4.mono HB3.out.2.size))))
  obtain ⟨p2, hp2⟩ : ∃ p, w3.heap.size = p := ⟨_, rfl⟩
  rw [hp2] at HB4 ⊢
  clear hp4 hb4 HB3 hp2
  have HF4 : Hid (Below w.heap.size w w4) := Lib.hid (HK.out.2.2.1.trans (HB4.out.2.2.mono HK.out.2.2.1.size))
  go_wp2_with fail
  go_loopg [14] 6 (fun g i wr => ∃ k : Nat, i = .int .i64 (k : Int) ∧ k ≤ 6 ∧ Hid (g + k = 6) ∧ Hid (Below w4.heap.size w4 wr))
  case atStart => exact ⟨0, rfl, by omega, Lib.hid rfl, Lib.hid (Below.refl _ _)⟩
  case round =>
    obtain ⟨k, rfl, hk, hg, HB⟩ := hrel
    have hb2r : Below w2.heap.size w2 wr := HB4.out.2.2.trans (HB.out.mono HB4.out.2.2.size)
    have e1 := (hb2r.block _ (lt_of HK.out.1)).trans HK.out.1
    have e2 := (hb2r.block _ (lt_of HK.out.2.1)).trans HK.out.2.1
    by_cases hkn : k < 6
    · have hk1 : (k : Int) < 6 := by omega
      obtain ⟨v, hv1, hv2⟩ := HK.out.2.2.2 k hkn
      have x1 : wr.cell? ⟨p1, k, none⟩ = some (.pointer (some ⟨N1, 1 + k, none⟩)) := by rw [cell_of k ((HB.out.block _ (lt_of HB4.out.1)).trans HB4.out.1), ptrs_get N1 k hkn]
      have x2 : wr.cell? ⟨p2, k, none⟩ = some (.pointer (some ⟨N2, 1 + k, none⟩)) := by rw [cell_of k ((HB.out.block _ (lt_of HB4.out.2.1)).trans HB4.out.2.1), ptrs_get N2 k hkn]
      have x3 : wr.cell? ⟨N1, 1 + k, none⟩ = some (.int .i64 v) := by rw [cell_of _ e1]; exact hv1
      have x4 : wr.cell? ⟨N2, 1 + k, none⟩ = some (.int .i64 v) := by rw [cell_of _ e2]; exact hv2
      clear hv1 hv2 e1 e2 hb2r
      go_wp2
      go_quiet (fail)
      go_wp2
      go_roundg (6 - (k + 1))
      case measure => have := hg.out; omega
      case rel => exact ⟨k + 1, by go_num, by omega, Lib.hid (by have := hg.out; omega), Lib.hid (below_drewN' HB.out)⟩
    · have hk1 : ¬ (k : Int) < 6 := by omega
      have hwr : Below w.heap.size w wr := HF4.out.trans (HB.out.mono HF4.out.size)
      have x0 : wr.cell? ⟨N1, 0, none⟩ = some (.slice A1 n1 c1) := by rw [cell_of 0 e1]; rfl
      have x7 : wr.cell? ⟨N1, 7, none⟩ = some (.slice A2 al.length c2) := by rw [cell_of 7 e1]; rfl
      have z0 : wr.cell? ⟨N2, 0, none⟩ = some (.slice B1 n2 f1) := by rw [cell_of 0 e2]; rfl
      have z7 : wr.cell? ⟨N2, 7, none⟩ = some (.slice B2 al.length f2) := by rw [cell_of 7 e2]; rfl
      have E1 := Lib.hid (And.intro e1 (And.intro e2 hwr))
      have B1 := Lib.hid (BE.out wr hwr)
      have B2 := Lib.hid (TX.out wr hwr)
      clear e1 e2 hb2r hwr BE TX
      cases dd with
      | false =>
        go_wp2_with fail
        refine B1.out.mono ?_
        rintro e w7 ⟨rfl, rfl⟩
        go_wp2
        go_ret
        exact ⟨rfl, E1.out.2.2⟩
      | true =>
        go_wp2_with fail
        refine B1.out.mono ?_
        rintro e w7 ⟨rfl, rfl⟩
        go_wp2_with fail
        refine B2.out.mono ?_
        rintro e w7 ⟨rfl, hb7⟩
        have x8 : w7.cell? ⟨N1, 8, none⟩ = some (.slice A3 n3 c3) := by rw [cell_of 8 ((hb7.block _ (lt_of E1.out.1)).trans E1.out.1)]; rfl
        have z8 : w7.cell? ⟨N2, 8, none⟩ = some (.slice B3 n3 f3) := by rw [cell_of 8 ((hb7.block _ (lt_of E1.out.2.1)).trans E1.out.2.1)]; rfl
        have HF := Lib.hid (E1.out.2.2.trans (hb7.mono E1.out.2.2.size))
        have SMC := Lib.hid (SM.out w7 HF.out)
        clear hb7 SM
        go_wp2_with fail
        refine SMC.out.mono ?_
        rintro e w8 ⟨rfl, hb8⟩
        have HF8 := Lib.hid (HF.out.trans (hb8.mono HF.out.size))
        clear hb8
        go_wp2
        go_ret
        exact ⟨rfl, HF8.out⟩
end Go.Proofs.YtbllodeanfdebaaGreatDoor
