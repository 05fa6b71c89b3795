/- The first line where a number is wrong. -/
import Derived.Test.YtbllodeanfdebaaGreatDoorRows
import Derived.WalkKit
import Derived.ProofKit
import Derived.OpenShut
import Derived.ShutString
import Derived.ChangeOld
import Derived.Below
import Derived.BigQuiet
import Derived.Deep.QuietTactic
import Derived.Lib.Hide
import Derived.Deep.RegionHeld3
import Derived.Lib.SlBytesConst
import Derived.Laws.CopyOwn
import Derived.Laws.CopyRow
import Derived.Lib.Bytes
import Derived.Deep.LoopGhost
import Derived.Deep.DeepFit
import Derived.Deep.DeepMust
import Derived.WalkSpells
import Derived.WalkLawsBesides
import Derived.Laws.EntriesVeiled
import Derived.Laws.Rows
import Derived.Lib.Replace
import Derived.Lib.Split
import Derived.Lib.ItoaNum
import Derived.Lib.AtoiAllCases
import Derived.Lib.AtoiErrMem
import Derived.Lib.AppendIntMem
import Derived.Deep.RegionWith
import Derived.Test.YtbllodeanfdebaaGreatDoorShelf
import Derived.Test.YtbllodeanfdebaaGreatDoorBase
import Derived.Test.YtbllodeanfdebaaGreatDoorCsE
import Derived.Test.YtbllodeanfdebaaGreatDoorCsG
import Derived.Test.YtbllodeanfdebaaGreatDoorCsH
import Derived.Test.YtbllodeanfdebaaGreatDoorCsI
import Derived.Test.YtbllodeanfdebaaGreatDoorCsJ
import Derived.Test.YtbllodeanfdebaaGreatDoorCalm
import Derived.Test.YtbllodeanfdebaaGreatDoorCsL
import Derived.Test.YtbllodeanfdebaaGreatDoorRowS
import Derived.Test.YtbllodeanfdebaaGreatDoorCsM
import Derived.Test.YtbllodeanfdebaaGreatDoorCsN2
import Derived.Test.YtbllodeanfdebaaGreatDoorStL
namespace Go.Proofs.YtbllodeanfdebaaGreatDoor
open Go.ChangeShapes Go.WideShapes Go.ChangeAt Go.RowKit
set_option linter.unusedVariables false
set_option maxRecDepth 100000 in
set_option maxHeartbeats 8000000 in
theorem lnLimits_no3 (B lb cb t : Nat) (y : List UInt8) (ls : List (List UInt8)) (tl : List UInt8) (w : World) (h : LnAt w lb (unl (y :: ls) tl) t) (hw : WC B w) (hc : w.heap[cb]? = some (.cells (limV []) 29)) (hBl : B ≤ lb) (hBc : B ≤ cb) (hne : lb ≠ cb) (hn : (10 : UInt8) ∉ y) (hp : wLim.isPrefixOf y = true) (h6 : (wordsP (y.drop 7)).length = 6) (hM : (wordsP (y.drop 7)).mapM numD = none) (hm : (unl (y :: ls) tl).length ≤ 100000) (ht : t ≤ 100000) :
    Calls Tryz.prog 17 #[.pointer (some ⟨lb, 0, none⟩), .pointer (some ⟨cb, 1, none⟩)] w fun e w' => e = .panicked (lineV (t + 1)) ∧ Kp2 lb cb w w' ∧ ∃ l, w'.heap[cb]? = some (.cells (limV l) 29) := by
  have hcl := lt_of hc
  have hyl : y.length ≤ 100000 := by rw [unl_cons] at hm; simp at hm; omega
  have MU := Lib.hid (must_yes B lb t wLim y ls tl w h hw hn hp hm ht)
  obtain ⟨s, hs⟩ : ∃ s, y.drop wLim.length = s := ⟨_, rfl⟩
  rw [show y.drop 7 = s from hs] at h6 hM
  rw [hs] at MU
  have hsl : s.length ≤ 100000 := by rw [← hs, List.length_drop]; omega
  have SP := Lib.hid (fun W (hW : WC B W) => split_c s W (by omega) hW.max)
  obtain ⟨ws, hws⟩ : ∃ ws, wordsP s = ws := ⟨_, rfl⟩
  rw [hws] at h6 hM SP
  have hwl : ∀ (k : Nat) x, ws[k]? = some x → x.length ≤ 100000 := fun k x hx => by
    have hj := joinW_words s
    rw [hws] at hj
    have hxm := List.mem_of_getElem? hx
    have : x.length ≤ (joinW ws).length := by
      cases ws with
      | nil => cases hxm
      | cons a r =>
        rcases List.mem_cons.1 hxm with rfl | hxm
        · simp [joinW]
        · obtain ⟨p, q, rfl⟩ := List.append_of_mem hxm
          simp [joinW]
          omega
    rw [hj] at this
    omega
  obtain ⟨k0, x0, hx0, hno, hbe⟩ := mapM_first numD ws hM
  have hk0 : k0 < 6 := by have := (List.getElem?_eq_some_iff.1 hx0).1; omega
  obtain ⟨lim, hlim⟩ : ∃ lim, ws.map (fun x => (numD x).getD 0) = lim := ⟨_, rfl⟩
  have hl6 : lim.length = 6 := by rw [← hlim, List.length_map, h6]
  have GET : Hid (∀ (k : Nat) x, k < k0 → ws[k]? = some x → ∃ n, numD x = some n ∧ lim[k]? = some n) := Lib.hid fun k x hk hx => by
    obtain ⟨n, hn⟩ := hbe k hk x hx
    exact ⟨n, hn, by rw [← hlim, List.getElem?_map, hx, Option.map_some, hn]; rfl⟩
  have NB : Hid (∀ wb pb W, LmJ B lb cb wb pb (unl ls tl) (t + 1) ws (lim.take k0) w W → Calls Tryz.prog 46 #[.pointer (some ⟨lb, 0, none⟩), .string ⟨x0.toArray⟩] W fun e w' => e = .panicked (lineV (t + 1)) ∧ Hid (Kp2 lb cb w w' ∧ ∃ l, w'.heap[cb]? = some (.cells (limV l) 29))) := Lib.hid fun wb pb W hJ =>
    (number_no B lb t (unl ls tl) x0 W hJ.ln hJ.wc hno (hwl k0 x0 hx0) ht).mono fun e w' ⟨he, hg⟩ => ⟨he, Lib.hid ⟨hJ.kp.trans (.of1 hg), _, (hg.block _ (lt_of hJ.cs) fun e => hne (Option.some.inj e).symm).trans hJ.cs⟩⟩
  have HX0 := Lib.hid hx0
  have NM : Hid (∀ wb pb (k : Nat) x n W, ws[k]? = some x → lim[k]? = some n → numD x = some n → LmJ B lb cb wb pb (unl ls tl) (t + 1) ws (lim.take k) w W → Calls Tryz.prog 46 #[.pointer (some ⟨lb, 0, none⟩), .string ⟨x.toArray⟩] W fun e w' => e = .returned (.int .i64 (n : Int)) ∧ Hid (LmJ B lb cb wb pb (unl ls tl) (t + 1) ws (lim.take k) w w')) := Lib.hid fun wb pb k x n W hx _ hnx hJ =>
    (number_yes B lb (t + 1) (unl ls tl) x n W hJ.ln hJ.wc hnx (hwl k x hx)).mono fun e w' ⟨he, hb⟩ => ⟨he, Lib.hid (hJ.kept hb)⟩
  have HC := Lib.hid hc
  have HWC := Lib.hid hw
  have H6 := Lib.hid hl6
  have HW6 := Lib.hid h6
  clear h hw hc hn hm hyl hs hsl hws hwl hM hl6 hp hx0 hno hbe hlim
  go_enter Tryz.func17, Tryz.ntmps17
  go_wp2_with fail
  refine MU.out.mono ?_
  rintro e w1 ⟨rfl, hL1, hg1⟩
  have HC1 : Hid (w1.heap[cb]? = some (.cells (limV []) 29)) := Lib.hid ((hg1.block _ hcl fun e => hne (Option.some.inj e).symm).trans HC.out)
  have HL1 := Lib.hid hL1
  have HG1 := Lib.hid hg1
  have HW1 := Lib.hid (HWC.out.gr hBl hg1)
  clear hL1 hg1 MU HC
  go_wp2_with fail
  refine (SP.out w1 HW1.out).mono ?_
  rintro e w2 ⟨rfl, hw2⟩
  have HWD : Hid (w2.heap[w1.heap.size]? = some (.cells (ws.map strV).toArray 9)) := Lib.hid (by rw [hw2]; exact hp_new _ _)
  have HB2 : Hid (Below w1.heap.size w1 w2) := Lib.hid (by rw [hw2]; exact (Below.refl _ _).alloc (Nat.le_refl _) _)
  clear hw2 SP
  go_wp2_with fail
  refine (limits_c cb w2).mono ?_
  rintro e w3 ⟨rfl, hpt, hb3⟩
  have hb13 : Below w1.heap.size w1 w3 := HB2.out.trans (hb3.mono HB2.out.size)
  have HJ0 : Hid (LmJ B lb cb w1.heap.size w2.heap.size (unl ls tl) (t + 1) ws (lim.take 0) w w3) := Lib.hid
    ⟨HL1.out.below hb13, by rw [hb13.block cb (lt_of HC1.out), List.take_zero]; exact HC1.out, (hb3.block _ (lt_of HWD.out)).trans HWD.out, hpt, (Kp2.of1 HG1.out).trans (.ofB hb13), HW1.out.up hb13⟩
  have HN1 : Hid (w1.heap.size ≠ cb) := Lib.hid (by have := lt_of HC1.out; omega)
  have HN2 : Hid (w2.heap.size ≠ cb) := Lib.hid (by have := lt_of HC1.out; have := HB2.out.size; omega)
  clear hpt hb3 hb13 HWD HB2 HC1 HL1 HG1 HW1
  go_wp2_with fail
  go_loopg [32] 6 (fun g i wr => ∃ k : Nat, i = .int .i64 (k : Int) ∧ k ≤ k0 ∧ Hid (g + k = 6) ∧ Hid (LmJ B lb cb w1.heap.size w2.heap.size (unl ls tl) (t + 1) ws (lim.take k) w wr))
  case atStart => exact ⟨0, rfl, by omega, Lib.hid rfl, HJ0⟩
  case round =>
    obtain ⟨k, rfl, hk, hg, HJ⟩ := hrel
    by_cases hkk : k < k0
    · have hkn : k < 6 := by omega
      obtain ⟨x, hx⟩ : ∃ x, ws[k]? = some x := ⟨_, List.getElem?_eq_getElem (by rw [HW6.out]; exact hkn)⟩
      obtain ⟨n, hnx, hln⟩ := GET.out k x hkk hx
      have hk1 : (k : Int) < 6 := by omega
      have AT : Hid (∀ W, Hid (LmJ B lb cb w1.heap.size w2.heap.size (unl ls tl) (t + 1) ws (lim.take k) w W) → W.cell? ⟨w1.heap.size, k, none⟩ = some (.string ⟨x.toArray⟩) ∧ W.cell? ⟨w2.heap.size, k, none⟩ = some (.pointer (some ⟨cb, 1 + k, none⟩)) ∧ W.frozen? ⟨cb, 1 + k, none⟩ = false ∧ W.cell? ⟨cb, 1 + k, none⟩ ≠ none) := Lib.hid fun W hW => by
        refine ⟨?_, ?_, free_of _ hW.out.cs, ?_⟩
        · rw [cell_of k hW.out.wd, List.getElem?_toArray, List.getElem?_map, hx]
          rfl
        · rw [cell_of k hW.out.pt, ptrs_get cb k hkn]
        · rw [cell_of _ hW.out.cs, Array.getElem?_eq_getElem (by show 1 + k < 9; omega)]
          exact fun e => by cases e
      have NX : Hid (∀ W, Hid (LmJ B lb cb w1.heap.size w2.heap.size (unl ls tl) (t + 1) ws (lim.take k) w W) → Calls Tryz.prog 46 #[.pointer (some ⟨lb, 0, none⟩), .string ⟨x.toArray⟩] W fun e w' => e = .returned (.int .i64 (n : Int)) ∧ Hid (LmJ B lb cb w1.heap.size w2.heap.size (unl ls tl) (t + 1) ws (lim.take k) w w')) := Lib.hid fun W hW => NM.out _ _ k x n W hx hln hnx hW.out
      have PUT : Hid (∀ W, Hid (LmJ B lb cb w1.heap.size w2.heap.size (unl ls tl) (t + 1) ws (lim.take k) w W) → Hid (LmJ B lb cb w1.heap.size w2.heap.size (unl ls tl) (t + 1) ws (lim.take (k + 1)) w (W.setCell ⟨cb, 1 + k, none⟩ (.int .i64 (n : Int))))) := Lib.hid fun W hW => Lib.hid (hW.out.put hne HN1.out HN2.out hBc hkn H6.out hln)
      obtain ⟨a1, a2, a3, a4⟩ := AT.out wr HJ
      have HJ1 : Hid (LmJ B lb cb w1.heap.size w2.heap.size (unl ls tl) (t + 1) ws (lim.take k) w wr.drew) := Lib.hid (HJ.out.kept (Below.refl _ _).drew)
      clear NM GET
      go_wp2_with fail
      have PT : Hid (∀ j W, Hid (LmJ B lb cb w1.heap.size w2.heap.size (unl ls tl) (t + 1) ws (lim.take j) w W) → W.cell? ⟨w2.heap.size, k, none⟩ = some (.pointer (some ⟨cb, 1 + k, none⟩))) := Lib.hid fun j W hW => by rw [cell_of k hW.out.pt, ptrs_get cb k hkn]
      go_region_held3 (fun w' => w'.cell? ⟨w2.heap.size, k, none⟩ = some (.pointer (some ⟨cb, 1 + k, none⟩)) ∧ (Hid (LmJ B lb cb w1.heap.size w2.heap.size (unl ls tl) (t + 1) ws (lim.take k) w w') ∨ Hid (LmJ B lb cb w1.heap.size w2.heap.size (unl ls tl) (t + 1) ws (lim.take (k + 1)) w w'))) (first | exact ⟨by assumption, .inl (by assumption)⟩ | exact ⟨PT.out _ _ HJ1, .inl HJ1⟩ | exact ⟨PT.out _ _ HJ9, .inl HJ9⟩ | exact ⟨PT.out _ _ (PUT.out _ HJ9), .inr (PUT.out _ HJ9)⟩) (first
        | (go_at_call 46; refine (NX.out _ (by first | exact HJ1 | assumption)).mono ?_; rintro e w9 ⟨rfl, HJ9⟩; obtain ⟨u0, u1, u2, u3⟩ := AT.out _ HJ9))
      all_goals
        have HP := PUT.out _ HJ9
        go_wp2
        go_roundg (6 - (k + 1))
        · exact ⟨k + 1, by simp, by omega, Lib.hid (by omega), HP⟩
        · have := hg.out; omega
    · have ek : k = k0 := by omega
      subst ek
      have hk1 : (k : Int) < 6 := by omega
      have AT : Hid (∀ W, Hid (LmJ B lb cb w1.heap.size w2.heap.size (unl ls tl) (t + 1) ws (lim.take k) w W) → W.cell? ⟨w1.heap.size, k, none⟩ = some (.string ⟨x0.toArray⟩) ∧ W.cell? ⟨w2.heap.size, k, none⟩ = some (.pointer (some ⟨cb, 1 + k, none⟩))) := Lib.hid fun W hW => by
        refine ⟨?_, ?_⟩
        · rw [cell_of k hW.out.wd, List.getElem?_toArray, List.getElem?_map, HX0.out]
          rfl
        · rw [cell_of k hW.out.pt, ptrs_get cb k hk0]
      have HJ1 : Hid (LmJ B lb cb w1.heap.size w2.heap.size (unl ls tl) (t + 1) ws (lim.take k) w wr.drew) := Lib.hid (HJ.out.kept (Below.refl _ _).drew)
      obtain ⟨a1, a2⟩ := AT.out wr HJ
      clear NM GET
      go_wp2_with fail
      obtain ⟨g1, g2⟩ := AT.out _ HJ1
      refine wp_region_drew (by kernel_rfl) ?_
      refine wpAny_take (i := 0) (oi := { dst := some 37, op := Op.move (Operand.tmp 5), type := 86, pos := "cases.go:143", after := #[], guard := none }) (v := ?_) rfl (by kernel_rfl) (by kernel_rfl) (by kernel_rfl) (fun _ _ _ h => h) (Or.inl ⟨by rfl, fun w9 => by go_simp; try with_reducible rfl⟩) ?_
      (try simp only [Act.put, List.setIfInBounds_toArray, List.set_cons_zero, List.set_cons_succ])
      refine wpAny_take (i := 1) (oi := { dst := some 38, op := Op.move (Operand.tmp 7), type := 3, pos := "cases.go:143", after := #[], guard := none }) (v := ?_) rfl (by kernel_rfl) (by kernel_rfl) (by kernel_rfl) (fun _ _ _ h => h) (Or.inl ⟨by rfl, fun w9 => by go_simp; try with_reducible rfl⟩) ?_
      (try simp only [Act.put, List.setIfInBounds_toArray, List.set_cons_zero, List.set_cons_succ])
      refine wpAny_take (i := 2) (oi := { dst := some 39, op := Op.indexAddr 86 (Operand.tmp 37) (Operand.tmp 38), type := 0, pos := "cases.go:143", after := #[{ on := 0, ground := Ground.data }, { on := 1, ground := Ground.data }], guard := none }) (v := ?_) rfl (by kernel_rfl) (by kernel_rfl) (by kernel_rfl) (fun _ _ _ h => h) (Or.inl ⟨by rfl, fun w9 => by go_simp; try with_reducible rfl⟩) ?_
      (try simp only [Act.put, List.setIfInBounds_toArray, List.set_cons_zero, List.set_cons_succ])
      refine wpAny_take (i := 4) (oi := { dst := some 41, op := Op.move (Operand.tmp 6), type := 97, pos := "cases.go:143", after := #[], guard := none }) (v := ?_) rfl (by kernel_rfl) (by kernel_rfl) (by kernel_rfl) (fun _ _ _ h => h) (Or.inl ⟨by rfl, fun w9 => by go_simp; try with_reducible rfl⟩) ?_
      (try simp only [Act.put, List.setIfInBounds_toArray, List.set_cons_zero, List.set_cons_succ])
      refine wpAny_take (i := 5) (oi := { dst := some 42, op := Op.move (Operand.tmp 8), type := 9, pos := "cases.go:143", after := #[], guard := none }) (v := ?_) rfl (by kernel_rfl) (by kernel_rfl) (by kernel_rfl) (fun _ _ _ h => h) (Or.inl ⟨by rfl, fun w9 => by go_simp; try with_reducible rfl⟩) ?_
      (try simp only [Act.put, List.setIfInBounds_toArray, List.set_cons_zero, List.set_cons_succ])
      refine wpAny_ready (rs := [3, 6]) (by kernel_rfl) (by simp) ?_
      refine AllReady.cons (o := { dst := some 40, op := Op.load 88 (Operand.tmp 39), type := 88, pos := "cases.go:143", after := #[{ on := 2, ground := Ground.data }], guard := none }) rfl (fun K hK => ?_) ?_
      · go_simp
        refine hK _ _ ?_
        clear hK K
        (try simp only [Act.put, List.setIfInBounds_toArray, List.set_cons_zero, List.set_cons_succ])
        refine wpAny_ready (rs := [6]) (by kernel_rfl) (by simp) ?_
        refine AllReady.cons (o := { dst := some 43, op := Op.call { callee := Callee.value (Operand.tmp 41), args := #[Operand.tmp 42], argTypes := #[9] }, type := 3, pos := "cases.go:143", after := #[{ on := 4, ground := Ground.data }, { on := 5, ground := Ground.data }], guard := none }) rfl (fun K hK => ?_) ?_
        · go_wp2_with fail
          refine (NB.out _ _ _ HJ1.out).mono ?_
          rintro e w9 ⟨rfl, HK9⟩
          go_wp2
          exact bodyPost_pan rfl ⟨rfl, HK9.out⟩
        exact AllReady.nil
      refine AllReady.cons (o := { dst := some 43, op := Op.call { callee := Callee.value (Operand.tmp 41), args := #[Operand.tmp 42], argTypes := #[9] }, type := 3, pos := "cases.go:143", after := #[{ on := 4, ground := Ground.data }, { on := 5, ground := Ground.data }], guard := none }) rfl (fun K hK => ?_) ?_
      · go_wp2_with fail
        refine (NB.out _ _ _ HJ1.out).mono ?_
        rintro e w9 ⟨rfl, HK9⟩
        go_wp2
        exact bodyPost_pan rfl ⟨rfl, HK9.out⟩
      exact AllReady.nil
end Go.Proofs.YtbllodeanfdebaaGreatDoor
