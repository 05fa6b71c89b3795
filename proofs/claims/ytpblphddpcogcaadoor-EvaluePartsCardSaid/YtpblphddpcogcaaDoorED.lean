/- Walks of layer 14: pieces and Text. -/
import Derived.Test.YtpblphddpcogcaaDoorRows
import Derived.WalkKit
import Derived.ProofKit
import Derived.OpenShut
import Derived.ShutString
import Derived.ChangeOld
import Derived.Below
import Derived.BigQuiet
import Derived.Deep.QuietTactic
import Derived.Lib.Hide
import Derived.Deep.RegionHeld3
import Derived.Lib.SlBytesConst
import Derived.Laws.CopyOwn
import Derived.Laws.CopyRow
import Derived.Lib.Bytes
import Derived.Deep.LoopGhost
import Derived.Deep.DeepFit
import Derived.Deep.DeepMust
import Derived.WalkSpells
import Derived.WalkLawsBesides
import Derived.Laws.EntriesVeiled
import Derived.Laws.Rows
import Derived.RangeFuncNested
import Derived.RangeFuncBound
import Derived.RangeFuncCalls
import Derived.RangeFuncLeaves
import Derived.RangeFuncBox
import Derived.RangeFuncWrites
import Derived.Shelf.Abstract
import Derived.Shelf.RegionOpen
import Derived.OwnWalkIn
import Derived.TacticsInMore
import Derived.LoopNIn
import Derived.LoopIn
import Derived.Maps.AppendAt
import Derived.Test.YtpblphddpcogcaaDoorShelf
import Derived.Test.YtpblphddpcogcaaDoorBase
import Derived.Test.YtpblphddpcogcaaDoorCharPlain
import Derived.Test.YtpblphddpcogcaaDoorStr
import Derived.Test.YtpblphddpcogcaaDoorUtf1
import Derived.Test.YtpblphddpcogcaaDoorUtf2
import Derived.Test.YtpblphddpcogcaaDoorUtf3
import Derived.Test.YtpblphddpcogcaaDoorChars1
import Derived.Test.YtpblphddpcogcaaDoorRun
import Derived.Test.YtpblphddpcogcaaDoorRunU
import Derived.Test.YtpblphddpcogcaaDoorRunV
import Derived.Test.YtpblphddpcogcaaDoorName1
import Derived.Test.YtpblphddpcogcaaDoorName2
import Derived.Test.YtpblphddpcogcaaDoorName3
import Derived.Test.YtpblphddpcogcaaDoorCref1
import Derived.Test.YtpblphddpcogcaaDoorNum
import Derived.Test.YtpblphddpcogcaaDoorLitP
import Derived.Test.YtpblphddpcogcaaDoorLit2
import Derived.Test.YtpblphddpcogcaaDoorLit3
import Derived.Test.YtpblphddpcogcaaDoorLit5
import Derived.Test.YtpblphddpcogcaaDoorLibB
import Derived.Test.YtpblphddpcogcaaDoorMiscP
import Derived.Test.YtpblphddpcogcaaDoorEA
import Derived.Test.YtpblphddpcogcaaDoorEC
import Derived.Test.YtpblphddpcogcaaDoorEB
import Derived.Test.YtpblphddpcogcaaDoorRef1
import Derived.Test.YtpblphddpcogcaaDoorRef3
import Derived.Test.YtpblphddpcogcaaDoorEsc
import Derived.Test.YtpblphddpcogcaaDoorRefC
import Derived.Test.YtpblphddpcogcaaDoorBuild
namespace Go.Proofs.YtpblphddpcogcaaDoor
open Go.ChangeShapes Go.WideShapes Go.ChangeAt Go.RowKit
set_option linter.unusedVariables false
attribute [local go_sem] Oper.semAt_some
def encP (x : List UInt8 × Int × Bool) : Array Value := #[.agg #[.string ⟨x.1.toArray⟩, .int .i64 x.2.1, .bool x.2.2]]
set_option maxRecDepth 100000 in
set_option maxHeartbeats 4000000 in
theorem pieces1_in (m : Nat) (hm1 : 1 ≤ m) (lr Bn : Nat) (l : List UInt8) (J : List (List UInt8 × Int × Bool) → World → Prop) (w0 W : World) (hJ : StandsBox Bn J)
    (hY : ∀ pre x W1, J pre W1 → (pre ++ [x] <+: pcs l.length l) → YieldAt Fence.wide (m - 1) Tryd.prog lr (encP x) W1 fun e W' => e = .returned (.bool true) ∧ J (pre ++ [x]) W' ∧ KpB w0.heap.size Bn W1 W')
    (hb : Boxed W Bn 9 (.string ⟨l.toArray⟩)) (hSB : w0.heap.size ≤ Bn) (hW : W14 w0) (hB : Below w0.heap.size w0 W) (hm : l.length ≤ 40000) (h0 : J [] W) :
    CallsIn Fence.wide m Tryd.prog 68 #[.func (.yield lr) #[] #[], .pointer (some ⟨Bn, 0, none⟩)] W fun e W' => (∃ v, e = .returned v) ∧ J (pcs l.length l) W' := by
  have HJ := Lib.hid hJ
  have HY := Lib.hid hY
  have HW := Lib.hid hW
  have HSB := Lib.hid hSB
  have hlB : Bn < W.heap.size := World.block_lt_of_cell? _ _ hb.cell
  have HB0 := Lib.hid (And.intro hb (And.intro hB h0))
  have c0 := hb.cell
  clear hJ hY hW hB h0 hSB hb
  refine callsIn_of_wp Tryd.func68 rfl trivial ?_ rfl
  simp only [Tryd.ntmps68, List.size_toArray, List.length_cons, List.length_nil, Nat.reduceAdd, Nat.reduceSub, Array.replicate_succ, Array.replicate_zero, List.push_toArray, List.append_toArray, List.nil_append, List.cons_append]
  gi_wp2
  gi_loopw [4] (fun _ wr => ∃ (f : Nat) (r : List UInt8) (pre : List (List UInt8 × Int × Bool)), Boxed wr Bn 9 (.string ⟨r.toArray⟩) ∧ r.length ≤ l.length ∧ Hid (r.length ≤ f ∧ pre.length + r.length ≤ l.length) ∧ Hid (pcs l.length l = pre ++ pcs f r ∧ J pre wr) ∧ Hid (Below w0.heap.size w0 wr))
    (fun _ wr => match wr.cell? ⟨Bn, 0, none⟩ with | some (.string s) => s.size | _ => 0)
  case atStart => exact ⟨l.length, l, [], HB0.out.1, Nat.le_refl _, Lib.hid ⟨Nat.le_refl _, by simp⟩, Lib.hid ⟨rfl, HB0.out.2.2⟩, Lib.hid HB0.out.2.1⟩
  case round =>
    obtain ⟨f, r, pre, hbx, hrl, hf, HI, HK⟩ := hrel
    have d0 := hbx.cell
    cases r with
    | nil =>
      have HE : Hid (pcs l.length l = pre) := Lib.hid (by rw [HI.out.1, show pcs f [] = [] by cases f <;> rfl, List.append_nil])
      gi_wp2
      go_end0
      exact ⟨⟨_, rfl⟩, by rw [HE.out]; exact HI.out.2⟩
    | cons c t =>
      have hie : (c :: t).isEmpty = false := rfl
      have HIB : Hid (Lib.index (c :: t) [38, 35] < ((c :: t).length : Int)) := Lib.hid (by
        have hsp := findI_spec (c :: t) [38, 35] 0 (Nat.zero_le _)
        unfold findI at hsp
        rw [List.drop_zero] at hsp
        by_cases hi : Lib.index (c :: t) [38, 35] < 0
        · omega
        · rw [if_neg hi] at hsp
          rcases hsp with ⟨h, _⟩ | ⟨i, h, _, hil, _⟩
          · omega
          · have : i + 2 ≤ (c :: t).length := hil
            omega)
      have hix := Lib.hid (Eq.refl (Lib.index (c :: t) [38, 35]))
      have HBX := Lib.hid hbx
      have hlt : Bn < wr.heap.size := World.block_lt_of_cell? _ _ d0
      have HPC := Lib.hid (show pcs f (c :: t) = if Lib.index (c :: t) [38, 35] < 0 then [(c :: t, 0, false)]
        else if Lib.index (c :: t) [38, 35] = 0 then ([], (charOut (c :: t) 0).1, true) :: pcs (f - 1) ((c :: t).drop (max (charOut (c :: t) 0).2.1 1))
        else ((c :: t).take (Lib.index (c :: t) [38, 35]).toNat, 0, false) :: pcs (f - 1) ((c :: t).drop (Lib.index (c :: t) [38, 35]).toNat) by
          obtain ⟨f', rfl⟩ : ∃ f', f = f' + 1 := ⟨f - 1, by have := hf.out.1; simp at this; omega⟩
          rfl)
      have hrz : 0 < (c :: t).length := by simp
      clear hbx hix
      generalize hrr : c :: t = r at *
      have CI : Hid (∀ W', Below w0.heap.size w0 W' → Calls Tryd.prog 69 #[.string ⟨r.toArray⟩, .string ⟨#[38, 35]⟩] W' fun e w' => e = .returned (.int .i64 (Lib.index r [38, 35])) ∧ W' = w') := Lib.hid fun W' hb' => by
        obtain ⟨mm, hmm⟩ := (HW.out.below hb').maxl
        exact (Tryd.strings_Index ⟨r.toArray⟩ ⟨#[38, 35]⟩ mm W' (by simp [ByteArray.size]; omega) hmm).mono fun e w' ⟨he, hw⟩ => ⟨he, hw.symm⟩
      generalize Lib.index r [38, 35] = ix at *
      gi_wp2_with fail
      refine ⟨trivial, (callsIn_wide.2 (CI.out _ (HK.out.alloc HK.out.size _))).mono ?_⟩
      rintro e w2 ⟨rfl, rfl⟩
      by_cases hneg : ix < 0
      · have hg0 : decide (0 < ix) = false := by simpa using (by omega : ix ≤ 0)
        have hz : (ix == 0) = false := by simpa using (by omega : ix ≠ 0)
        have HN := Lib.hid hneg
        clear hneg
        have hle : pre ++ [(r, 0, false)] <+: pcs l.length l := by rw [HI.out.1, HPC.out, if_pos HN.out]; exact List.prefix_rfl
        have HB1 := Lib.hid (HK.out.alloc HK.out.size (.cells #[.string ⟨r.toArray⟩, .int .i64 0, .bool false] 85))
        have J1 : J pre (wr.alloc (.cells #[.string ⟨r.toArray⟩, .int .i64 0, .bool false] 85)) := HJ.out pre wr _ none HI.out.2 (World.grownBy_alloc wr _ none) (fun r e => by cases e)
        have BX1 := HBX.out.alloc (.cells #[.string ⟨r.toArray⟩, .int .i64 0, .bool false] 85)
        obtain ⟨fn, tmps, assign, body, hy, hR⟩ := HY.out pre (r, 0, false) _ J1 hle
        unfold encP at hy
        dsimp only at hy
        have HR := Lib.hid hR
        have HX1 := Lib.hid BX1
        clear hR J1 BX1
        gi_wp2
        refine HR.out.mono ?_
        rintro e W3 ⟨rfl, hJ3, hk3⟩
        have HJ3 := Lib.hid (And.intro hJ3 hk3)
        have BX3 : Boxed W3 Bn 9 (.string ⟨r.toArray⟩) := hk3.2.trans HX1.out
        have d3 := BX3.cell
        have e3 := BX3.frozen
        clear hJ3 hk3 hy
        gi_wp2
        refine ⟨⟨0, [], pre ++ [(r, 0, false)], BX3.set _, Nat.zero_le _, Lib.hid ⟨Nat.le_refl _, ?_⟩, Lib.hid ⟨?_, ?_⟩, Lib.hid ?_⟩, ?_⟩
        · have := hf.out.2; simp; omega
        · rw [HI.out.1, HPC.out, if_pos HN.out]; simp [pcs]
        · exact HJ.out _ _ _ (some Bn) HJ3.out.1 (grownBy_setCell' W3 Bn _) (fun r e => by cases e; rfl)
        · exact (HB1.out.trans HJ3.out.2.1).setCell (p := ⟨Bn, 0, none⟩) HSB.out _
        · rw [(BX3.set (.string ByteArray.empty)).cell, d0]
          simpa [ByteArray.size] using hrz
      · by_cases hpos : 0 < ix
        · have hg0 : decide (0 < ix) = true := by simpa using hpos
          have hkl : ix < (r.length : Int) := HIB.out
          obtain ⟨k, rfl⟩ : ∃ k : Nat, ix = (k : Int) := ⟨ix.toNat, by omega⟩
          have hk0 : 0 < k := by omega
          have hkr : k < r.length := by omega
          have hz : ((k : Int) == 0) = false := by simpa using (by omega : k ≠ 0)
          have hx1 : (⟨r.toArray⟩ : ByteArray).extract 0 k = ⟨(r.take k).toArray⟩ := by
            apply ByteArray.ext
            simp [ByteArray.data_extract]
          have hx2 : (⟨r.toArray⟩ : ByteArray).extract (min k r.length) r.length = ⟨(r.drop k).toArray⟩ := by
            rw [Nat.min_eq_left (by omega)]
            apply ByteArray.ext
            simp [ByteArray.data_extract]
            exact List.take_of_length_le (by rw [List.length_drop]; omega)
          have hle1 : (k : Int) ≤ (r.length : Int) := by omega
          have HN := Lib.hid (And.intro hneg (show (k : Int) ≠ 0 by omega))
          clear hneg hpos hkl
          have hle : pre ++ [(r.take k, 0, false)] <+: pcs l.length l := ⟨pcs (f - 1) (r.drop k), by rw [HI.out.1, HPC.out, if_neg (show ¬ (k : Int) < 0 by omega), if_neg (show ¬ (k : Int) = 0 by omega)]; simp⟩
          have HB1 := Lib.hid (HK.out.alloc HK.out.size (.cells #[.string ⟨(r.take k).toArray⟩, .int .i64 0, .bool false] 85))
          have J1 : J pre (wr.alloc (.cells #[.string ⟨(r.take k).toArray⟩, .int .i64 0, .bool false] 85)) := HJ.out pre wr _ none HI.out.2 (World.grownBy_alloc wr _ none) (fun r e => by cases e)
          have BX1 := HBX.out.alloc (.cells #[.string ⟨(r.take k).toArray⟩, .int .i64 0, .bool false] 85)
          obtain ⟨fn, tmps, assign, body, hy, hR⟩ := HY.out pre (r.take k, 0, false) _ J1 hle
          unfold encP at hy
          dsimp only at hy
          have HR := Lib.hid hR
          have HX1 := Lib.hid BX1
          clear hR J1 BX1
          gi_wp2
          refine HR.out.mono ?_
          rintro e W3 ⟨rfl, hJ3, hk3⟩
          have HJ3 := Lib.hid (And.intro hJ3 hk3)
          have BX3 : Boxed W3 Bn 9 (.string ⟨r.toArray⟩) := hk3.2.trans HX1.out
          have d3 := BX3.cell
          have e3 := BX3.frozen
          clear hJ3 hk3 hy
          gi_wp2
          refine ⟨⟨f - 1, r.drop k, pre ++ [(r.take k, 0, false)], BX3.set _, by rw [List.length_drop]; omega, Lib.hid ⟨?_, ?_⟩, Lib.hid ⟨?_, ?_⟩, Lib.hid ?_⟩, ?_⟩
          · have := hf.out.1; rw [List.length_drop]; omega
          · have := hf.out.2; simp; omega
          · rw [HI.out.1, HPC.out, if_neg (show ¬ (k : Int) < 0 by omega), if_neg (show ¬ (k : Int) = 0 by omega)]; simp
          · exact HJ.out _ _ _ (some Bn) HJ3.out.1 (grownBy_setCell' W3 Bn _) (fun r e => by cases e; rfl)
          · exact (HB1.out.trans HJ3.out.2.1).setCell (p := ⟨Bn, 0, none⟩) HSB.out _
          · rw [(BX3.set _).cell, d0]
            simp [ByteArray.size]
            omega
        · obtain rfl : ix = 0 := by omega
          clear hneg hpos
          obtain ⟨cp, w1, hcv, hb1, hs1, hby⟩ := toBytes (wr.alloc (.cells #[.string ⟨r.toArray⟩, .int .i64 0, .bool false] 85)) r (by omega)
          rw [World.size_alloc] at hcv hb1 hs1 hby
          have HB1 := Lib.hid ((HK.out.alloc HK.out.size (.cells #[.string ⟨r.toArray⟩, .int .i64 0, .bool false] 85)).trans (hb1.mono (by have := HK.out.size; omega)))
          have CC : Hid (Calls Tryd.prog 70 #[.slice (some ⟨wr.heap.size + 1, 0, none⟩) r.length cp, .int .i64 0] w1 fun e w' => e = .returned (numV (charOut r 0)) ∧ Below w1.heap.size w1 w') := Lib.hid (by
            have := crefChar_c _ _ _ r ((0 : Nat) : Int) w1 (hs1 ▸ hby) (HW.out.below HB1.out).forms (HW.out.below HB1.out).tabs (by omega)
            rwa [charAt_in r 0 (Nat.zero_le _)] at this)
          have HLE := Lib.hid (charOut_le r 0)
          generalize charOut r 0 = co at *
          obtain ⟨c1, c2, c3⟩ := co
          unfold numV at CC
          dsimp only at CC HLE
          have hp1 : w1.heap[wr.heap.size]? = some (.cells #[.string ⟨r.toArray⟩, .int .i64 0, .bool false] 85) := (hb1.block _ (by omega)).trans (World.alloc_heap_new wr _)
          have hbl : ∀ k, k < wr.heap.size → w1.heap[k]? = wr.heap[k]? := fun k hk => (hb1.block k (by omega)).trans (Below.heap_alloc _ _ _ hk)
          have hs2 : w1.heap.size = wr.heap.size + 2 := by rw [hs1]
          have HG1 := Lib.hid (And.intro hb1 hbl)
          clear hby hb1 hs1 hbl
          gi_wp2_with fail
          refine ⟨trivial, (callsIn_wide.2 CC.out).mono ?_⟩
          rintro e w2 ⟨rfl, hb2⟩
          have hp2 : w2.heap[wr.heap.size]? = some (.cells #[.string ⟨r.toArray⟩, .int .i64 0, .bool false] 85) := (hb2.block _ (by omega)).trans hp1
          have BX2 : Boxed w2 Bn 9 (.string ⟨r.toArray⟩) := ((hb2.block _ (by omega)).trans (HG1.out.2 _ hlt)).trans HBX.out
          have d2 := BX2.cell
          have HB2 := Lib.hid hb2
          clear hb2 hp1
          gi_wp2_with fail
          have p0 : w2.cell? ⟨wr.heap.size, 0, none⟩ = some (.string ⟨r.toArray⟩) := by rw [cell_of 0 hp2]; rfl
          have p1 : w2.cell? ⟨wr.heap.size, 1, none⟩ = some (.int .i64 0) := by rw [cell_of 1 hp2]; rfl
          have p2 : w2.cell? ⟨wr.heap.size, 2, none⟩ = some (.bool false) := by rw [cell_of 2 hp2]; rfl
          have q0 : w2.frozen? ⟨wr.heap.size, 0, none⟩ = false := free_of 0 hp2
          have q1 : w2.frozen? ⟨wr.heap.size, 1, none⟩ = false := free_of 1 hp2
          have q2 : w2.frozen? ⟨wr.heap.size, 2, none⟩ = false := free_of 2 hp2
          have hmx : (if (c2 : Int) < 1 then (1 : Int) else c2) = ((max c2 1 : Nat) : Int) := by split <;> omega
          have hmx1 : max c2 1 ≤ r.length := by have := HLE.out; omega
          gi_region
          have hx : (⟨r.toArray⟩ : ByteArray).extract (max (c2 : Int) 1).toNat r.length = ⟨(r.drop (max c2 1)).toArray⟩ := by
            rw [show (max (c2 : Int) 1).toNat = max c2 1 by omega]
            apply ByteArray.ext
            simp [ByteArray.data_extract]
            exact List.take_of_length_le (by rw [List.length_drop]; omega)
          obtain ⟨WW, hWW⟩ : ∃ WW, WW = (((w2.setCell ⟨wr.heap.size, 0, none⟩ (.string ⟨#[]⟩)).setCell ⟨wr.heap.size, 1, none⟩ (.int .i64 c1)).setCell ⟨wr.heap.size, 2, none⟩ (.bool true)).drew := ⟨_, rfl⟩
          rw [hx, ← hWW]
          have hpW : WW.heap[wr.heap.size]? = some (.cells #[.string ⟨#[]⟩, .int .i64 c1, .bool true] 85) := by
            rw [hWW]
            exact (hp_set (hp_set (hp_set hp2))).trans rfl
          have hbw : Below wr.heap.size wr WW := by
            rw [hWW]
            have h3 := ((((((Below.refl wr.heap.size wr).alloc (Nat.le_refl _) (.cells #[.string ⟨r.toArray⟩, .int .i64 0, .bool false] 85)).trans (HG1.out.1.mono (by omega))).trans (HB2.out.mono (by omega))).setCell (p := ⟨wr.heap.size, 0, none⟩) (Nat.le_refl _) (.string ⟨#[]⟩)).setCell (p := ⟨wr.heap.size, 1, none⟩) (Nat.le_refl _) (.int .i64 c1)).setCell (p := ⟨wr.heap.size, 2, none⟩) (Nat.le_refl _) (.bool true)
            exact ⟨h3.os, h3.tape, h3.output, h3.size, h3.block⟩
          have s0 : WW.cell? ⟨wr.heap.size, 0, none⟩ = some (.string ⟨#[]⟩) := by rw [cell_of 0 hpW]; rfl
          have s1 : WW.cell? ⟨wr.heap.size, 1, none⟩ = some (.int .i64 c1) := by rw [cell_of 1 hpW]; rfl
          have s2 : WW.cell? ⟨wr.heap.size, 2, none⟩ = some (.bool true) := by rw [cell_of 2 hpW]; rfl
          have HB1 := Lib.hid (HK.out.trans (hbw.mono HK.out.size))
          have J1 : J pre WW := HJ.out pre wr WW none HI.out.2 (hbw.gr none) (fun r e => by cases e)
          have hle : pre ++ [([], c1, true)] <+: pcs l.length l := ⟨pcs (f - 1) (r.drop (max c2 1)), by rw [HI.out.1, HPC.out, if_neg (by omega), if_pos trivial]; simp⟩
          have BX1 : Boxed WW Bn 9 (.string ⟨r.toArray⟩) := (hbw.block _ hlt).trans HBX.out
          obtain ⟨fn, tmps, assign, body, hy, hR⟩ := HY.out pre ([], c1, true) _ J1 hle
          unfold encP at hy
          dsimp only at hy
          rw [show ([] : List UInt8).toArray = #[] from rfl] at hy
          have HR := Lib.hid hR
          have HX1 := Lib.hid BX1
          have hmx2 : 1 ≤ max c2 1 := by omega
          generalize max c2 1 = k at *
          clear hR J1 BX1 hWW hbw hpW hp2 BX2 d2 p0 p1 p2 q0 q1 q2 hmx
          gi_wp2
          refine HR.out.mono ?_
          rintro e W3 ⟨rfl, hJ3, hk3⟩
          have HJ3 := Lib.hid (And.intro hJ3 hk3)
          have BX3 : Boxed W3 Bn 9 (.string ⟨r.toArray⟩) := hk3.2.trans HX1.out
          have d3 := BX3.cell
          have e3 := BX3.frozen
          clear hJ3 hk3 hy
          gi_wp2
          refine ⟨⟨f - 1, r.drop k, pre ++ [([], c1, true)], BX3.set _, by rw [List.length_drop]; omega, Lib.hid ⟨?_, ?_⟩, Lib.hid ⟨?_, ?_⟩, Lib.hid ?_⟩, ?_⟩
          · have := hf.out.1; rw [List.length_drop]; omega
          · have := hf.out.2; simp; omega
          · rw [HI.out.1, HPC.out, if_neg (by omega), if_pos trivial]; simp
          · exact HJ.out _ _ _ (some Bn) HJ3.out.1 (grownBy_setCell' W3 Bn _) (fun r e => by cases e; rfl)
          · exact (HB1.out.trans HJ3.out.2.1).setCell (p := ⟨Bn, 0, none⟩) HSB.out _
          · rw [(BX3.set _).cell, d0]
            simp [ByteArray.size]
            omega
attribute [local go_sem] Oper.semAt_some
theorem enc_le (r : Nat) : (encL r).length ≤ 4 := by unfold encL; split <;> (try split) <;> (try split) <;> simp
theorem txtL_le : ∀ (f : Nat) (l : List UInt8), (txtL f l).1.length ≤ 4 * l.length
  | 0, l => by simp [txtL]
  | f + 1, [] => by simp [txtL]
  | f + 1, c :: t => by
    unfold txtL
    split
    · rename_i h
      have hn := charOut_next (c :: t) 0 h
      have := txtL_le f ((c :: t).drop (charOut (c :: t) 0).2.1)
      have he := enc_le (charOut (c :: t) 0).1.toNat
      rw [List.length_drop] at this
      simp only [List.length_append]
      omega
    · have := txtL_le f t
      simp only [List.length_cons]
      omega
theorem index_zero {l : List UInt8} (h : Lib.index l [38, 35] = 0) : l[0]? = some 38 ∧ l[1]? = some 35 := by
  have hsp := findI_spec l [38, 35] 0 (Nat.zero_le _)
  unfold findI at hsp
  rw [List.drop_zero, h] at hsp
  simp only [show ¬ ((0 : Int) < 0) by omega, if_false] at hsp
  rcases hsp with ⟨h, _⟩ | ⟨i, h, _, _, hp, _⟩
  · omega
  · have hi : i = 0 := by omega
    subst hi
    exact (pre_two l 0).1 hp
/-- A part that stands for a reference is a character that may stand in a document. -/
theorem pcs_doc : ∀ (f : Nat) (l : List UInt8), cgood l → ∀ x ∈ pcs f l, x.2.2 = true → isDoc x.2.1 = true
  | 0, l, _, x, hx, _ => by simp [pcs] at hx
  | f + 1, [], _, x, hx, _ => by simp [pcs] at hx
  | f + 1, c :: t, hc, x, hx, h => by
    unfold pcs at hx
    split at hx
    · rw [List.mem_singleton.1 hx] at h; simp at h
    · split at hx
      · rename_i h0
        have h2 := index_zero h0
        rcases List.mem_cons.1 hx with rfl | hx
        · exact charOut_doc (c :: t) 0 (hc 0 h2.1 h2.2)
        · exact pcs_doc f _ (cgood_drop hc _) x hx h
      · rcases List.mem_cons.1 hx with rfl | hx
        · simp at h
        · exact pcs_doc f _ (cgood_drop hc _) x hx h
def tOut (s : List UInt8) : List UInt8 := if checkV s = 0 then (txtOut s).1 else []
/-- What the loop may hand out next. -/
theorem next_ok {s : List UInt8} (hc : cgood s) (pre : List (List UInt8 × Int × Bool)) (x : List UInt8 × Int × Bool) (h : pre ++ [x] <+: pcs s.length s) :
    (x.2.2 = true → isDoc x.2.1 = true) ∧ (pre.flatMap pieceB).length + (pieceB x).length ≤ 4 * s.length := by
  obtain ⟨t, ht⟩ := h
  refine ⟨pcs_doc s.length s hc x (by rw [← ht]; simp), ?_⟩
  have h1 := (pcs_txt s.length s s.length (Nat.le_refl _) (Nat.le_refl _) hc).1
  have h2 := txtL_le s.length s
  rw [← h1, ← ht] at h2
  simp only [List.flatMap_append, List.length_append, List.flatMap_cons, List.flatMap_nil, List.append_nil] at h2
  omega
theorem Bld.grown {R b : Nat} {l : List UInt8} {W W' : World} {row : Option Nat} (h : Bld R b l W) (hg : W.grownBy W' row) (hb : ∀ r, row = some r → r ≠ b ∧ (r < R ∨ ∃ o : Obj, W.heap[r]? = some o ∧ o.isCells = false)) : Bld R b l W' := by
  have aux : ∀ p, BldP p R b l W → BldP p R b l W' := by
    rintro p ⟨hbR, v, hh, ho⟩
    refine ⟨hbR, v, (hg.block b (lt_of hh) (fun e => (hb b e.symm).1 rfl)).trans hh, ho.kept hg ?_⟩
    cases hv : v.ownBlock with
    | none => exact Or.inl rfl
    | some k =>
      refine Or.inr fun e => ?_
      rcases (hb k e.symm).2 with hlt | ⟨o, h1, h2⟩
      · have := (ho.lt k hv).1; omega
      · obtain ⟨_, ⟨hv', _⟩ | ⟨g, cap, cur, hv', hg', hh', r⟩⟩ := ho
        · rw [hv'] at hv; simp [Value.ownBlock] at hv
        · rw [hv'] at hv
          simp [Value.ownBlock] at hv
          subst hv
          rw [hh'] at h1
          cases h1
          simp [Obj.isCells] at h2
  rcases h with h | h
  · exact Or.inl (aux _ h)
  · exact Or.inr (aux _ h)
set_option maxRecDepth 100000 in
set_option maxHeartbeats 4000000 in
theorem pieces_c (l : List UInt8) (w : World) : Calls Tryd.prog 45 #[.string ⟨l.toArray⟩] w fun e w' => e = .returned (.func (.func 68) #[] #[.pointer (some ⟨w.heap.size, 0, none⟩)]) ∧ w' = w.alloc (.cells #[.string ⟨l.toArray⟩] 9) := by
  go_enter Tryd.func45, Tryd.ntmps45
  go_wp2
  go_ret
  exact ⟨rfl, rfl⟩
def TxI (S : Nat) (w : World) (pre : List (List UInt8 × Int × Bool)) (W : World) : Prop := Bld (S + 2) S (pre.flatMap pieceB) W ∧ Below S w W ∧ S + 2 ≤ W.heap.size
theorem txI_own (S : Nat) (w : World) (hS : S ≤ w.heap.size) : OwnFrom (S + 2) (TxI S w) := by
  rintro pre W W' row ⟨h1, h2, h3⟩ hg hr
  refine ⟨h1.grown hg fun r e => ⟨by have := (hr r e).1; omega, Or.inr (hr r e).2⟩, ?_⟩
  exact ⟨h2.grown hg (by have := h2.size; omega) fun k hk => by have := (hr k hk).1; omega, Nat.le_trans h3 hg.size⟩
theorem txI_box (S : Nat) (w : World) (hS : S ≤ w.heap.size) : StandsBox (S + 1) (TxI S w) := by
  rintro pre W W' row ⟨h1, h2, h3⟩ hg hr
  refine ⟨h1.grown hg fun r e => ⟨by rw [hr r e]; omega, Or.inl (by rw [hr r e]; omega)⟩, ?_⟩
  exact ⟨h2.grown hg (by have := h2.size; omega) fun k hk => by rw [hr k hk]; omega, Nat.le_trans h3 hg.size⟩
set_option maxRecDepth 100000 in
set_option maxHeartbeats 8000000 in
theorem evText_c (s : List UInt8) (w : World) (hW : W14 w) (hm : s.length ≤ 20000) : Calls Tryd.prog 20 #[.string ⟨s.toArray⟩] w fun e w' => e = .returned (.tuple #[.string ⟨(tOut s).toArray⟩, .int .i64 (checkV s : Nat)]) ∧ Below w.heap.size w w' := by
  have CK := Lib.hid (evCheck_c s w hW (by omega))
  have HW := Lib.hid hW
  clear hW
  by_cases hk : checkV s = 0
  · have HG := Lib.hid (mgood_c (checkV_ok hk).1)
    have HT : Hid (tOut s = (txtOut s).1) := Lib.hid (by unfold tOut; rw [if_pos hk])
    rw [hk] at CK ⊢
    clear hk
    refine (callsIn_wide (n := 5)).1 ?_
    refine callsIn_of_wp_marks Tryd.func20 rfl trivial ?_ rfl
    simp only [Tryd.ntmps20, List.size_toArray, List.length_cons, List.length_nil, Nat.reduceAdd, Nat.reduceSub, Array.replicate_succ, Array.replicate_zero, List.push_toArray, List.append_toArray, List.nil_append, List.cons_append]
    gi_wp2_with fail
    refine ⟨trivial, (callsIn_wide.2 CK.out).mono ?_⟩
    rintro e w1 ⟨rfl, hb1⟩
    gi_wp2_with fail
    refine ⟨trivial, (callsIn_wide.2 (pieces_c s _)).mono ?_⟩
    rintro e w2 ⟨rfl, rfl⟩
    gi_wp2_with fail
    have hW1 := HW.out.below hb1
    have hBld : Bld (w1.heap.size + 2) w1.heap.size [] ((w1.alloc (.cells #[.pointer none, .slice none 0 0] 57)).alloc (.cells #[.string ⟨s.toArray⟩] 9)) := (Bld.fresh (w1.heap.size + 2) w1 (by omega)).alloc _
    have hB0 : Below w1.heap.size w1 ((w1.alloc (.cells #[.pointer none, .slice none 0 0] 57)).alloc (.cells #[.string ⟨s.toArray⟩] 9)) := ((Below.refl _ w1).alloc (Nat.le_refl _) _).alloc (by simp) _
    have hsz : ((w1.alloc (.cells #[.pointer none, .slice none 0 0] 57)).alloc (.cells #[.string ⟨s.toArray⟩] 9)).heap.size = w1.heap.size + 2 := by simp
    have hbx := Boxed.new (w1.alloc (.cells #[.pointer none, .slice none 0 0] 57)) 9 (.string ⟨s.toArray⟩)
    rw [World.size_alloc] at hbx
    have HB1 := Lib.hid hb1
    clear hb1
    generalize ((w1.alloc (.cells #[.pointer none, .slice none 0 0] 57)).alloc (.cells #[.string ⟨s.toArray⟩] 9)) = W0 at *
    have HSEQ : SeqBox Fence.wide (5 - 1) Tryd.prog 68 #[.pointer (some ⟨w1.heap.size + 1, 0, none⟩)] encP (w1.heap.size + 1) (KpB w1.heap.size (w1.heap.size + 1)) (fun ys => ys = pcs s.length s) (fun ys => ys <+: pcs s.length s) W0 := fun lr J W hW hJ hY h0 =>
      (pieces1_in 4 (by omega) lr (w1.heap.size + 1) s J w1 W hJ hY ((hW.block _ (by omega)).trans hbx) (by omega) hW1 (hB0.trans (hW.mono (by omega))) (by omega) h0).mono fun e W' ⟨hv, hj⟩ => ⟨hv, _, rfl, hj⟩
    have HW1 := Lib.hid hW1
    clear hbx hW1
    refine wpIn_rangeFunc_box rfl (by omega) (gf := 68) (lb := #[.pointer (some ⟨w1.heap.size + 1, 0, none⟩)]) rfl trivial (enters_of Tryd.func68 (by kernel_rfl) rfl) HSEQ (by rw [hsz]; omega) KpB.trans
      (fun W l o o' hl ho _ _ => kpB_b (D := W0.heap.size) (by omega) (by omega) W l o o' hl ho) (Below.refl _ _) (fun _ => rfl)
      (TxI w1.heap.size w1) (by rw [hsz]; exact txI_own _ _ (Nat.le_refl _)) (txI_box _ _ (Nat.le_refl _)) ⟨hBld, hB0, by rw [hsz]; exact Nat.le_refl _⟩
      (fun x a' W => ∃ g, w1.heap.size + 2 ≤ g ∧ a' = { tmps := #[.string ⟨s.toArray⟩, undef, .string ⟨#[]⟩, .int .i64 0, .int .i64 0, .pointer (some ⟨w1.heap.size, 0, none⟩), .pointer (some ⟨g, 0, none⟩), undef, undef, .string ⟨s.toArray⟩, .int .i64 0, .int .i64 0, .bool false, undef, .string ⟨s.toArray⟩, .func (.func 68) #[] #[.pointer (some ⟨w1.heap.size + 1, 0, none⟩)], .agg #[.string ⟨x.1.toArray⟩, .int .i64 x.2.1, .bool x.2.2], undef, undef, undef, undef, undef, undef, undef, undef, undef, undef, undef, undef, undef, undef, undef], defers := [] } ∧ W.heap[g]? = some (.cells #[.string ⟨x.1.toArray⟩, .int .i64 x.2.1, .bool x.2.2] 85)) ?hAx ?assign ?body ?done
    case hAx =>
      rintro x a' _ W W' row ⟨g, h1, h2, h3⟩ hg hr
      refine ⟨g, h1, h2, (hg.block g (lt_of h3) fun e => ?_).trans h3⟩
      obtain ⟨_, o, h4, h5⟩ := hr g e.symm
      rw [h3] at h4
      cases h4
      simp [Obj.isCells] at h5
    case assign =>
      rintro lr pre x W ⟨hI1, hI2, hI3⟩ hgd
      have hBs := hI2.size
      unfold encP
      gi_wp2
      exact ⟨(KeepsOthers.alloc W _).from _, ⟨(Below.refl _ W).alloc hBs _, Below.heap_alloc W _ _ (by omega)⟩, ⟨hI1.alloc _, hI2.alloc hBs _, by rw [World.size_alloc]; omega⟩, W.heap.size, hI3, rfl, World.alloc_heap_new W _⟩
    case body =>
      rintro lr pre ⟨x1, x2, x3⟩ a' W ⟨hI1, hI2, hI3⟩ ⟨g, hg, rfl, hcell⟩ hgd
      obtain ⟨hdoc, hlen⟩ := next_ok HG.out pre _ hgd
      dsimp only at hcell hdoc ⊢
      have g0 : W.cell? ⟨g, 0, none⟩ = some (.string ⟨x1.toArray⟩) := by rw [cell_of 0 hcell]; rfl
      have g1 : W.cell? ⟨g, 1, none⟩ = some (.int .i64 x2) := by rw [cell_of 1 hcell]; rfl
      have g2 : W.cell? ⟨g, 2, none⟩ = some (.bool x3) := by rw [cell_of 2 hcell]; rfl
      have HEND : Hid (∀ W' l', Bld (w1.heap.size + 2) w1.heap.size l' W' → l' = (pre ++ [(x1, x2, x3)]).flatMap pieceB → Fr (w1.heap.size + 2) w1.heap.size W W' → Ko w1.heap.size W W' → KeepsFrom W0.heap.size W W' ∧ KpB w1.heap.size (w1.heap.size + 1) W W' ∧ TxI w1.heap.size w1 (pre ++ [(x1, x2, x3)]) W') := Lib.hid fun W' l' h1 h2 h3 h4 =>
        ⟨⟨h3.size, fun k o hk ho hc => h4 k o (by omega) (fun vs f e => by rw [e] at hc; simp [Obj.isCells] at hc) ho⟩, ⟨h3.below (by omega) (Nat.le_refl _), h3.block _ (by omega) (by omega)⟩, by rw [← h2]; exact h1, hI2.trans (h3.below (by omega) (Nat.le_refl _)), Nat.le_trans hI3 h3.size⟩
      have HLN := Lib.hid hlen
      have HI := Lib.hid (And.intro hI1 (And.intro hI2 hI3))
      cases x3 with
      | false =>
        have HX : Hid (pre.flatMap pieceB ++ x1 = (pre ++ [(x1, x2, false)]).flatMap pieceB) := Lib.hid (by simp [pieceB])
        have HL1 : Hid ((pre.flatMap pieceB).length + x1.length ≤ 140737488355328) := Lib.hid (by have h1 : (pieceB (x1, x2, false)) = x1 := rfl; rw [h1] at hlen; omega)
        clear hdoc hlen hI1 hI2 hI3
        gi_wp2_with fail
        refine ⟨trivial, (CallsIn.inRound lr (callsIn_wide.2 (writeString_r (w1.heap.size + 2) w1.heap.size _ x1 W HI.out.1 HL1.out HI.out.2.2))).mono ?_⟩
        rintro e W5 ⟨rfl, hb5, hf5, hk5⟩
        have HE := Lib.hid (HEND.out _ _ hb5 HX.out hf5 hk5)
        clear hb5 hf5 hk5
        gi_wp2
        exact HE.out
      | true =>
        have hr := (isDoc_iff x2).1 (hdoc rfl)
        obtain ⟨r, rfl⟩ : ∃ r : Nat, x2 = (r : Int) := ⟨x2.toNat, by omega⟩
        have HX : Hid (pre.flatMap pieceB ++ encL r = (pre ++ [(x1, (r : Int), true)]).flatMap pieceB) := Lib.hid (by simp [pieceB])
        have CE := Lib.hid (utfEncode_c r W (HW1.out.below hI2).forms (by omega) ((isR_iff _).2 (by omega)))
        have HL1 : Hid ((pre.flatMap pieceB).length + (encL r).length ≤ 140737488355328) := Lib.hid (by
          have h1 : (pieceB (x1, (r : Int), true)) = encL r := by simp [pieceB]
          rw [h1] at hlen
          omega)
        clear hdoc hlen hI1 hI2 hI3 hr
        gi_wp2_with fail
        refine ⟨trivial, (CallsIn.inRound lr (callsIn_wide.2 CE.out)).mono ?_⟩
        rintro e W4 ⟨gb, rfl, hgb, hc4, hb4⟩
        have CW := Lib.hid (write_r (w1.heap.size + 2) w1.heap.size (pre.flatMap pieceB) (encL r) W4 ⟨gb, 0, none⟩ (encL r).length (HI.out.1.kept hb4) (by have := HI.out.2.2; show gb ≠ _; omega)
          (fun j u hu => by
            rw [show (⟨gb, 0, none⟩ : Addr).add j = ⟨gb, j, none⟩ by simp [Addr.add_lit], cell_of _ hc4, List.getElem?_toArray]
            exact hu) HL1.out (Nat.le_trans HI.out.2.2 hb4.size))
        have HF4 : Hid (Fr (w1.heap.size + 2) w1.heap.size W W4 ∧ Ko w1.heap.size W W4) := Lib.hid ⟨Fr.ofBelow (hb4.mono HI.out.2.2), Ko.ofBelow hb4⟩
        clear hgb hc4 hb4
        gi_wp2_with fail
        refine ⟨trivial, (CallsIn.inRound lr (callsIn_wide.2 CW.out)).mono ?_⟩
        rintro e W5 ⟨rfl, hb5, hf5, hk5⟩
        have HE := Lib.hid (HEND.out _ _ hb5 HX.out (HF4.out.1.trans hf5) (HF4.out.2.trans hk5))
        clear hb5 hf5 hk5
        gi_wp2
        exact HE.out
    case done =>
      rintro D ys W hD rfl ⟨hI1, hI2, hI3⟩ hK
      have hfl : (pcs s.length s).flatMap pieceB = tOut s := by rw [HT.out]; exact (pcs_txt s.length s s.length (Nat.le_refl _) (Nat.le_refl _) HG.out).1
      rw [hfl] at hI1
      have CS := Lib.hid (string_r (w1.heap.size + 2) w1.heap.size (tOut s) W hI1 hI3)
      have HALL := Lib.hid (And.intro hI2 (And.intro hI3 (And.intro hD hK)))
      clear hI1 hI2 hI3 hD hK hfl
      gi_wp2_with fail
      refine ⟨trivial, (callsIn_wide.2 CS.out).mono ?_⟩
      rintro e W5 ⟨rfl, hf5, hk5⟩
      have HB5 : Hid (Below w.heap.size w W5 ∧ W5.heap[D]? = some (.deferred (some [])) ∧ w1.heap.size ≤ D) := Lib.hid ⟨HB1.out.trans ((HALL.out.1.trans (hf5.below (by omega) (Nat.le_refl _))).mono HB1.out.size), hk5 D _ (by have := HALL.out.2.2.1; omega) (fun _ _ e => by cases e) HALL.out.2.2.2, by have := HALL.out.2.2.1; omega⟩
      clear hf5 hk5
      gi_wp2
      obtain ⟨hB5, hK5, hD5⟩ := HB5.out
      have hsw := HB1.out.size
      refine ⟨by simp, .inl ⟨_, _, rfl, run_takeDeferred hK5, ?_⟩⟩
      have hB6 : Below w.heap.size w (W5.putObj D (.deferred none)) := hB5.grown (grownBy_putObj' W5 D (.deferred none)) (by have := hB5.size; omega) (fun k e => by cases e; omega)
      refine ⟨.tuple #[.string ⟨(tOut s).toArray⟩, .int .i64 0], ?_, ⟨rfl, hB6⟩⟩
      simp [results, Tryd.f20, go_sem]
  · have HT : Hid (tOut s = []) := Lib.hid (by unfold tOut; rw [if_neg hk])
    have hz : ((checkV s : Int) == 0) = false := by simpa using hk
    clear hk
    generalize checkV s = c at *
    go_enter Tryd.func20, Tryd.ntmps20
    go_wp2_with fail
    refine CK.out.mono ?_
    rintro e w1 ⟨rfl, hb1⟩
    have HB1 := Lib.hid hb1
    clear hb1
    go_wp2
    go_ret2
    rw [HT.out]
    exact ⟨rfl, HB1.out⟩
end Go.Proofs.YtpblphddpcogcaaDoor
