/- utf.all: an iterator. -/
import Derived.Test.YtljmpghijlibaaaDoorRows
import Derived.WalkKit
import Derived.ProofKit
import Derived.OpenShut
import Derived.ShutString
import Derived.ChangeOld
import Derived.Below
import Derived.BigQuiet
import Derived.Deep.QuietTactic
import Derived.Lib.Hide
import Derived.Deep.RegionHeld3
import Derived.Lib.SlBytesConst
import Derived.Laws.CopyOwn
import Derived.Laws.CopyRow
import Derived.Lib.Bytes
import Derived.Deep.LoopGhost
import Derived.Deep.DeepFit
import Derived.Deep.DeepMust
import Derived.WalkSpells
import Derived.WalkLawsBesides
import Derived.Laws.EntriesVeiled
import Derived.Laws.Rows
import Derived.RangeFuncNested
import Derived.RangeFuncBound
import Derived.RangeFuncCalls
import Derived.RangeFuncLeaves
import Derived.RangeFuncBox
import Derived.Shelf.Abstract
import Derived.Shelf.RegionOpen
import Derived.OwnWalkIn
import Derived.TacticsInMore
import Derived.LoopNIn
import Derived.LoopIn
import Derived.Maps.AppendAt
import Derived.Test.YtljmpghijlibaaaDoorBase
import Derived.Test.YtljmpghijlibaaaDoorShelf
import Derived.Test.YtljmpghijlibaaaDoorCharPlain
import Derived.Test.YtljmpghijlibaaaDoorUtf1
import Derived.Test.YtljmpghijlibaaaDoorUtf2
import Derived.Test.YtljmpghijlibaaaDoorUtf3
import Derived.Test.YtljmpghijlibaaaDoorChars1
import Derived.Test.YtljmpghijlibaaaDoorRef1
import Derived.Test.YtljmpghijlibaaaDoorRef2
import Derived.Test.YtljmpghijlibaaaDoorRef3
import Derived.Test.YtljmpghijlibaaaDoorY2
import Derived.Test.YtljmpghijlibaaaDoorName1
import Derived.Test.YtljmpghijlibaaaDoorName2
import Derived.Test.YtljmpghijlibaaaDoorName3
import Derived.Test.YtljmpghijlibaaaDoorCref1
import Derived.Test.YtljmpghijlibaaaDoorStr
import Derived.Test.YtljmpghijlibaaaDoorY3
import Derived.Test.YtljmpghijlibaaaDoorPub
import Derived.Test.YtljmpghijlibaaaDoorRun
namespace Go.Proofs.YtljmpghijlibaaaDoor
open Go.ChangeShapes Go.WideShapes Go.ChangeAt Go.RowKit
set_option linter.unusedVariables false
attribute [local go_sem] Oper.semAt_some
/-- What the iterator over bytes' characters hands over, one by one. -/
def itemsL : Nat → List UInt8 → Nat → List (Int × Int)
  | 0, _, _ => []
  | _ + 1, [], _ => []
  | f + 1, c :: t, k => match dec (c :: t) with
    | some (r, n) => ((r : Int), 0) :: itemsL f ((c :: t).drop n) (k + n)
    | none => [((k : Int), 5)]
theorem itemsL_nil (f k : Nat) : itemsL f [] k = [] := by cases f <;> rfl
theorem itemsL_some (f : Nat) (l : List UInt8) (k r n : Nat) (h : dec l = some (r, n)) : itemsL (f + 1) l k = ((r : Int), 0) :: itemsL f (l.drop n) (k + n) := by
  cases l with
  | nil => simp [dec] at h
  | cons c t => simp only [itemsL, h]
theorem itemsL_none (f : Nat) (l : List UInt8) (k : Nat) (h0 : l ≠ []) (h : dec l = none) : itemsL (f + 1) l k = [((k : Int), 5)] := by
  cases l with
  | nil => exact absurd rfl h0
  | cons c t => simp only [itemsL, h]
theorem items_eq (f : Nat) : ∀ (l : List UInt8) (k : Nat), ∃ z : Int, itemsL f l k = (runesL f l).1.map (fun (r : Nat) => (Int.ofNat r, (0 : Int))) ++ (if (runesL f l).2 = true then [] else [(z, 5)]) := by
  induction f with
  | zero => intro l k; exact ⟨0, rfl⟩
  | succ f ih =>
    intro l k
    by_cases h0 : l = []
    · subst h0; rw [itemsL_nil, runesL_nil]; exact ⟨0, rfl⟩
    · cases hd : dec l with
      | none => rw [itemsL_none f l k h0 hd, runesL_none f l h0 hd]; exact ⟨k, rfl⟩
      | some x =>
        obtain ⟨r, n⟩ := x
        obtain ⟨z, hz⟩ := ih (l.drop n) (k + n)
        rw [itemsL_some f l k r n hd, runesL_some f l r n hd, hz]
        exact ⟨z, rfl⟩
def AllPost (items : List (Int × Int)) (J Jx : List (Int × Int) → World → Prop) (e : Ending) (W' : World) : Prop := (∃ v, e = .returned v) ∧ ((∃ ys, ys = items ∧ J ys W') ∨ (∃ pre, pre <+: items ∧ Jx pre W'))
def encI (x : Int × Int) : Array Value := #[.int .i64 x.1, .int .i64 x.2]
/-- What a round keeps for the iterator: what lay below S, and the block Bn. -/
def KpB (S Bn : Nat) (W W' : World) : Prop := Below S W W' ∧ W'.heap[Bn]? = W.heap[Bn]?
theorem KpB.trans {S Bn : Nat} {X Y Z : World} (h : KpB S Bn X Y) (k : KpB S Bn Y Z) : KpB S Bn X Z := ⟨h.1.trans k.1, k.2.trans h.2⟩
set_option maxRecDepth 100000 in
set_option maxHeartbeats 800000 in
theorem utfAll1_in (m : Nat) (hm1 : 1 ≤ m) (lr Bn S : Nat) (A : Option Addr) (n cap : Nat) (l : List UInt8) (J Jx : List (Int × Int) → World → Prop) (W : World) (hJ : AbidesFrom W.heap.size J)
    (hY : ∀ pre x W1, J pre W1 → pre.length < n + 1 → YieldAt Fence.wide (m - 1) Tryd.prog lr (encI x) W1 fun e W' =>
      (e = .returned (.bool true) ∧ J (pre ++ [x]) W' ∧ KpB S Bn W1 W') ∨ (e = .returned (.bool false) ∧ Jx (pre ++ [x]) W'))
    (hm : n ≤ 1100000) (hBn : W.cell? ⟨Bn, 0, none⟩ = some (.slice A n cap)) (hB : Byt W S A n cap l) (hF : Forms W) (hS : 2 < S) (h0 : J [] W) :
    CallsIn Fence.wide m Tryd.prog 115 #[.func (.yield lr) #[] #[], .pointer (some ⟨Bn, 0, none⟩)] W (AllPost (itemsL l.length l 0) J Jx) := by
  have hl := hB.length
  have HJ := Lib.hid hJ
  have HY := Lib.hid hY
  have HB := Lib.hid (And.intro hB (And.intro hF hS))
  have HL := Lib.hid hl
  have HBN := Lib.hid hBn
  have H0 : Hid (itemsL l.length l 0 = [] ++ itemsL l.length (l.drop 0) 0 ∧ J [] W) := Lib.hid ⟨rfl, h0⟩
  clear hJ hY hB hF hS hl h0 hBn
  refine callsIn_of_wp Tryd.func115 rfl trivial ?_ rfl
  simp only [Tryd.ntmps115, List.size_toArray, List.length_cons, List.length_nil, Nat.reduceAdd, Nat.reduceSub, Array.replicate_succ, Array.replicate_zero, List.push_toArray, List.append_toArray, List.nil_append, List.cons_append]
  gi_wp2
  gi_loopw [3] (fun i wr => ∃ (k f : Nat) (pre : List (Int × Int)), k ≤ n ∧ i = .int .i64 (k : Int) ∧ Hid (n ≤ k + f) ∧ Hid (pre.length ≤ k) ∧ Hid (itemsL l.length l 0 = pre ++ itemsL f (l.drop k) k ∧ J pre wr) ∧ Hid (KpB S Bn W wr))
    (fun i _ => n - (intOf i).toNat)
  case atStart => exact ⟨0, l.length, [], Nat.zero_le _, rfl, Lib.hid (by rw [HL.out]; omega), Lib.hid (Nat.le_refl _), H0, Lib.hid ⟨Below.refl _ _, rfl⟩⟩
  case round =>
    obtain ⟨k, f, pre, hk, rfl, hf, hp, HI, HK⟩ := hrel
    have hbx : wr.cell? ⟨Bn, 0, none⟩ = some (.slice A n cap) := (World.cell?_of_block (a := ⟨Bn, 0, none⟩) HK.out.2).trans HBN.out
    have hk0 : (0 : Int) ≤ (k : Int) := by omega
    have hk1 : (k : Int) ≤ 1100000 := by omega
    by_cases hkn : k < n
    · have hkni : (k : Int) < (n : Int) := by omega
      have HC := Lib.hid (decode_c A n cap l k wr _ (HB.out.1.below HK.out.1) (HB.out.2.1.below HK.out.1 HB.out.2.2) hkn (by omega))
      have hne : l.drop k ≠ [] := by
        intro e
        have := congrArg List.length e
        rw [List.length_drop, HL.out] at this
        simp at this
        omega
      obtain ⟨f', hf'⟩ : ∃ f', f = f' + 1 := ⟨f - 1, by have := hf.out; omega⟩
      cases hd : dec (l.drop k) with
      | none =>
        have HE : Hid (itemsL l.length l 0 = pre ++ [((k : Int), 5)]) := Lib.hid (by rw [HI.out.1, hf', itemsL_none f' _ k hne hd])
        rw [hd] at HC
        unfold decOut at HC
        clear hd hne hf'
        gi_wp2_with (first | (refine ⟨trivial, ?_⟩; gi_at_call 116; refine (callsIn_wide.2 HC.out).mono ?_; rintro e w1 ⟨rfl, q, rfl⟩; refine Hid.out ?_) | (gi_at_call 116; refine (callsIn_wide.2 HC.out).mono ?_; rintro e w1 ⟨rfl, q, rfl⟩; refine Hid.out ?_))
        refine Lib.hid ?_
        generalize hw1 : wr.drewN q = w1
        have J1 : J pre w1 := HJ.out pre wr w1 none HI.out.2 (by rw [← hw1]; exact (gr_refl wr none).drewN) (fun r e => by cases e)
        have hbx1 : w1.cell? ⟨Bn, 0, none⟩ = some (.slice A n cap) := by rw [← hw1]; exact hbx
        clear hw1
        obtain ⟨fn, tmps, assign, body, hy, hR⟩ := HY.out pre ((k : Int), 5) w1 J1 (by have := hp.out; omega)
        unfold encI at hy
        dsimp only at hy
        gi_wp2
        refine hR.mono ?_
        rintro e W3 (⟨rfl, hJ3, hk3⟩ | ⟨rfl, hJx3⟩)
        · have HJ3 := Lib.hid hJ3
          clear hJ3 hk3 hR hy
          gi_wp2
          go_end0
          exact ⟨⟨_, rfl⟩, .inl ⟨_, rfl, by rw [HE.out]; exact HJ3.out⟩⟩
        · have HJ3 := Lib.hid hJx3
          clear hJx3 hR hy
          gi_wp2
          go_end0
          exact ⟨⟨_, rfl⟩, .inr ⟨pre ++ [((k : Int), 5)], by rw [HE.out]; exact List.prefix_refl _, HJ3.out⟩⟩
      | some x =>
        obtain ⟨r, mm⟩ := x
        have hle := dec_le _ r mm hd
        rw [List.length_drop, HL.out] at hle
        have HE : Hid (itemsL l.length l 0 = (pre ++ [((r : Int), 0)]) ++ itemsL f' (l.drop (k + mm)) (k + mm)) := Lib.hid (by
          rw [HI.out.1, hf', itemsL_some f' _ k r mm hd, List.drop_drop]; simp)
        have HF : Hid (n ≤ k + mm + f') := Lib.hid (by have := hf.out; omega)
        rw [hd] at HC
        unfold decOut at HC
        have HLE := Lib.hid hle
        clear hd hne hf' hle
        gi_wp2_with (first | (refine ⟨trivial, ?_⟩; gi_at_call 116; refine (callsIn_wide.2 HC.out).mono ?_; rintro e w1 ⟨rfl, q, rfl⟩; refine Hid.out ?_) | (gi_at_call 116; refine (callsIn_wide.2 HC.out).mono ?_; rintro e w1 ⟨rfl, q, rfl⟩; refine Hid.out ?_))
        refine Lib.hid ?_
        generalize hw1 : wr.drewN q = w1
        have J1 : J pre w1 := HJ.out pre wr w1 none HI.out.2 (by rw [← hw1]; exact (gr_refl wr none).drewN) (fun r e => by cases e)
        have HK1 : Hid (KpB S Bn W w1) := Lib.hid (by rw [← hw1]; exact ⟨below_drewN' HK.out.1, HK.out.2⟩)
        clear hw1
        obtain ⟨fn, tmps, assign, body, hy, hR⟩ := HY.out pre ((r : Int), 0) w1 J1 (by have := hp.out; omega)
        unfold encI at hy
        dsimp only at hy
        gi_wp2
        refine hR.mono ?_
        rintro e W3 (⟨rfl, hJ3, hk3⟩ | ⟨rfl, hJx3⟩)
        · have HJ3 := Lib.hid (And.intro HE.out hJ3)
          have HK3 := Lib.hid (HK1.out.trans hk3)
          clear hJ3 hk3 hR hy
          gi_wp2
          go_roundw
          case rel => exact ⟨k + mm, f', pre ++ [((r : Int), 0)], by have := HLE.out; omega, by first | rfl | go_num, HF, Lib.hid (by have := HLE.out; have := hp.out; simp; omega), HJ3, HK3⟩
          case measure => have := HLE.out; simp [intOf]; omega
        · have HJ3 := Lib.hid hJx3
          clear hJx3 hR hy
          gi_wp2
          go_end0
          exact ⟨⟨_, rfl⟩, .inr ⟨pre ++ [((r : Int), 0)], by rw [HE.out]; exact List.prefix_append _ _, HJ3.out⟩⟩
    · have hkni : ¬ (k : Int) < (n : Int) := by omega
      have hkd : l.drop k = [] := List.drop_eq_nil_of_le (by rw [HL.out]; omega)
      have HE : Hid (itemsL l.length l 0 = pre) := Lib.hid (by rw [HI.out.1, hkd, itemsL_nil]; simp)
      clear hkd
      gi_wp2
      go_end0
      exact ⟨⟨_, rfl⟩, .inl ⟨_, rfl, by rw [HE.out]; exact HI.out.2⟩⟩
end Go.Proofs.YtljmpghijlibaaaDoor
