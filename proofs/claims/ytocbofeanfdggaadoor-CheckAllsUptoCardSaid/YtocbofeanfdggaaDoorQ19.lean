/- Texts of ours, joined: RunU, RunV. -/
import Derived.Test.YtocbofeanfdggaaDoorRows
import Derived.WalkKit
import Derived.ProofKit
import Derived.OpenShut
import Derived.ShutString
import Derived.ChangeOld
import Derived.Below
import Derived.BigQuiet
import Derived.Deep.QuietTactic
import Derived.Lib.Hide
import Derived.Deep.RegionHeld3
import Derived.Lib.SlBytesConst
import Derived.Laws.CopyOwn
import Derived.Laws.CopyRow
import Derived.Lib.Bytes
import Derived.Deep.LoopGhost
import Derived.Deep.DeepFit
import Derived.Deep.DeepMust
import Derived.WalkSpells
import Derived.WalkLawsBesides
import Derived.Laws.EntriesVeiled
import Derived.Laws.Rows
import Derived.RangeFuncNested
import Derived.RangeFuncBound
import Derived.RangeFuncCalls
import Derived.RangeFuncLeaves
import Derived.RangeFuncBox
import Derived.Shelf.Abstract
import Derived.Shelf.RegionOpen
import Derived.OwnWalkIn
import Derived.TacticsInMore
import Derived.LoopNIn
import Derived.LoopIn
import Derived.Maps.AppendAt
import Derived.Test.YtocbofeanfdggaaDoorQ2
import Derived.Test.YtocbofeanfdggaaDoorQ1
import Derived.Test.YtocbofeanfdggaaDoorQ3
import Derived.Test.YtocbofeanfdggaaDoorQ4
import Derived.Test.YtocbofeanfdggaaDoorQ5
import Derived.Test.YtocbofeanfdggaaDoorQ6
import Derived.Test.YtocbofeanfdggaaDoorQ7
import Derived.Test.YtocbofeanfdggaaDoorQ8
import Derived.Test.YtocbofeanfdggaaDoorQ9
import Derived.Test.YtocbofeanfdggaaDoorQ10
import Derived.Test.YtocbofeanfdggaaDoorQ11
import Derived.Test.YtocbofeanfdggaaDoorQ12
import Derived.Test.YtocbofeanfdggaaDoorQ13
/- utf.all: an iterator. -/
namespace Go.Proofs.YtocbofeanfdggaaDoor
open Go.ChangeShapes Go.WideShapes Go.ChangeAt Go.RowKit
set_option linter.unusedVariables false
attribute [local go_sem] Oper.semAt_some
/-- What the iterator over bytes' characters hands over, one by one. -/
def itemsL : Nat → List UInt8 → Nat → List (Int × Int)
  | 0, _, _ => []
  | _ + 1, [], _ => []
  | f + 1, c :: t, k => match dec (c :: t) with
    | some (r, n) => ((r : Int), 0) :: itemsL f ((c :: t).drop n) (k + n)
    | none => [((k : Int), 5)]
theorem itemsL_nil (f k : Nat) : itemsL f [] k = [] := by cases f <;> rfl
theorem itemsL_some (f : Nat) (l : List UInt8) (k r n : Nat) (h : dec l = some (r, n)) : itemsL (f + 1) l k = ((r : Int), 0) :: itemsL f (l.drop n) (k + n) := by
  cases l with
  | nil => simp [dec] at h
  | cons c t => simp only [itemsL, h]
theorem itemsL_none (f : Nat) (l : List UInt8) (k : Nat) (h0 : l ≠ []) (h : dec l = none) : itemsL (f + 1) l k = [((k : Int), 5)] := by
  cases l with
  | nil => exact absurd rfl h0
  | cons c t => simp only [itemsL, h]
theorem items_eq (f : Nat) : ∀ (l : List UInt8) (k : Nat), ∃ z : Int, itemsL f l k = (runesL f l).1.map (fun (r : Nat) => (Int.ofNat r, (0 : Int))) ++ (if (runesL f l).2 = true then [] else [(z, 5)]) := by
  induction f with
  | zero => intro l k; exact ⟨0, rfl⟩
  | succ f ih =>
    intro l k
    by_cases h0 : l = []
    · subst h0; rw [itemsL_nil, runesL_nil]; exact ⟨0, rfl⟩
    · cases hd : dec l with
      | none => rw [itemsL_none f l k h0 hd, runesL_none f l h0 hd]; exact ⟨k, rfl⟩
      | some x =>
        obtain ⟨r, n⟩ := x
        obtain ⟨z, hz⟩ := ih (l.drop n) (k + n)
        rw [itemsL_some f l k r n hd, runesL_some f l r n hd, hz]
        exact ⟨z, rfl⟩
def AllPost (items : List (Int × Int)) (J Jx : List (Int × Int) → World → Prop) (e : Ending) (W' : World) : Prop := (∃ v, e = .returned v) ∧ ((∃ ys, ys = items ∧ J ys W') ∨ (∃ pre, pre <+: items ∧ Jx pre W'))
def encI (x : Int × Int) : Array Value := #[.int .i64 x.1, .int .i64 x.2]
/-- What a round keeps for the iterator: what lay below S, and the block Bn. -/
def KpB (S Bn : Nat) (W W' : World) : Prop := Below S W W' ∧ W'.heap[Bn]? = W.heap[Bn]?
theorem KpB.trans {S Bn : Nat} {X Y Z : World} (h : KpB S Bn X Y) (k : KpB S Bn Y Z) : KpB S Bn X Z := ⟨h.1.trans k.1, k.2.trans h.2⟩
set_option maxRecDepth 100000 in
set_option maxHeartbeats 800000 in
theorem utfAll1_in (m : Nat) (hm1 : 1 ≤ m) (lr Bn S : Nat) (A : Option Addr) (n cap : Nat) (l : List UInt8) (J Jx : List (Int × Int) → World → Prop) (W : World) (hJ : AbidesFrom W.heap.size J)
    (hY : ∀ pre x W1, J pre W1 → pre.length < n + 1 → YieldAt Fence.wide (m - 1) Tryd.prog lr (encI x) W1 fun e W' =>
      (e = .returned (.bool true) ∧ J (pre ++ [x]) W' ∧ KpB S Bn W1 W') ∨ (e = .returned (.bool false) ∧ Jx (pre ++ [x]) W'))
    (hm : n ≤ 1100000) (hBn : W.cell? ⟨Bn, 0, none⟩ = some (.slice A n cap)) (hB : Byt W S A n cap l) (hF : Forms W) (hS : 9 < S) (h0 : J [] W) :
    CallsIn Fence.wide m Tryd.prog 126 #[.func (.yield lr) #[] #[], .pointer (some ⟨Bn, 0, none⟩)] W (AllPost (itemsL l.length l 0) J Jx) := by
  have hl := hB.length
  have HJ := Lib.hid hJ
  have HY := Lib.hid hY
  have HB := Lib.hid (And.intro hB (And.intro hF hS))
  have HL := Lib.hid hl
  have HBN := Lib.hid hBn
  have H0 : Hid (itemsL l.length l 0 = [] ++ itemsL l.length (l.drop 0) 0 ∧ J [] W) := Lib.hid ⟨rfl, h0⟩
  clear hJ hY hB hF hS hl h0 hBn
  refine callsIn_of_wp Tryd.func126 rfl trivial ?_ rfl
  simp only [Tryd.ntmps126, List.size_toArray, List.length_cons, List.length_nil, Nat.reduceAdd, Nat.reduceSub, Array.replicate_succ, Array.replicate_zero, List.push_toArray, List.append_toArray, List.nil_append, List.cons_append]
  gi_wp2
  gi_loopw [3] (fun i wr => ∃ (k f : Nat) (pre : List (Int × Int)), k ≤ n ∧ i = .int .i64 (k : Int) ∧ Hid (n ≤ k + f) ∧ Hid (pre.length ≤ k) ∧ Hid (itemsL l.length l 0 = pre ++ itemsL f (l.drop k) k ∧ J pre wr) ∧ Hid (KpB S Bn W wr))
    (fun i _ => n - (intOf i).toNat)
  case atStart => exact ⟨0, l.length, [], Nat.zero_le _, rfl, Lib.hid (by rw [HL.out]; omega), Lib.hid (Nat.le_refl _), H0, Lib.hid ⟨Below.refl _ _, rfl⟩⟩
  case round =>
    obtain ⟨k, f, pre, hk, rfl, hf, hp, HI, HK⟩ := hrel
    have hbx : wr.cell? ⟨Bn, 0, none⟩ = some (.slice A n cap) := (World.cell?_of_block (a := ⟨Bn, 0, none⟩) HK.out.2).trans HBN.out
    have hk0 : (0 : Int) ≤ (k : Int) := by omega
    have hk1 : (k : Int) ≤ 1100000 := by omega
    by_cases hkn : k < n
    · have hkni : (k : Int) < (n : Int) := by omega
      have HC := Lib.hid (decode_c A n cap l k wr _ (HB.out.1.below HK.out.1) (HB.out.2.1.below HK.out.1 HB.out.2.2) hkn (by omega))
      have hne : l.drop k ≠ [] := by
        intro e
        have := congrArg List.length e
        rw [List.length_drop, HL.out] at this
        simp at this
        omega
      obtain ⟨f', hf'⟩ : ∃ f', f = f' + 1 := ⟨f - 1, by have := hf.out; omega⟩
      cases hd : dec (l.drop k) with
      | none =>
        have HE : Hid (itemsL l.length l 0 = pre ++ [((k : Int), 5)]) := Lib.hid (by rw [HI.out.1, hf', itemsL_none f' _ k hne hd])
        rw [hd] at HC
        unfold decOut at HC
        clear hd hne hf'
        gi_wp2_with (first | (refine ⟨trivial, ?_⟩; gi_at_call 114; refine (callsIn_wide.2 HC.out).mono ?_; rintro e w1 ⟨rfl, q, rfl⟩; refine Hid.out ?_) | (gi_at_call 114; refine (callsIn_wide.2 HC.out).mono ?_; rintro e w1 ⟨rfl, q, rfl⟩; refine Hid.out ?_))
        refine Lib.hid ?_
        generalize hw1 : wr.drewN q = w1
        have J1 : J pre w1 := HJ.out pre wr w1 none HI.out.2 (by rw [← hw1]; exact (gr_refl wr none).drewN) (fun r e => by cases e)
        have hbx1 : w1.cell? ⟨Bn, 0, none⟩ = some (.slice A n cap) := by rw [← hw1]; exact hbx
        clear hw1
        obtain ⟨fn, tmps, assign, body, hy, hR⟩ := HY.out pre ((k : Int), 5) w1 J1 (by have := hp.out; omega)
        unfold encI at hy
        dsimp only at hy
        gi_wp2
        refine hR.mono ?_
        rintro e W3 (⟨rfl, hJ3, hk3⟩ | ⟨rfl, hJx3⟩)
        · have HJ3 := Lib.hid hJ3
          clear hJ3 hk3 hR hy
          gi_wp2
          go_end0
          exact ⟨⟨_, rfl⟩, .inl ⟨_, rfl, by rw [HE.out]; exact HJ3.out⟩⟩
        · have HJ3 := Lib.hid hJx3
          clear hJx3 hR hy
          gi_wp2
          go_end0
          exact ⟨⟨_, rfl⟩, .inr ⟨pre ++ [((k : Int), 5)], by rw [HE.out]; exact List.prefix_refl _, HJ3.out⟩⟩
      | some x =>
        obtain ⟨r, mm⟩ := x
        have hle := dec_le _ r mm hd
        rw [List.length_drop, HL.out] at hle
        have HE : Hid (itemsL l.length l 0 = (pre ++ [((r : Int), 0)]) ++ itemsL f' (l.drop (k + mm)) (k + mm)) := Lib.hid (by
          rw [HI.out.1, hf', itemsL_some f' _ k r mm hd, List.drop_drop]; simp)
        have HF : Hid (n ≤ k + mm + f') := Lib.hid (by have := hf.out; omega)
        rw [hd] at HC
        unfold decOut at HC
        have HLE := Lib.hid hle
        clear hd hne hf' hle
        gi_wp2_with (first | (refine ⟨trivial, ?_⟩; gi_at_call 114; refine (callsIn_wide.2 HC.out).mono ?_; rintro e w1 ⟨rfl, q, rfl⟩; refine Hid.out ?_) | (gi_at_call 114; refine (callsIn_wide.2 HC.out).mono ?_; rintro e w1 ⟨rfl, q, rfl⟩; refine Hid.out ?_))
        refine Lib.hid ?_
        generalize hw1 : wr.drewN q = w1
        have J1 : J pre w1 := HJ.out pre wr w1 none HI.out.2 (by rw [← hw1]; exact (gr_refl wr none).drewN) (fun r e => by cases e)
        have HK1 : Hid (KpB S Bn W w1) := Lib.hid (by rw [← hw1]; exact ⟨below_drewN' HK.out.1, HK.out.2⟩)
        clear hw1
        obtain ⟨fn, tmps, assign, body, hy, hR⟩ := HY.out pre ((r : Int), 0) w1 J1 (by have := hp.out; omega)
        unfold encI at hy
        dsimp only at hy
        gi_wp2
        refine hR.mono ?_
        rintro e W3 (⟨rfl, hJ3, hk3⟩ | ⟨rfl, hJx3⟩)
        · have HJ3 := Lib.hid (And.intro HE.out hJ3)
          have HK3 := Lib.hid (HK1.out.trans hk3)
          clear hJ3 hk3 hR hy
          gi_wp2
          go_roundw
          case rel => exact ⟨k + mm, f', pre ++ [((r : Int), 0)], by have := HLE.out; omega, by first | rfl | go_num, HF, Lib.hid (by have := HLE.out; have := hp.out; simp; omega), HJ3, HK3⟩
          case measure => have := HLE.out; simp [intOf]; omega
        · have HJ3 := Lib.hid hJx3
          clear hJx3 hR hy
          gi_wp2
          go_end0
          exact ⟨⟨_, rfl⟩, .inr ⟨pre ++ [((r : Int), 0)], by rw [HE.out]; exact List.prefix_append _ _, HJ3.out⟩⟩
    · have hkni : ¬ (k : Int) < (n : Int) := by omega
      have hkd : l.drop k = [] := List.drop_eq_nil_of_le (by rw [HL.out]; omega)
      have HE : Hid (itemsL l.length l 0 = pre) := Lib.hid (by rw [HI.out.1, hkd, itemsL_nil]; simp)
      clear hkd
      gi_wp2
      go_end0
      exact ⟨⟨_, rfl⟩, .inl ⟨_, rfl, by rw [HE.out]; exact HI.out.2⟩⟩
end Go.Proofs.YtocbofeanfdggaaDoor
/- utf.Runes. -/
namespace Go.Proofs.YtocbofeanfdggaaDoor
open Go.ChangeShapes Go.WideShapes Go.ChangeAt Go.RowKit
set_option linter.unusedVariables false
attribute [local go_sem] Oper.semAt_some
theorem box_keep {W w1 : World} {n₀ B B' : Nat} {t e : TypeId} {u v v' : Value} {k size : Nat} {xs : List Value} {tmp : Obj} (h : Boxed W B t u) (hte : t ≠ e) (hrow : W.ownsRow n₀ e size v k xs) (hgrow : (W.alloc tmp).grownBy w1 v.ownBlock) (hne : B ≠ B') :
    Boxed (w1.setCell ⟨B', 0, none⟩ v') B t u := ((h.alloc tmp).kept hgrow (h.not_row hte hrow)).other hne v'
theorem utfAll_c (A : Option Addr) (n cap : Nat) (w : World) : Calls Tryd.prog 115 #[.slice A n cap] w fun e w' => e = .returned (.func (.func 126) #[] #[.pointer (some ⟨w.heap.size, 0, none⟩)]) ∧ w' = w.alloc (.cells #[.slice A n cap] 55) := by
  go_enter Tryd.func115, Tryd.ntmps115
  go_wp2
  go_ret
  exact ⟨rfl, rfl⟩
theorem items_fst (l : List UInt8) (h : ∀ x ∈ itemsL l.length l 0, x.2 = 0) : (runesOut l).2 = true ∧ (itemsL l.length l 0).length = (runesOut l).1.length ∧ (itemsL l.length l 0).map (fun x => Value.int .i64 x.1) = (runesOut l).1.map iv := by
  obtain ⟨z, hz⟩ := items_eq l.length l 0
  unfold runesOut
  rw [hz] at h ⊢
  cases hb : (runesL l.length l).2 with
  | true =>
    simp only [if_true, List.append_nil, List.length_map, List.map_map]
    exact ⟨trivial, by simp, by first | rfl | simp [iv, Function.comp_def]⟩
  | false =>
    rw [hb] at h
    have := h (z, 5) (by simp)
    simp at this
theorem items_bad (l : List UInt8) (pre : List (Int × Int)) (hp : pre <+: itemsL l.length l 0) (x : Int × Int) (hx : x ∈ pre) (h : x.2 ≠ 0) : (runesOut l).2 = false ∧ x.2 = 5 := by
  obtain ⟨z, hz⟩ := items_eq l.length l 0
  have hm := hp.subset hx
  unfold runesOut
  rw [hz] at hm
  rcases List.mem_append.1 hm with hm | hm
  · obtain ⟨r, _, rfl⟩ := List.mem_map.1 hm
    exact absurd rfl h
  · cases hb : (runesL l.length l).2 with
    | true => rw [hb] at hm; simp at hm
    | false => rw [hb] at hm; simp at hm; rw [hm]; exact ⟨rfl, rfl⟩
theorem items_len (l : List UInt8) : (itemsL l.length l 0).length ≤ l.length + 1 := by
  obtain ⟨z, hz⟩ := items_eq l.length l 0
  have := (runesL_le l.length l).2
  rw [hz]
  simp only [List.length_append, List.length_map]
  split <;> simp <;> omega
def RunI (S : Nat) (w : World) (bx : Value) (pre : List (Int × Int)) (W : World) : Prop :=
  (((∃ v, Boxed W (S + 1 + 1) 103 v ∧ W.ownsRow S 3 1 v pre.length (pre.map fun x => Value.int .i64 x.1) ∧ True) ∧ Boxed W S 103 (.slice none 0 0)) ∧ (Boxed W (S + 1) 29 (.int .i64 0) ∧ Boxed W (S + 1 + 1 + 1) 55 bx)) ∧ ((∀ x ∈ pre, x.2 = 0) ∧ Below S w W)
def RunX (S : Nat) (w : World) (c : Code) (pre : List (Int × Int)) (W : World) : Prop :=
  ∃ x : Int × Int, (((Boxed W S 103 (.slice none 0 0) ∧ Boxed W (S + 1) 29 (.int .i64 x.2)) ∧ (c = .ret ∧ x ∈ pre ∧ x.2 ≠ 0)) ∧ Below S w W)
theorem runI_own (S B : Nat) (w : World) (bx : Value) (hS : S ≤ w.heap.size) (hB : S ≤ B) : OwnFrom B (RunI S w bx) :=
  OwnFrom.and (OwnFrom.and (OwnFrom.and (Own.from (holdsRow_own S (S + 1 + 1) 103 3 1 (fun pre : List (Int × Int) => pre.length) (fun pre => pre.map fun x => Value.int .i64 x.1) (fun _ _ => True)) _) (Own.from (boxed_own S 103 (fun _ => .slice none 0 0)) _))
    (OwnFrom.and (Own.from (boxed_own (S + 1) 29 (fun _ => .int .i64 0)) _) (Own.from (boxed_own (S + 1 + 1 + 1) 55 (fun _ => bx)) _))) (OwnFrom.and (ownFrom_pure _ fun pre : List (Int × Int) => ∀ x ∈ pre, x.2 = 0) (ownFrom_below hS hB))
theorem runX_own (S B : Nat) (w : World) (hS : S ≤ w.heap.size) (hB : S ≤ B) (c : Code) : OwnFrom B (RunX S w c) := by
  rintro s W W' row ⟨x, hx⟩ hg hr
  exact ⟨x, (OwnFrom.and (OwnFrom.and (OwnFrom.and (Own.from (boxed_own S 103 (fun _ : List (Int × Int) => .slice none 0 0)) _) (Own.from (boxed_own (S + 1) 29 (fun _ => .int .i64 x.2)) _)) (ownFrom_pure _ fun pre : List (Int × Int) => c = .ret ∧ x ∈ pre ∧ x.2 ≠ 0)) (ownFrom_below hS hB)) s W W' row hx hg hr⟩
theorem kpB_b {S Bn D : Nat} (hS : S ≤ D) (hB : Bn < D) (W : World) (l : Nat) (o o' : Obj) (hl : D ≤ l) (ho : W.heap[l]? = some o) : KpB S Bn W (W.putObj l o') :=
  ⟨(Below.refl S W).grown (grownBy_putObj' W l o') (by have := lt_of ho; omega) (fun k e => by cases e; omega), World.putObj_heap_other (by omega)⟩
set_option maxRecDepth 100000 in
set_option maxHeartbeats 4000000 in
theorem utfRunes_c (A : Option Addr) (n cap : Nat) (l : List UInt8) (w : World) (h : Byt w w.heap.size A n cap l) (hF : Forms w) (hm : n ≤ 1100000) :
    Calls Tryd.prog 103 #[.slice A n cap] w (RunesP l w 0 (fun z => z = 5)) := by
  obtain ⟨i0, hi, hz0, hz1, hz2⟩ := info_parts (show (Tryd.prog.info? 3).map (fun i => (i.zero, i.size, i.bytes)) = some (some (.int .i64 0), 1, 8) by kernel_rfl)
  have hln := h.length
  have HIN := Lib.hid (And.intro h (And.intro hF hln))
  have hlen : (itemsL l.length l 0).length ≤ n + 1 := by have := items_len l; omega
  have HLEN := Lib.hid hlen
  have hS := Lib.hid hF.lt
  clear h hF hlen hln
  refine (callsIn_wide (n := 5)).1 ?_
  refine callsIn_of_wp_marks Tryd.func103 rfl trivial ?_ rfl
  simp only [Tryd.ntmps103, List.size_toArray, List.length_cons, List.length_nil, Nat.reduceAdd, Nat.reduceSub, Array.replicate_succ, Array.replicate_zero, List.push_toArray, List.append_toArray, List.nil_append, List.cons_append]
  gi_wp2_with (first | (refine ⟨trivial, ?_⟩; gi_at_call 115; refine (callsIn_wide.2 (utfAll_c A n cap _)).mono ?_; rintro e w' ⟨rfl, rfl⟩) | (gi_at_call 115; refine (callsIn_wide.2 (utfAll_c A n cap _)).mono ?_; rintro e w' ⟨rfl, rfl⟩))
  have b2 := Boxed.new w 103 (.slice none 0 0)
  have b3 := Boxed.new (w.alloc (.cells #[.slice none 0 0] 103)) 29 (.int .i64 0)
  have b4 := Boxed.new ((w.alloc (.cells #[.slice none 0 0] 103)).alloc (.cells #[.int .i64 0] 29)) 103 (.slice none 0 0)
  have bb := Boxed.new (((w.alloc (.cells #[.slice none 0 0] 103)).alloc (.cells #[.int .i64 0] 29)).alloc (.cells #[.slice none 0 0] 103)) 55 (.slice A n cap)
  simp only [World.size_alloc] at b3 b4 bb
  have b2' := ((b2.alloc (.cells #[.int .i64 0] 29)).alloc (.cells #[.slice none 0 0] 103)).alloc (.cells #[.slice A n cap] 55)
  have b3' := (b3.alloc (.cells #[.slice none 0 0] 103)).alloc (.cells #[.slice A n cap] 55)
  have b4' := b4.alloc (.cells #[.slice A n cap] 55)
  have hB0 : Below w.heap.size w ((((w.alloc (.cells #[.slice none 0 0] 103)).alloc (.cells #[.int .i64 0] 29)).alloc (.cells #[.slice none 0 0] 103)).alloc (.cells #[.slice A n cap] 55)) := ((((Below.refl _ w).alloc (Nat.le_refl _) _).alloc (by simp) _).alloc (by simp; omega) _).alloc (by simp; omega) _
  have hsz : ((((w.alloc (.cells #[.slice none 0 0] 103)).alloc (.cells #[.int .i64 0] 29)).alloc (.cells #[.slice none 0 0] 103)).alloc (.cells #[.slice A n cap] 55)).heap.size = w.heap.size + 4 := by simp
  clear b2 b3 b4
  generalize hS0 : w.heap.size = S at *
  generalize hW0 : ((((w.alloc (.cells #[.slice none 0 0] 103)).alloc (.cells #[.int .i64 0] 29)).alloc (.cells #[.slice none 0 0] 103)).alloc (.cells #[.slice A n cap] 55)) = W0 at *
  have HSEQ : SeqStopsK Fence.wide (5 - 1) Tryd.prog 126 #[.pointer (some ⟨S + 1 + 1 + 1, 0, none⟩)] encI (KpB S (S + 1 + 1 + 1)) (fun ys => ys = itemsL l.length l 0) (fun pre => pre <+: itemsL l.length l 0) (n + 1) W0 := fun lr J Jx W hW hJ hJx hY h0 =>
    utfAll1_in 4 (by omega) lr (S + 1 + 1 + 1) S A n cap l J Jx W hJ hY hm ((hW.cell (p := ⟨S + 1 + 1 + 1, 0, none⟩) (by show S + 1 + 1 + 1 < W0.heap.size; omega)).trans bb.cell) ((HIN.out.1.below hB0).below (hW.mono (by omega))) ((HIN.out.2.1.below hB0 hS.out).below (hW.mono (show S ≤ W0.heap.size by omega)) hS.out) hS.out h0
  refine wpIn_rangeFunc_ownG rfl (by omega) (gf := 126) (lb := #[.pointer (some ⟨S + 1 + 1 + 1, 0, none⟩)]) rfl trivial (enters_of Tryd.func126 (by kernel_rfl) rfl) HSEQ KpB.trans
    (fun W l o o' hl ho _ _ => kpB_b (D := W0.heap.size) (by omega) (by omega) W l o o' hl ho) (Below.refl _ _) (fun _ => rfl)
    (RunI S w (.slice A n cap)) (RunX S w) (runI_own S W0.heap.size w _ (by omega) (by omega)) (runX_own S W0.heap.size w (by omega) (by omega))
    ⟨⟨⟨⟨_, b4', World.ownsRow_nil _ _ _ _, trivial⟩, b2'⟩, b3', bb⟩, by simp, hB0⟩
    (fun x => { tmps := #[.slice A n cap, undef, .pointer (some ⟨S, 0, none⟩), .pointer (some ⟨S + 1, 0, none⟩), .pointer (some ⟨S + 1 + 1, 0, none⟩), .int .i64 x.1, .int .i64 x.2, .slice A n cap, .func (.func 126) #[] #[.pointer (some ⟨S + 1 + 1 + 1, 0, none⟩)], .int .i64 x.1, .int .i64 x.2, undef, undef, undef, undef, undef, undef, undef, undef], defers := [] }) ?assign ?body ?done ?stop
  case assign =>
    intro lr x W K hK
    unfold encI
    gi_wp2
    exact hK
  case body =>
    rintro lr pre ⟨x1, x2⟩ W ⟨⟨⟨⟨v, hv, hrow, _⟩, hv2⟩, hv3, hvb⟩, hz, hB⟩ hlt
    simp only
    have hc := hv.cell
    have hBs := hB.size
    rw [hS0] at hBs
    by_cases hx : x2 = 0
    · subst hx
      have HKEEP := Lib.hid (And.intro hv2 (And.intro hv3 (And.intro hvb (And.intro hz hB))))
      clear hv2 hv3 hvb hz hB
      gi_wp2_with (gi_at_builtin; refine wpListIn_append_own _ rfl _ _ 103 rfl S 3 i0 (.int .i64 0) 1 8 Tryd.underlying103 hi hz0 hz1 hz2 rfl (by decide) _ _ _ rfl (hrow.alloc _) ⟨W.heap.size, 0, none⟩ 1 1 [.int .i64 x1] rfl rfl (cell_one_new _ _ _) (by simp [Value.oneCell']) (by unfold maxLen; omega) (by omega) (by simp; omega) ?_; intro v' w1 hown' hgrow _; obtain ⟨g', cap', rfl⟩ := ownsRow_succ hown'; obtain ⟨hv1, hv2', hr2, hk2, hb2⟩ := hv.appended (by decide) hrow hBs (by omega) hown' hgrow; have hc1 := hv1.cell; have hf1 := hv1.frozen; have hx2 := Lib.hid (box_keep (B' := S + 1 + 1) (v' := .slice (some ⟨g', 0, none⟩) (pre.length + 1) cap') HKEEP.out.1 (by decide) hrow hgrow (by omega)); have hx3 := Lib.hid (box_keep (B' := S + 1 + 1) (v' := .slice (some ⟨g', 0, none⟩) (pre.length + 1) cap') HKEEP.out.2.1 (by decide) hrow hgrow (by omega)); have hxb := Lib.hid (box_keep (B' := S + 1 + 1) (v' := .slice (some ⟨g', 0, none⟩) (pre.length + 1) cap') HKEEP.out.2.2.1 (by decide) hrow hgrow (by omega)); have HEND := Lib.hid (And.intro hv2' (And.intro hr2 (And.intro hk2 hb2))); clear hv2' hr2 hk2 hb2 hown' hgrow)
      refine ⟨HEND.out.2.2.1.from _, ⟨HEND.out.2.2.2, hxb.out.trans HKEEP.out.2.2.1.symm⟩, ⟨⟨⟨_, HEND.out.1, ?_, trivial⟩, hx2.out⟩, hx3.out, hxb.out⟩, ?_, HKEEP.out.2.2.2.2.trans HEND.out.2.2.2⟩
      · have := HEND.out.2.1
        rw [List.length_append, List.map_append]
        exact this
      · intro y hy
        rcases List.mem_append.1 hy with hy | hy
        · exact HKEEP.out.2.2.2.1 y hy
        · rw [List.mem_singleton.1 hy]
    · have hxz : (x2 != 0) = true := by simpa using hx
      have c2 := hv2.cell
      have f2 := hv2.frozen
      have c3 := hv3.cell
      have f3 := hv3.frozen
      have HX := Lib.hid hx
      have HKEEP := Lib.hid (And.intro hv2 (And.intro hv3 hB))
      clear hx hv2 hv3 hvb hz hB hrow hv hc
      gi_wp2
      refine ⟨((KeepsOthers.setCell _ _ _).trans (KeepsOthers.setCell _ _ _)).from _, (x1, x2), ⟨⟨(HKEEP.out.1.set _).other (by omega) _, (HKEEP.out.2.1.other (by omega) _).set _⟩, rfl, by simp, HX.out⟩, ?_⟩
      exact (HKEEP.out.2.2.setCell (p := ⟨S, 0, none⟩) (by rw [← hS0]; exact Nat.le_refl _) _).setCell (p := ⟨S + 1, 0, none⟩) (by show S ≤ S + 1; omega) _
  case done =>
    rintro D ys W hD rfl ⟨⟨⟨⟨v, hv, hrow, _⟩, hv2⟩, hv3, hvb⟩, hz, hB⟩ hK
    obtain ⟨hok, hln, hmp⟩ := items_fst l hz
    rw [hln, hmp] at hrow
    obtain ⟨A', c', rfl, _⟩ := own_form hrow
    have c4 := hv.cell
    have c2 := hv2.cell
    have f2 := hv2.frozen
    have c3 := hv3.cell
    have f3 := hv3.frozen
    have HALL := Lib.hid (And.intro hrow (And.intro hv2 (And.intro hv3 (And.intro hB (And.intro hok (And.intro hD hK))))))
    clear hrow hv hv2 hv3 hvb hz hB hok hln hmp hD hK
    gi_wp2
    obtain ⟨hrow, hv2, hv3, hB, hok, hD, hK⟩ := HALL.out
    have hK' := ((KeepsOthers.setCell W ⟨S, 0, none⟩ (.slice A' (runesOut l).1.length c')).trans (KeepsOthers.setCell _ ⟨S + 1, 0, none⟩ (.int .i64 0))).same D _ hK rfl
    have hD2 : S + 4 ≤ D := by omega
    refine ⟨by simp, .inl ⟨_, _, rfl, run_takeDeferred hK', ?_⟩⟩
    have e2 := ((hv2.set (.slice A' (runesOut l).1.length c')).other (B' := S + 1) (by omega) (.int .i64 0)).kept (grownBy_putObj' _ D (.deferred none)) (by intro e; cases e; omega)
    have e3 := ((hv3.other (B' := S) (by omega) (.slice A' (runesOut l).1.length c')).set (.int .i64 0)).kept (grownBy_putObj' _ D (.deferred none)) (by intro e; cases e; omega)
    have hrow1 := hrow.kept (grownBy_setCell' W S (.slice A' (runesOut l).1.length c')) (.inr (hv2.not_row (by decide) hrow).symm)
    have hrow2 := hrow1.kept (grownBy_setCell' _ (S + 1) (.int .i64 0)) (.inr ((hv3.other (B' := S) (by omega) (.slice A' (runesOut l).1.length c')).not_row (by decide) hrow1).symm)
    have hrow3 := ownsRow_putObj hrow2 (.deferred none) hK' rfl
    have hB3 := ((hB.setCell (p := ⟨S, 0, none⟩) (Nat.le_refl _) (.slice A' (runesOut l).1.length c')).setCell (p := ⟨S + 1, 0, none⟩) (by show S ≤ S + 1; omega) (.int .i64 0)).trans (kpB_b (Bn := S) (D := W0.heap.size) (by omega) (by omega) _ D _ (.deferred none) hD hK').1
    have c5 := e2.cell
    have c6 := e3.cell
    refine ⟨.tuple #[.slice A' (runesOut l).1.length c', .int .i64 0], ?_, ⟨by rw [hS0]; exact hB3, Or.inl ⟨hok, A', c', rfl, Rd.ofOwn hrow3⟩⟩⟩
    simp [results, Tryd.f103, go_sem, c5, c6]
  case stop =>
    rintro D c pre W hD hpre ⟨x, ⟨⟨hv2, hv3⟩, rfl, hin, hne⟩, hB⟩ hK
    obtain ⟨hok, h5⟩ := items_bad l pre hpre x hin hne
    have HALL := Lib.hid (And.intro hv2 (And.intro hv3 (And.intro hB (And.intro hok (And.intro h5 (And.intro hD hK))))))
    clear hv2 hv3 hB hok h5 hin hne hpre hD hK
    gi_wp2
    obtain ⟨hv2, hv3, hB, hok, h5, hD, hK⟩ := HALL.out
    have hD2 : S + 4 ≤ D := by omega
    refine ⟨by simp, .inl ⟨_, _, rfl, run_takeDeferred hK, ?_⟩⟩
    have e2 := hv2.kept (grownBy_putObj' _ D (.deferred none)) (by intro e; cases e; omega)
    have e3 := hv3.kept (grownBy_putObj' _ D (.deferred none)) (by intro e; cases e; omega)
    have hB3 := hB.trans (kpB_b (Bn := S) (D := W0.heap.size) (by omega) (by omega) _ D _ (.deferred none) hD hK).1
    have c5 := e2.cell
    have c6 := e3.cell
    refine ⟨.tuple #[.slice none 0 0, .int .i64 x.2], ?_, ⟨by rw [hS0]; exact hB3, Or.inr ⟨hok, x.2, h5, rfl⟩⟩⟩
    simp [results, Tryd.f103, go_sem, c5, c6]
end Go.Proofs.YtocbofeanfdggaaDoor
