/- Texts of ours, joined: Name3, Cref1, Ref3, Ref4. -/
import Derived.Test.YtgenpgfhjhcahaaGreatDoorRows
import Derived.WalkKit
import Derived.ProofKit
import Derived.OpenShut
import Derived.ShutString
import Derived.ChangeOld
import Derived.Below
import Derived.BigQuiet
import Derived.Deep.QuietTactic
import Derived.Lib.Hide
import Derived.Deep.RegionHeld3
import Derived.Lib.SlBytesConst
import Derived.Laws.CopyOwn
import Derived.Laws.CopyRow
import Derived.Lib.Bytes
import Derived.Deep.LoopGhost
import Derived.Deep.DeepFit
import Derived.Deep.DeepMust
import Derived.WalkSpells
import Derived.WalkLawsBesides
import Derived.Laws.EntriesVeiled
import Derived.Laws.Rows
import Derived.Test.YtgenpgfhjhcahaaGreatDoorQ1
import Derived.Test.YtgenpgfhjhcahaaGreatDoorQ2
import Derived.Test.YtgenpgfhjhcahaaGreatDoorQ3
import Derived.Test.YtgenpgfhjhcahaaGreatDoorQ4
/- Names: read. -/
namespace Go.Proofs.YtgenpgfhjhcahaaGreatDoor
open Go.ChangeShapes Go.WideShapes Go.ChangeAt Go.RowKit
set_option linter.unusedVariables false
/-- What is read of a plain name at a place: the name, the place behind it, the fault. -/
def plainOut (l : List UInt8) (at_ : Nat) : List UInt8 × Nat × Nat :=
  let k := endL (noColon isStart) (noColon isMore) l.length (l.drop at_)
  if k = 0 then ([], 0, 7) else if 1024 < k then ([], 0, 11) else ((l.drop at_).take k, at_ + k, 0)
def outV (o : List UInt8 × Nat × Nat) : Value := .tuple #[.string ⟨o.1.toArray⟩, .int .i64 (o.2.1 : Int), .int .i64 (o.2.2 : Int)]
set_option maxRecDepth 100000 in
set_option maxHeartbeats 2000000 in
theorem readN_c (a b : Nat) (A : Option Addr) (n cap : Nat) (l : List UInt8) (at_ : Nat) (w : World) (h : Byt w w.heap.size A n cap l) (hF : Forms w) (hm : n ≤ 100000) (hat : at_ ≤ n)
    (hf : Says 217 #[.pointer (some ⟨a, 0, none⟩)] w.heap.size w (noColon isStart)) (hg : Says 217 #[.pointer (some ⟨b, 0, none⟩)] w.heap.size w (noColon isMore)) :
    Calls Tryz.prog 104 #[plainsV a b, .slice A n cap, .int .i64 at_] w fun e w' => e = .returned (outV (plainOut l at_)) ∧ Below w.heap.size w w' := by
  have hb : Below w.heap.size w (w.alloc (.cells #[.func (.func 217) #[] #[.pointer (some ⟨a, 0, none⟩)], .func (.func 217) #[] #[.pointer (some ⟨b, 0, none⟩)]] 210)) := Below.alloc (Below.refl w.heap.size w) (Nat.le_refl _) _
  have hln := h.length
  have hend := end_c (noColon isStart) (noColon isMore) a b A n cap l at_ _ ((h.below hb).more hb.size) (hF.below hb hF.lt) hm hat ((hf.below hb).more hb.size) ((hg.below hb).more hb.size)
  have hkl : at_ + endL (noColon isStart) (noColon isMore) n (l.drop at_) ≤ n := by
    have := endL_le n (noColon isStart) (noColon isMore) (l.drop at_)
    rw [List.length_drop, hln] at this
    omega
  have HB := Lib.hid (And.intro h hb)
  have f0 := hp_new w (.cells #[.func (.func 217) #[] #[.pointer (some ⟨a, 0, none⟩)], .func (.func 217) #[] #[.pointer (some ⟨b, 0, none⟩)]] 210)
  have hi : (Tryz.prog.info? 210).map (·.size) = some 2 := by kernel_rfl
  obtain ⟨d, hu⟩ := isStruct_of (P := Tryz.prog) (t := 210) (by kernel_rfl)
  have hld := run_loadVar_row _ _ _ _ _ _ _ f0 hu rfl hi
  have HE : Hid (endL (noColon isStart) (noColon isMore) l.length (l.drop at_) = endL (noColon isStart) (noColon isMore) n (l.drop at_)) := Lib.hid (by rw [hln])
  clear h hF hf hg hb f0 hu hi hln
  unfold plainsV at *
  unfold plainOut
  simp only [HE.out]
  generalize endL (noColon isStart) (noColon isMore) n (l.drop at_) = k at *
  have hat' : ¬ (n : Int) < (at_ : Int) := by omega
  have HM := Lib.hid (And.intro hm hat)
  have HN := Lib.hid hend
  clear hm hend
  generalize hres : (if k = 0 then ([], 0, 7) else if 1024 < k then ([], 0, 11) else ((l.drop at_).take k, at_ + k, 0)) = res
  have HR := Lib.hid hres
  clear hres
  go_enter Tryz.func104, Tryz.ntmps104
  go_wp2_with fail
  refine HN.out.mono ?_
  rintro e w1 ⟨rfl, hb1⟩
  have HB1 := Lib.hid ((HB.out.2).trans (hb1.mono HB.out.2.size))
  clear hb1 hld
  rcases (show k = 0 ∨ 1024 < k ∨ (0 < k ∧ k ≤ 1024) by omega) with h0 | h0 | h0
  · subst h0
    have hre := HR.out
    simp only [if_true] at hre
    subst hre
    have hn := Int.natCast_nonneg at_
    go_wp2
    go_ret3
    exact ⟨rfl, HB1.out⟩
  · have hre := HR.out
    rw [if_neg (by omega), if_pos h0] at hre
    subst hre
    have hne : (((at_ + k : Nat) : Int) == (at_ : Int)) = false := by simp; omega
    have hne2 : ((at_ : Int) + (k : Int) == (at_ : Int)) = false := by simp; omega
    have h0' : (1024 : Int) < (k : Int) := by omega
    have hsb : ((at_ : Int) + (k : Int)) - (at_ : Int) = (k : Int) := by omega
    have hw : IntKind.i64.wrap (k : Int) = (k : Int) := by rw [IntKind.wrap_i64]; have := HM.out; omega
    go_wp2
    go_ret3
    exact ⟨rfl, HB1.out⟩
  · have hre := HR.out
    rw [if_neg (by omega), if_neg (by omega)] at hre
    subst hre
    have hne : (((at_ + k : Nat) : Int) == (at_ : Int)) = false := by simp; omega
    have hne2 : ((at_ : Int) + (k : Int) == (at_ : Int)) = false := by simp; omega
    have h0' : ¬ (1024 : Int) < (k : Int) := by omega
    have hsb : ((at_ : Int) + (k : Int)) - (at_ : Int) = (k : Int) := by omega
    have hw : IntKind.i64.wrap (k : Int) = (k : Int) := by rw [IntKind.wrap_i64]; have := HM.out; omega
    have hy := ((HB.out.1.below HB1.out).drop hat).take (k := k) (by omega)
    have hstr := hy.str
    have hcap := HB.out.1.le
    have hrf : ∀ w2 : World, (Instr.slice 22 (.slice A n cap) (some (.int .i64 (at_ : Int))) (some (.int .i64 ((at_ : Int) + (k : Int)))) none).run Tryz.prog w2 = .ok (.slice (cutA A cap at_) k (cap - at_)) w2 := fun w2 => by
      have := run_fromTo (w := w2) A n cap at_ (at_ + k) (by omega) (by omega)
      rw [show at_ + k - at_ = k by omega, show ((at_ + k : Nat) : Int) = (at_ : Int) + (k : Int) by omega] at this
      exact this
    have HY := Lib.hid hy
    clear hy hcap h0
    go_wp2
    go_ret3
    exact ⟨rfl, HB1.out⟩
set_option maxHeartbeats 2000000 in
theorem plain_c (A : Option Addr) (n cap : Nat) (l : List UInt8) (at_ : Nat) (w : World) (h : Byt w w.heap.size A n cap l) (hF : Forms w) (hT : TabN w) (hm : n ≤ 100000) (hat : at_ ≤ n) :
    Calls Tryz.prog 80 #[.slice A n cap, .int .i64 at_] w fun e w' => e = .returned (outV (plainOut l at_)) ∧ Below w.heap.size w w' := by
  have hp := plains_c w hT (hT.low hF)
  have HH := Lib.hid (And.intro h (And.intro hF (And.intro hm hat)))
  clear h hF hT hm hat
  go_enter Tryz.func80, Tryz.ntmps80
  go_wp2_with fail
  refine hp.mono ?_
  rintro e w1 ⟨a, b, rfl, hb, hf, hg⟩
  have hr := readN_c a b A n cap l at_ w1 ((HH.out.1.below hb).more hb.size) (HH.out.2.1.below hb HH.out.2.1.lt) HH.out.2.2.1 HH.out.2.2.2 hf hg
  have HB := Lib.hid hb
  clear hf hg hb hp
  unfold outV at *
  go_wp2_with fail
  refine hr.mono ?_
  rintro e w2 ⟨rfl, hb2⟩
  have HB2 := Lib.hid (HB.out.trans (hb2.mono HB.out.size))
  clear hr hb2
  go_wp2
  go_ret3
  exact ⟨rfl, HB2.out⟩
end Go.Proofs.YtgenpgfhjhcahaaGreatDoor
/- References: by a mark. -/
namespace Go.Proofs.YtgenpgfhjhcahaaGreatDoor
open Go.ChangeShapes Go.WideShapes Go.ChangeAt Go.RowKit
set_option linter.unusedVariables false
theorem plainOut_le (l : List UInt8) (k : Nat) (hk : k ≤ l.length) (h : (plainOut l k).2.2 = 0) : k ≤ (plainOut l k).2.1 ∧ (plainOut l k).2.1 ≤ l.length := by
  have := endL_le l.length (noColon isStart) (noColon isMore) (l.drop k)
  rw [List.length_drop] at this
  unfold plainOut at *
  simp only at *
  split at h
  · simp at h
  · rename_i h0
    split at h
    · simp at h
    · rename_i h1
      rw [if_neg h0, if_neg h1]
      simp only
      omega
end Go.Proofs.YtgenpgfhjhcahaaGreatDoor
/- The document's character at a place: its parts. -/
namespace Go.Proofs.YtgenpgfhjhcahaaGreatDoor
open Go.ChangeShapes Go.WideShapes Go.ChangeAt Go.RowKit
set_option linter.unusedVariables false
/-- What a byte behind a first one says; below 0: it is none. -/
def restOf (l : List UInt8) (k : Nat) : Int := match l[k]? with
  | some c => if 128 ≤ c.toNat ∧ c.toNat < 192 then (c.toNat : Int) - 128 else -1
  | none => -1
set_option maxRecDepth 100000 in
theorem rest_c (A : Option Addr) (n cap : Nat) (l : List UInt8) (k : Nat) (w : World) (B : Nat) (h : Byt w B A n cap l) :
    Calls Tryz.prog 130 #[.slice A n cap, .int .i64 k] w fun e w' => e = .returned (.int .i64 (restOf l k)) ∧ w = w' := by
  by_cases hk : k < n
  · obtain ⟨b, o, c, rfl, hb, hc, hcell⟩ := h.cell hk
    have hkn : (k : Int) < (n : Int) := by omega
    have hkd : decide ((n : Int) ≤ (k : Int)) = false := by simp; omega
    have hcl := c.toNat_lt
    unfold restOf
    rw [hc]
    simp only
    clear hc h hk
    generalize c.toNat = x at *
    rcases (show x < 128 ∨ (128 ≤ x ∧ x < 192) ∨ 191 < x by omega) with h1 | h1 | h1
    · rw [if_neg (by omega)]
      have a1 : decide ((x : Int) < 128) = true := by simp; omega
      go_enter Tryz.func130, Tryz.ntmps130
      go_wp2
      go_ret
      exact ⟨rfl, rfl⟩
    · rw [if_pos h1]
      have a1 : decide ((x : Int) < 128) = false := by simp; omega
      have a2 : decide (191 < (x : Int)) = false := by simp; omega
      go_enter Tryz.func130, Tryz.ntmps130
      go_wp2
      go_ret
      exact ⟨rfl, rfl⟩
    · rw [if_neg (by omega)]
      have a1 : decide ((x : Int) < 128) = false := by simp; omega
      have a2 : decide (191 < (x : Int)) = true := by simp; omega
      go_enter Tryz.func130, Tryz.ntmps130
      go_wp2
      go_ret
      exact ⟨rfl, rfl⟩
  · have hr : restOf l k = -1 := by unfold restOf; rw [List.getElem?_eq_none (by rw [h.length]; omega)]
    have hkd : decide ((n : Int) ≤ (k : Int)) = true := by simp; omega
    have hkd2 : decide (n ≤ k) = true := by simp; omega
    have hkd3 : n ≤ k := by omega
    rw [hr]
    clear h hk hr
    go_enter Tryz.func130, Tryz.ntmps130
    go_wp2
    go_ret
    exact ⟨rfl, rfl⟩
theorem isR_iff (r : Int) : isR r = true ↔ ((0 ≤ r ∧ r ≤ 55295) ∨ (57344 ≤ r ∧ r ≤ 1114111)) := by
  simp [isR]; omega
set_option maxRecDepth 100000 in
set_option maxHeartbeats 4000000 in
theorem ref02Is_c (r : Int) (w : World) : Calls Tryz.prog 131 #[.int .i64 r] w fun e w' => e = .returned (.bool (isR r)) ∧ w = w' := by
  rcases (show r ≤ -1 ∨ (0 ≤ r ∧ r ≤ 55295) ∨ (55296 ≤ r ∧ r ≤ 57343) ∨ (57344 ≤ r ∧ r ≤ 1114111) ∨ 1114112 ≤ r by omega) with h | h | h | h | h
  · have e : isR r = false := by
      rw [Bool.eq_false_iff, Ne, isR_iff]; omega
    rw [e]
    have a0 : decide (0 ≤ r) = false := by first | (simp; omega) | (simp [h]; done)
    have a1 : decide (r ≤ 1114111) = true := by first | (simp; omega) | (simp [h]; done)
    have a2 : decide (55296 ≤ r) = false := by first | (simp; omega) | (simp [h]; done)
    have a3 : decide (r ≤ 57343) = true := by first | (simp; omega) | (simp [h]; done)
    clear e h
    go_enter Tryz.func131, Tryz.ntmps131
    go_wp2
    go_ret
    exact ⟨rfl, rfl⟩
  · have e : isR r = true := by
      rw [isR_iff]; omega
    rw [e]
    have a0 : decide (0 ≤ r) = true := by first | (simp; omega) | (simp [h]; done)
    have a1 : decide (r ≤ 1114111) = true := by first | (simp; omega) | (simp [h]; done)
    have a2 : decide (55296 ≤ r) = false := by first | (simp; omega) | (simp [h]; done)
    have a3 : decide (r ≤ 57343) = true := by first | (simp; omega) | (simp [h]; done)
    clear e h
    go_enter Tryz.func131, Tryz.ntmps131
    go_wp2
    go_ret
    exact ⟨rfl, rfl⟩
  · have e : isR r = false := by
      rw [Bool.eq_false_iff, Ne, isR_iff]; omega
    rw [e]
    have a0 : decide (0 ≤ r) = true := by first | (simp; omega) | (simp [h]; done)
    have a1 : decide (r ≤ 1114111) = true := by first | (simp; omega) | (simp [h]; done)
    have a2 : decide (55296 ≤ r) = true := by first | (simp; omega) | (simp [h]; done)
    have a3 : decide (r ≤ 57343) = true := by first | (simp; omega) | (simp [h]; done)
    clear e h
    go_enter Tryz.func131, Tryz.ntmps131
    go_wp2
    go_ret
    exact ⟨rfl, rfl⟩
  · have e : isR r = true := by
      rw [isR_iff]; omega
    rw [e]
    have a0 : decide (0 ≤ r) = true := by first | (simp; omega) | (simp [h]; done)
    have a1 : decide (r ≤ 1114111) = true := by first | (simp; omega) | (simp [h]; done)
    have a2 : decide (55296 ≤ r) = true := by first | (simp; omega) | (simp [h]; done)
    have a3 : decide (r ≤ 57343) = false := by first | (simp; omega) | (simp [h]; done)
    clear e h
    go_enter Tryz.func131, Tryz.ntmps131
    go_wp2
    go_ret
    exact ⟨rfl, rfl⟩
  · have e : isR r = false := by
      rw [Bool.eq_false_iff, Ne, isR_iff]; omega
    rw [e]
    have a0 : decide (0 ≤ r) = true := by first | (simp; omega) | (simp [h]; done)
    have a1 : decide (r ≤ 1114111) = false := by first | (simp; omega) | (simp [h]; done)
    have a2 : decide (55296 ≤ r) = true := by first | (simp; omega) | (simp [h]; done)
    have a3 : decide (r ≤ 57343) = false := by first | (simp; omega) | (simp [h]; done)
    clear e h
    go_enter Tryz.func131, Tryz.ntmps131
    go_wp2
    go_ret
    exact ⟨rfl, rfl⟩
/-- How many bytes a number has. -/
def bytesN (r : Int) : Nat := if r < 128 then 1 else if r < 2048 then 2 else if r < 65536 then 3 else 4
set_option maxRecDepth 100000 in
set_option maxHeartbeats 4000000 in
theorem bytes_c (r : Int) (w : World) (h0 : 0 ≤ r) (h1 : r ≤ 1114111) : Calls Tryz.prog 132 #[.int .i64 r] w fun e w' => (∃ a, e = .returned (.slice (some a) (bytesN r) (bytesN r))) ∧ Below w.heap.size w w' := by
  have hal : ∀ o : Obj, Hid (Below w.heap.size w (w.alloc o)) := fun o => Lib.hid (Below.alloc (Below.refl _ _) (Nat.le_refl _) o)
  rcases (show r ≤ 127 ∨ (128 ≤ r ∧ r ≤ 2047) ∨ (2048 ≤ r ∧ r ≤ 65535) ∨ 65536 ≤ r by omega) with h | h | h | h
  · have e : bytesN r = 1 := by unfold bytesN; rw [if_pos (by omega)]
    have a1 : decide (r < 128) = true := by simp; omega
    rw [e]
    go_enter Tryz.func132, Tryz.ntmps132
    go_wp2
    go_ret
    exact ⟨⟨_, rfl⟩, (hal _).out⟩
  · have e : bytesN r = 2 := by unfold bytesN; rw [if_neg (by omega), if_pos (by omega)]
    have a1 : decide (r < 128) = false := by simp; omega
    have a2 : decide (r < 2048) = true := by simp; omega
    rw [e]
    go_enter Tryz.func132, Tryz.ntmps132
    go_wp2
    go_ret
    exact ⟨⟨_, rfl⟩, (hal _).out⟩
  · have e : bytesN r = 3 := by unfold bytesN; rw [if_neg (by omega), if_neg (by omega), if_pos (by omega)]
    have a1 : decide (r < 128) = false := by simp; omega
    have a2 : decide (r < 2048) = false := by simp; omega
    have a3 : decide (r < 65536) = true := by simp; omega
    rw [e]
    go_enter Tryz.func132, Tryz.ntmps132
    go_wp2
    go_ret
    exact ⟨⟨_, rfl⟩, (hal _).out⟩
  · have e : bytesN r = 4 := by unfold bytesN; rw [if_neg (by omega), if_neg (by omega), if_neg (by omega)]
    have a1 : decide (r < 128) = false := by simp; omega
    have a2 : decide (r < 2048) = false := by simp; omega
    have a3 : decide (r < 65536) = false := by simp; omega
    rw [e]
    go_enter Tryz.func132, Tryz.ntmps132
    go_wp2
    go_ret
    exact ⟨⟨_, rfl⟩, (hal _).out⟩
end Go.Proofs.YtgenpgfhjhcahaaGreatDoor
/- The document's character at a place: the plain law. -/
namespace Go.Proofs.YtgenpgfhjhcahaaGreatDoor
open Go.ChangeShapes Go.WideShapes Go.ChangeAt Go.RowKit
set_option linter.unusedVariables false
theorem restOf_some (l : List UInt8) (k : Nat) (h : 0 ≤ restOf l k) : ∃ d, l[k]? = some d ∧ 128 ≤ d.toNat ∧ d.toNat < 192 ∧ restOf l k = (d.toNat : Int) - 128 := by
  unfold restOf at *
  split at h
  · rename_i c hc
    split at h
    · rename_i hh
      exact ⟨c, hc, hh.1, hh.2, by rw [if_pos hh]⟩
    · omega
  · omega
theorem restOf_lt (l : List UInt8) (k : Nat) : restOf l k < 64 ∧ -1 ≤ restOf l k := by
  unfold restOf
  split
  · split <;> omega
  · omega
/-- What the bytes behind a place say, one by one. -/
theorem cont_step (l : List UInt8) (k : Nat) (N m : Nat) : cont m ((l.drop k).take (N + 1)) = if 0 ≤ restOf l k then cont (m * 64 + (restOf l k).toNat) ((l.drop (k + 1)).take N) else (if k < l.length then none else some m) := by
  by_cases hk : k < l.length
  · rw [List.drop_eq_getElem_cons hk, List.take_succ_cons]
    simp only [cont]
    have hr : restOf l k = if 128 ≤ l[k].toNat ∧ l[k].toNat < 192 then (l[k].toNat : Int) - 128 else -1 := by
      unfold restOf; rw [List.getElem?_eq_getElem hk]
    by_cases hc : 128 ≤ l[k].toNat ∧ l[k].toNat < 192
    · rw [if_pos hc] at hr ⊢
      have e : ((l[k].toNat : Int) - 128).toNat = l[k].toNat - 128 := by omega
      rw [if_pos (by omega), hr, e]
    · rw [if_neg hc] at hr ⊢
      rw [if_neg (by omega), if_pos hk]
  · have hr : restOf l k = -1 := by unfold restOf; rw [List.getElem?_eq_none (by omega)]
    rw [List.drop_of_length_le (by omega), hr]
    simp [cont, hk]
theorem cont_take0 (l : List UInt8) (k m : Nat) : cont m ((l.drop k).take 0) = some m := rfl
theorem rest_in (l : List UInt8) (k : Nat) (h : 0 ≤ restOf l k) : k < l.length := by
  obtain ⟨d, hd, _⟩ := restOf_some l k h
  rcases Nat.lt_or_ge k l.length with h | h
  · exact h
  · rw [List.getElem?_eq_none h] at hd; cases hd
def mk (least N r : Nat) : Option (Nat × Nat) := if least ≤ r ∧ isR r = true then some (r, N) else none
theorem dec_1 (l : List UInt8) (k : Nat) (c : UInt8) (hc : l[k]? = some c) (h : c.toNat < 128) : dec (l.drop k) = some (c.toNat, 1) := by
  have hk : k < l.length := by
    rcases Nat.lt_or_ge k l.length with h | h
    · exact h
    · rw [List.getElem?_eq_none h] at hc; cases hc
  rw [dec_at l k c hc 1 (by simp [lenB, h]) (by decide) (by omega)]
  have : msk 1 c.toNat = c.toNat := by simp [msk]; omega
  rw [this]
  simp only [Nat.sub_self, List.take_zero, cont]
  rw [if_pos ⟨Nat.zero_le _, by simp [isR]; omega⟩]
theorem dec_0 (l : List UInt8) (k : Nat) (c : UInt8) (hc : l[k]? = some c) (h : (128 ≤ c.toNat ∧ c.toNat < 192) ∨ 248 ≤ c.toNat) : dec (l.drop k) = none := by
  refine dec_none l k c hc (.inl ?_)
  unfold lenB
  rcases h with h | h
  · rw [if_neg (by omega), if_pos (by omega)]
  · rw [if_neg (by omega), if_neg (by omega), if_neg (by omega), if_neg (by omega), if_neg (by omega)]
theorem dec_2 (l : List UInt8) (k : Nat) (c : UInt8) (hc : l[k]? = some c) (h : 192 ≤ c.toNat ∧ c.toNat < 224) :
    dec (l.drop k) = if 0 ≤ restOf l (k + 1) then mk 128 2 ((c.toNat - 192) * 64 + (restOf l (k + 1)).toNat) else none := by
  have hL : lenB c.toNat = 2 := by unfold lenB; rw [if_neg (by omega), if_neg (by omega), if_pos (by omega)]
  have hm : msk 2 c.toNat = c.toNat - 192 := by simp only [msk]; simp; omega
  by_cases h1 : 0 ≤ restOf l (k + 1)
  · have := rest_in _ _ h1
    rw [dec_at l k c hc 2 hL (by decide) (by omega), hm, cont_step, if_pos h1, if_pos h1, cont_take0]
    rfl
  · rw [if_neg h1]
    by_cases hs : k + 2 ≤ l.length
    · rw [dec_at l k c hc 2 hL (by decide) hs, hm, cont_step, if_neg h1, if_pos (by omega)]
    · exact dec_none l k c hc (.inr (by omega))
theorem dec_3 (l : List UInt8) (k : Nat) (c : UInt8) (hc : l[k]? = some c) (h : 224 ≤ c.toNat ∧ c.toNat < 240) :
    dec (l.drop k) = if 0 ≤ restOf l (k + 1) ∧ 0 ≤ restOf l (k + 2) then mk 2048 3 (((c.toNat - 224) * 64 + (restOf l (k + 1)).toNat) * 64 + (restOf l (k + 2)).toNat) else none := by
  have hL : lenB c.toNat = 3 := by unfold lenB; rw [if_neg (by omega), if_neg (by omega), if_neg (by omega), if_pos (by omega)]
  have hm : msk 3 c.toNat = c.toNat - 224 := by simp only [msk]; simp; omega
  by_cases hs : k + 3 ≤ l.length
  · rw [dec_at l k c hc 3 hL (by decide) hs, hm, cont_step]
    by_cases h1 : 0 ≤ restOf l (k + 1)
    · rw [if_pos h1, cont_step]
      by_cases h2 : 0 ≤ restOf l (k + 2)
      · rw [if_pos h2, if_pos ⟨h1, h2⟩, cont_take0]
        rfl
      · rw [if_neg h2, if_pos (by omega : k + 1 + 1 < l.length), if_neg (fun h => h2 h.2)]
    · rw [if_neg h1, if_pos (by omega : k + 1 < l.length), if_neg (fun h => h1 h.1)]
  · rw [dec_none l k c hc (.inr (by omega)), if_neg (fun h => by have := rest_in _ _ h.2; omega)]
theorem dec_4 (l : List UInt8) (k : Nat) (c : UInt8) (hc : l[k]? = some c) (h : 240 ≤ c.toNat ∧ c.toNat < 248) :
    dec (l.drop k) = if 0 ≤ restOf l (k + 1) ∧ 0 ≤ restOf l (k + 2) ∧ 0 ≤ restOf l (k + 3) then mk 65536 4 ((((c.toNat - 240) * 64 + (restOf l (k + 1)).toNat) * 64 + (restOf l (k + 2)).toNat) * 64 + (restOf l (k + 3)).toNat) else none := by
  have hL : lenB c.toNat = 4 := by unfold lenB; rw [if_neg (by omega), if_neg (by omega), if_neg (by omega), if_neg (by omega), if_pos (by omega)]
  have hm : msk 4 c.toNat = c.toNat - 240 := by simp only [msk]; simp; omega
  by_cases hs : k + 4 ≤ l.length
  · rw [dec_at l k c hc 4 hL (by decide) hs, hm, cont_step]
    by_cases h1 : 0 ≤ restOf l (k + 1)
    · rw [if_pos h1, cont_step]
      by_cases h2 : 0 ≤ restOf l (k + 2)
      · rw [if_pos h2, cont_step]
        by_cases h3 : 0 ≤ restOf l (k + 3)
        · rw [if_pos h3, if_pos ⟨h1, h2, h3⟩, cont_take0]
          rfl
        · rw [if_neg h3, if_pos (by omega : k + 1 + 1 + 1 < l.length), if_neg (fun h => h3 h.2.2)]
      · rw [if_neg h2, if_pos (by omega : k + 1 + 1 < l.length), if_neg (fun h => h2 h.2.1)]
    · rw [if_neg h1, if_pos (by omega : k + 1 < l.length), if_neg (fun h => h1 h.1)]
  · rw [dec_none l k c hc (.inr (by omega)), if_neg (fun h => by have := rest_in _ _ h.2.2; omega)]
end Go.Proofs.YtgenpgfhjhcahaaGreatDoor
