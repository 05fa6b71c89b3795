/- Texts of ours, joined: Name3, Cref1, Ref1. -/
import Derived.Test.YtfemfgkcgboopaaGreatDoorRows
import Derived.WalkKit
import Derived.ProofKit
import Derived.OpenShut
import Derived.ShutString
import Derived.ChangeOld
import Derived.Below
import Derived.BigQuiet
import Derived.Deep.QuietTactic
import Derived.Lib.Hide
import Derived.Deep.RegionHeld3
import Derived.Lib.SlBytesConst
import Derived.Laws.CopyOwn
import Derived.Laws.CopyRow
import Derived.Lib.Bytes
import Derived.Deep.LoopGhost
import Derived.Deep.DeepFit
import Derived.Deep.DeepMust
import Derived.WalkSpells
import Derived.WalkLawsBesides
import Derived.Laws.EntriesVeiled
import Derived.Laws.Rows
import Derived.Test.YtfemfgkcgboopaaGreatDoorQ1
import Derived.Test.YtfemfgkcgboopaaGreatDoorQ2
import Derived.Test.YtfemfgkcgboopaaGreatDoorQ3
/- Names: read. -/
namespace Go.Proofs.YtfemfgkcgboopaaGreatDoor
open Go.ChangeShapes Go.WideShapes Go.ChangeAt Go.RowKit
set_option linter.unusedVariables false
/-- What is read of a plain name at a place: the name, the place behind it, the fault. -/
def plainOut (l : List UInt8) (at_ : Nat) : List UInt8 × Nat × Nat :=
  let k := endL (noColon isStart) (noColon isMore) l.length (l.drop at_)
  if k = 0 then ([], 0, 7) else if 1024 < k then ([], 0, 11) else ((l.drop at_).take k, at_ + k, 0)
def outV (o : List UInt8 × Nat × Nat) : Value := .tuple #[.string ⟨o.1.toArray⟩, .int .i64 (o.2.1 : Int), .int .i64 (o.2.2 : Int)]
set_option maxRecDepth 100000 in
set_option maxHeartbeats 2000000 in
theorem readN_c (a b : Nat) (A : Option Addr) (n cap : Nat) (l : List UInt8) (at_ : Nat) (w : World) (h : Byt w w.heap.size A n cap l) (hF : Forms w) (hm : n ≤ 100000) (hat : at_ ≤ n)
    (hf : Says 130 #[.pointer (some ⟨a, 0, none⟩)] w.heap.size w (noColon isStart)) (hg : Says 130 #[.pointer (some ⟨b, 0, none⟩)] w.heap.size w (noColon isMore)) :
    Calls Tryz.prog 116 #[plainsV a b, .slice A n cap, .int .i64 at_] w fun e w' => e = .returned (outV (plainOut l at_)) ∧ Below w.heap.size w w' := by
  have hb : Below w.heap.size w (w.alloc (.cells #[.func (.func 130) #[] #[.pointer (some ⟨a, 0, none⟩)], .func (.func 130) #[] #[.pointer (some ⟨b, 0, none⟩)]] 177)) := Below.alloc (Below.refl w.heap.size w) (Nat.le_refl _) _
  have hln := h.length
  have hend := end_c (noColon isStart) (noColon isMore) a b A n cap l at_ _ ((h.below hb).more hb.size) (hF.below hb hF.lt) hm hat ((hf.below hb).more hb.size) ((hg.below hb).more hb.size)
  have hkl : at_ + endL (noColon isStart) (noColon isMore) n (l.drop at_) ≤ n := by
    have := endL_le n (noColon isStart) (noColon isMore) (l.drop at_)
    rw [List.length_drop, hln] at this
    omega
  have HB := Lib.hid (And.intro h hb)
  have f0 := hp_new w (.cells #[.func (.func 130) #[] #[.pointer (some ⟨a, 0, none⟩)], .func (.func 130) #[] #[.pointer (some ⟨b, 0, none⟩)]] 177)
  have hi : (Tryz.prog.info? 177).map (·.size) = some 2 := by kernel_rfl
  obtain ⟨d, hu⟩ := isStruct_of (P := Tryz.prog) (t := 177) (by kernel_rfl)
  have hld := run_loadVar_row _ _ _ _ _ _ _ f0 hu rfl hi
  have HE : Hid (endL (noColon isStart) (noColon isMore) l.length (l.drop at_) = endL (noColon isStart) (noColon isMore) n (l.drop at_)) := Lib.hid (by rw [hln])
  clear h hF hf hg hb f0 hu hi hln
  unfold plainsV at *
  unfold plainOut
  simp only [HE.out]
  generalize endL (noColon isStart) (noColon isMore) n (l.drop at_) = k at *
  have hat' : ¬ (n : Int) < (at_ : Int) := by omega
  have HM := Lib.hid (And.intro hm hat)
  have HN := Lib.hid hend
  clear hm hend
  generalize hres : (if k = 0 then ([], 0, 7) else if 1024 < k then ([], 0, 11) else ((l.drop at_).take k, at_ + k, 0)) = res
  have HR := Lib.hid hres
  clear hres
  go_enter Tryz.func116, Tryz.ntmps116
  go_wp2_with fail
  refine HN.out.mono ?_
  rintro e w1 ⟨rfl, hb1⟩
  have HB1 := Lib.hid ((HB.out.2).trans (hb1.mono HB.out.2.size))
  clear hb1 hld
  rcases (show k = 0 ∨ 1024 < k ∨ (0 < k ∧ k ≤ 1024) by omega) with h0 | h0 | h0
  · subst h0
    have hre := HR.out
    simp only [if_true] at hre
    subst hre
    have hn := Int.natCast_nonneg at_
    go_wp2
    go_ret3
    exact ⟨rfl, HB1.out⟩
  · have hre := HR.out
    rw [if_neg (by omega), if_pos h0] at hre
    subst hre
    have hne : (((at_ + k : Nat) : Int) == (at_ : Int)) = false := by simp; omega
    have hne2 : ((at_ : Int) + (k : Int) == (at_ : Int)) = false := by simp; omega
    have h0' : (1024 : Int) < (k : Int) := by omega
    have hsb : ((at_ : Int) + (k : Int)) - (at_ : Int) = (k : Int) := by omega
    have hw : IntKind.i64.wrap (k : Int) = (k : Int) := by rw [IntKind.wrap_i64]; have := HM.out; omega
    go_wp2
    go_ret3
    exact ⟨rfl, HB1.out⟩
  · have hre := HR.out
    rw [if_neg (by omega), if_neg (by omega)] at hre
    subst hre
    have hne : (((at_ + k : Nat) : Int) == (at_ : Int)) = false := by simp; omega
    have hne2 : ((at_ : Int) + (k : Int) == (at_ : Int)) = false := by simp; omega
    have h0' : ¬ (1024 : Int) < (k : Int) := by omega
    have hsb : ((at_ : Int) + (k : Int)) - (at_ : Int) = (k : Int) := by omega
    have hw : IntKind.i64.wrap (k : Int) = (k : Int) := by rw [IntKind.wrap_i64]; have := HM.out; omega
    have hy := ((HB.out.1.below HB1.out).drop hat).take (k := k) (by omega)
    have hstr := hy.str
    have hcap := HB.out.1.le
    have hrf : ∀ w2 : World, (Instr.slice 65 (.slice A n cap) (some (.int .i64 (at_ : Int))) (some (.int .i64 ((at_ : Int) + (k : Int)))) none).run Tryz.prog w2 = .ok (.slice (cutA A cap at_) k (cap - at_)) w2 := fun w2 => by
      have := run_fromTo (w := w2) A n cap at_ (at_ + k) (by omega) (by omega)
      rw [show at_ + k - at_ = k by omega, show ((at_ + k : Nat) : Int) = (at_ : Int) + (k : Int) by omega] at this
      exact this
    have HY := Lib.hid hy
    clear hy hcap h0
    go_wp2
    go_ret3
    exact ⟨rfl, HB1.out⟩
set_option maxHeartbeats 2000000 in
theorem plain_c (A : Option Addr) (n cap : Nat) (l : List UInt8) (at_ : Nat) (w : World) (h : Byt w w.heap.size A n cap l) (hF : Forms w) (hT : TabN w) (hm : n ≤ 100000) (hat : at_ ≤ n) :
    Calls Tryz.prog 103 #[.slice A n cap, .int .i64 at_] w fun e w' => e = .returned (outV (plainOut l at_)) ∧ Below w.heap.size w w' := by
  have hp := plains_c w hT (hT.low hF)
  have HH := Lib.hid (And.intro h (And.intro hF (And.intro hm hat)))
  clear h hF hT hm hat
  go_enter Tryz.func103, Tryz.ntmps103
  go_wp2_with fail
  refine hp.mono ?_
  rintro e w1 ⟨a, b, rfl, hb, hf, hg⟩
  have hr := readN_c a b A n cap l at_ w1 ((HH.out.1.below hb).more hb.size) (HH.out.2.1.below hb HH.out.2.1.lt) HH.out.2.2.1 HH.out.2.2.2 hf hg
  have HB := Lib.hid hb
  clear hf hg hb hp
  unfold outV at *
  go_wp2_with fail
  refine hr.mono ?_
  rintro e w2 ⟨rfl, hb2⟩
  have HB2 := Lib.hid (HB.out.trans (hb2.mono HB.out.size))
  clear hr hb2
  go_wp2
  go_ret3
  exact ⟨rfl, HB2.out⟩
end Go.Proofs.YtfemfgkcgboopaaGreatDoor
/- References: by a mark. -/
namespace Go.Proofs.YtfemfgkcgboopaaGreatDoor
open Go.ChangeShapes Go.WideShapes Go.ChangeAt Go.RowKit
set_option linter.unusedVariables false
/-- What is read of a reference by its mark: the name, the place behind it, the fault. -/
def refOut (mark : UInt8) (l : List UInt8) (at_ : Nat) : List UInt8 × Nat × Nat :=
  match l[at_]? with
  | none => ([], 0, 7)
  | some c => if c = mark then
      (if (plainOut l (at_ + 1)).2.2 ≠ 0 then ([], 0, (plainOut l (at_ + 1)).2.2)
       else match l[(plainOut l (at_ + 1)).2.1]? with
        | some d => if d = 59 then ((plainOut l (at_ + 1)).1, (plainOut l (at_ + 1)).2.1 + 1, 0) else ([], 0, 7)
        | none => ([], 0, 7))
    else ([], 0, 7)
theorem plainOut_le (l : List UInt8) (k : Nat) (hk : k ≤ l.length) (h : (plainOut l k).2.2 = 0) : k ≤ (plainOut l k).2.1 ∧ (plainOut l k).2.1 ≤ l.length := by
  have := endL_le l.length (noColon isStart) (noColon isMore) (l.drop k)
  rw [List.length_drop] at this
  unfold plainOut at *
  simp only at *
  split at h
  · simp at h
  · rename_i h0
    split at h
    · simp at h
    · rename_i h1
      rw [if_neg h0, if_neg h1]
      simp only
      omega
set_option maxRecDepth 100000 in
set_option maxHeartbeats 2000000 in
theorem crefRead_range (A : Option Addr) (n cap : Nat) (at_ : Int) (mark : Int) (w : World) (ha : at_ < 0 ∨ (n : Int) < at_) :
    Calls Tryz.prog 92 #[.slice A n cap, .int .i64 at_, .int .u8 mark] w fun e w' => e = .returned (outV ([], 0, 3)) ∧ Below w.heap.size w w' := by
  by_cases h0 : at_ < 0
  · have hd : decide (at_ < 0) = true := by simpa using h0
    clear ha
    go_enter Tryz.func92, Tryz.ntmps92
    go_wp2
    go_ret3
    exact ⟨rfl, Below.refl _ _⟩
  · have h1 : (n : Int) < at_ := by omega
    clear ha
    go_enter Tryz.func92, Tryz.ntmps92
    go_wp2
    go_ret3
    exact ⟨rfl, Below.refl _ _⟩
set_option maxRecDepth 100000 in
set_option maxHeartbeats 2000000 in
theorem crefRead_c (A : Option Addr) (n cap : Nat) (l : List UInt8) (at_ : Nat) (mark : UInt8) (w : World) (h : Byt w w.heap.size A n cap l) (hF : Forms w) (hT : Tabs w) (hm : n ≤ 50000) (hat : at_ ≤ n) :
    Calls Tryz.prog 92 #[.slice A n cap, .int .i64 at_, .int .u8 mark.toNat] w fun e w' => e = .returned (outV (refOut mark l at_)) ∧ Below w.heap.size w w' := by
  have hln := h.length
  have hat' : ¬ (n : Int) < (at_ : Int) := by omega
  have hap : IntKind.i64.wrap ((at_ : Int) + 1) = (at_ : Int) + 1 := by rw [IntKind.wrap_i64]; omega
  by_cases he : at_ = n
  · subst he
    have hr : refOut mark l at_ = ([], 0, 7) := by unfold refOut; rw [List.getElem?_eq_none (by omega)]
    rw [hr]
    clear h hF hT hm hr hat hat'
    go_enter Tryz.func92, Tryz.ntmps92
    go_wp2
    go_ret3
    exact ⟨rfl, Below.refl _ _⟩
  · have hlt : at_ < n := by omega
    obtain ⟨b, o, c, rfl, hb, hc, hcell⟩ := h.cell hlt
    have hne : ((at_ : Int) == (n : Int)) = false := by simp; omega
    have hli : (at_ : Int) < (n : Int) := by omega
    by_cases hcm : c = mark
    · subst hcm
      have hp := plain_c (some ⟨b, o, none⟩) n cap l (at_ + 1) w h hF hT.n (by omega) (by omega)
      rw [show ((at_ + 1 : Nat) : Int) = (at_ : Int) + 1 by omega] at hp
      have hle := plainOut_le l (at_ + 1) (by omega)
      have HR : Hid (refOut c l at_ = if (plainOut l (at_ + 1)).2.2 ≠ 0 then ([], 0, (plainOut l (at_ + 1)).2.2)
       else match l[(plainOut l (at_ + 1)).2.1]? with
        | some d => if d = 59 then ((plainOut l (at_ + 1)).1, (plainOut l (at_ + 1)).2.1 + 1, 0) else ([], 0, 7)
        | none => ([], 0, 7)) := Lib.hid (by unfold refOut; rw [hc]; simp)
      have HH := Lib.hid (And.intro h (And.intro hm hln))
      clear hF hT hm hat hat' he hc hb
      generalize plainOut l (at_ + 1) = res at *
      obtain ⟨s, k, f⟩ := res
      simp only at hle HR
      have HP := Lib.hid hp
      have hp' := hp
      unfold outV at hp' ⊢
      simp only at hp'
      clear hp
      have hcm : ((c.toNat : Int) != (c.toNat : Int)) = false := by simp
      by_cases hf : f = 0
      · subst hf
        have hle := hle rfl
        by_cases hk : k = n
        · subst hk
          have hre : refOut c l at_ = ([], 0, 7) := by rw [HR.out, if_neg (by simp), List.getElem?_eq_none (by rw [HH.out.2.2]; exact Nat.le_refl _)]
          rw [hre]
          clear hre h
          go_enter Tryz.func92, Tryz.ntmps92
          go_wp2_with fail
          refine hp'.mono ?_
          rintro e w1 ⟨rfl, hb1⟩
          have HB := Lib.hid hb1
          clear hb1 hcell hp'
          go_wp2
          go_ret3
          exact ⟨rfl, HB.out⟩
        · obtain ⟨b', o', d, e, hb', hd, hcd⟩ := h.cell (i := k) (by omega)
          cases e
          have hkn : (k : Int) < (n : Int) := by omega
          have hkne : ((k : Int) == (n : Int)) = false := by simp; omega
          have hre : refOut c l at_ = if d = 59 then (s, k + 1, 0) else ([], 0, 7) := by rw [HR.out, if_neg (by simp), hd]
          have hkp : IntKind.i64.wrap ((k : Int) + 1) = (k : Int) + 1 := by rw [IntKind.wrap_i64]; have := HH.out; omega
          by_cases hd59 : d = 59
          · subst hd59
            rw [hre, if_pos rfl]
            have hcd' : ∀ w1, Below w.heap.size w w1 → w1.cell? ⟨b, o + k, none⟩ = some (.int .u8 59) := fun w1 hb1 => by rw [hb1.cell hb']; exact hcd
            have HCD := Lib.hid hcd'
            clear hre h hcd hcd' hd
            go_enter Tryz.func92, Tryz.ntmps92
            go_wp2_with fail
            refine hp'.mono ?_
            rintro e w1 ⟨rfl, hb1⟩
            have hcz := HCD.out w1 hb1
            have HB := Lib.hid hb1
            clear hb1 hcell hp'
            go_wp2
            go_ret3
            exact ⟨rfl, HB.out⟩
          · rw [hre, if_neg hd59]
            have hcd' : ∀ w1, Below w.heap.size w w1 → w1.cell? ⟨b, o + k, none⟩ = some (.int .u8 d.toNat) := fun w1 hb1 => by rw [hb1.cell hb']; exact hcd
            have HCD := Lib.hid hcd'
            have hdn : ((d.toNat : Int) != 59) = true := by
              have := toNat_eq d 59
              simp only [show ((59 : UInt8).toNat : Int) = 59 from rfl] at this
              simp [bne, this, hd59]
            generalize d.toNat = dn at *
            clear hre h hcd hcd' hd
            go_enter Tryz.func92, Tryz.ntmps92
            go_wp2_with fail
            refine hp'.mono ?_
            rintro e w1 ⟨rfl, hb1⟩
            have hcz := HCD.out w1 hb1
            have HB := Lib.hid hb1
            clear hb1 hcell hp'
            go_wp2
            go_ret3
            exact ⟨rfl, HB.out⟩
      · have hre : refOut c l at_ = ([], 0, f) := by rw [HR.out, if_pos hf]
        rw [hre]
        have hfz : ((f : Int) != 0) = true := by simp; omega
        have hfz2 : ((f : Int) == 0) = false := by simp; omega
        clear hre h hle
        go_enter Tryz.func92, Tryz.ntmps92
        go_wp2_with fail
        refine hp'.mono ?_
        rintro e w1 ⟨rfl, hb1⟩
        have HB := Lib.hid hb1
        clear hb1 hcell hp'
        go_wp2
        go_ret3
        exact ⟨rfl, HB.out⟩
    · have hr : refOut mark l at_ = ([], 0, 7) := by unfold refOut; rw [hc]; simp [hcm]
      rw [hr]
      have hcm' : ((c.toNat : Int) != (mark.toNat : Int)) = true := by rw [bne, toNat_eq]; simp [hcm]
      generalize c.toNat = cn at *
      generalize mark.toNat = mn at *
      clear h hF hT hm hr hat hat'
      go_enter Tryz.func92, Tryz.ntmps92
      go_wp2
      go_ret3
      exact ⟨rfl, Below.refl _ _⟩
end Go.Proofs.YtfemfgkcgboopaaGreatDoor
/- The document's characters. -/
namespace Go.Proofs.YtfemfgkcgboopaaGreatDoor
open Go.ChangeShapes Go.WideShapes Go.ChangeAt Go.RowKit
set_option linter.unusedVariables false
theorem isDoc_iff (r : Int) : isDoc r = true ↔ ((9 ≤ r ∧ r ≤ 10) ∨ (13 ≤ r ∧ r ≤ 13) ∨ (32 ≤ r ∧ r ≤ 55295) ∨ (57344 ≤ r ∧ r ≤ 65533) ∨ (65536 ≤ r ∧ r ≤ 1114111)) := by
  simp [isDoc, inTab, tabDocs]
theorem isStart_iff (r : Int) : isStart r = true ↔ ((58 ≤ r ∧ r ≤ 58) ∨ (65 ≤ r ∧ r ≤ 90) ∨ (95 ≤ r ∧ r ≤ 95) ∨ (97 ≤ r ∧ r ≤ 122) ∨ (192 ≤ r ∧ r ≤ 214) ∨ (216 ≤ r ∧ r ≤ 246) ∨ (248 ≤ r ∧ r ≤ 767) ∨ (880 ≤ r ∧ r ≤ 893) ∨ (895 ≤ r ∧ r ≤ 8191) ∨ (8204 ≤ r ∧ r ≤ 8205) ∨ (8304 ≤ r ∧ r ≤ 8591) ∨ (11264 ≤ r ∧ r ≤ 12271) ∨ (12289 ≤ r ∧ r ≤ 55295) ∨ (63744 ≤ r ∧ r ≤ 64975) ∨ (65008 ≤ r ∧ r ≤ 65533) ∨ (65536 ≤ r ∧ r ≤ 983039)) := by
  simp [isStart, inTab, tabStarts]
def isMoreOnly (r : Int) : Bool := inTab tabMore r
theorem isMoreOnly_iff (r : Int) : isMoreOnly r = true ↔ ((45 ≤ r ∧ r ≤ 46) ∨ (48 ≤ r ∧ r ≤ 57) ∨ (183 ≤ r ∧ r ≤ 183) ∨ (768 ≤ r ∧ r ≤ 879) ∨ (8255 ≤ r ∧ r ≤ 8256)) := by
  simp [isMoreOnly, inTab, tabMore]
set_option maxRecDepth 100000 in
set_option maxHeartbeats 4000000 in
theorem refChar_c (r : Int) (w : World) : Calls Tryz.prog 81 #[.int .i64 r] w fun e w' => e = .returned (.bool (isDoc r)) ∧ w = w' := by
  rcases (show r ≤ 8 ∨ r = 9 ∨ r = 10 ∨ (11 ≤ r ∧ r ≤ 12) ∨ r = 13 ∨ (14 ≤ r ∧ r ≤ 31) ∨ (32 ≤ r ∧ r ≤ 55295) ∨ (55296 ≤ r ∧ r ≤ 57343) ∨ (57344 ≤ r ∧ r ≤ 65533) ∨ (65534 ≤ r ∧ r ≤ 65535) ∨ (65536 ≤ r ∧ r ≤ 1114111) ∨ 1114112 ≤ r by omega) with h | h | h | h | h | h | h | h | h | h | h | h
  · have e : isDoc r = false := by
      rw [Bool.eq_false_iff, Ne, isDoc_iff]; omega
    rw [e]
    have a0 : (r == 9) = false := by first | (simp; omega) | (simp [h]; done)
    have a1 : (r == 10) = false := by first | (simp; omega) | (simp [h]; done)
    have a2 : (r == 13) = false := by first | (simp; omega) | (simp [h]; done)
    have a3 : decide (32 ≤ r) = false := by first | (simp; omega) | (simp [h]; done)
    have a4 : decide (r ≤ 55295) = true := by first | (simp; omega) | (simp [h]; done)
    have a5 : decide (57344 ≤ r) = false := by first | (simp; omega) | (simp [h]; done)
    have a6 : decide (r ≤ 65533) = true := by first | (simp; omega) | (simp [h]; done)
    have a7 : decide (65536 ≤ r) = false := by first | (simp; omega) | (simp [h]; done)
    have a8 : decide (r ≤ 1114111) = true := by first | (simp; omega) | (simp [h]; done)
    clear e h
    go_enter Tryz.func81, Tryz.ntmps81
    go_wp2
    go_ret
    exact ⟨rfl, rfl⟩
  · have e : isDoc r = true := by
      rw [isDoc_iff]; omega
    rw [e]
    have a0 : (r == 9) = true := by first | (simp; omega) | (simp [h]; done)
    have a1 : (r == 10) = false := by first | (simp; omega) | (simp [h]; done)
    have a2 : (r == 13) = false := by first | (simp; omega) | (simp [h]; done)
    have a3 : decide (32 ≤ r) = false := by first | (simp; omega) | (simp [h]; done)
    have a4 : decide (r ≤ 55295) = true := by first | (simp; omega) | (simp [h]; done)
    have a5 : decide (57344 ≤ r) = false := by first | (simp; omega) | (simp [h]; done)
    have a6 : decide (r ≤ 65533) = true := by first | (simp; omega) | (simp [h]; done)
    have a7 : decide (65536 ≤ r) = false := by first | (simp; omega) | (simp [h]; done)
    have a8 : decide (r ≤ 1114111) = true := by first | (simp; omega) | (simp [h]; done)
    clear e h
    go_enter Tryz.func81, Tryz.ntmps81
    go_wp2
    go_ret
    exact ⟨rfl, rfl⟩
  · have e : isDoc r = true := by
      rw [isDoc_iff]; omega
    rw [e]
    have a0 : (r == 9) = false := by first | (simp; omega) | (simp [h]; done)
    have a1 : (r == 10) = true := by first | (simp; omega) | (simp [h]; done)
    have a2 : (r == 13) = false := by first | (simp; omega) | (simp [h]; done)
    have a3 : decide (32 ≤ r) = false := by first | (simp; omega) | (simp [h]; done)
    have a4 : decide (r ≤ 55295) = true := by first | (simp; omega) | (simp [h]; done)
    have a5 : decide (57344 ≤ r) = false := by first | (simp; omega) | (simp [h]; done)
    have a6 : decide (r ≤ 65533) = true := by first | (simp; omega) | (simp [h]; done)
    have a7 : decide (65536 ≤ r) = false := by first | (simp; omega) | (simp [h]; done)
    have a8 : decide (r ≤ 1114111) = true := by first | (simp; omega) | (simp [h]; done)
    clear e h
    go_enter Tryz.func81, Tryz.ntmps81
    go_wp2
    go_ret
    exact ⟨rfl, rfl⟩
  · have e : isDoc r = false := by
      rw [Bool.eq_false_iff, Ne, isDoc_iff]; omega
    rw [e]
    have a0 : (r == 9) = false := by first | (simp; omega) | (simp [h]; done)
    have a1 : (r == 10) = false := by first | (simp; omega) | (simp [h]; done)
    have a2 : (r == 13) = false := by first | (simp; omega) | (simp [h]; done)
    have a3 : decide (32 ≤ r) = false := by first | (simp; omega) | (simp [h]; done)
    have a4 : decide (r ≤ 55295) = true := by first | (simp; omega) | (simp [h]; done)
    have a5 : decide (57344 ≤ r) = false := by first | (simp; omega) | (simp [h]; done)
    have a6 : decide (r ≤ 65533) = true := by first | (simp; omega) | (simp [h]; done)
    have a7 : decide (65536 ≤ r) = false := by first | (simp; omega) | (simp [h]; done)
    have a8 : decide (r ≤ 1114111) = true := by first | (simp; omega) | (simp [h]; done)
    clear e h
    go_enter Tryz.func81, Tryz.ntmps81
    go_wp2
    go_ret
    exact ⟨rfl, rfl⟩
  · have e : isDoc r = true := by
      rw [isDoc_iff]; omega
    rw [e]
    have a0 : (r == 9) = false := by first | (simp; omega) | (simp [h]; done)
    have a1 : (r == 10) = false := by first | (simp; omega) | (simp [h]; done)
    have a2 : (r == 13) = true := by first | (simp; omega) | (simp [h]; done)
    have a3 : decide (32 ≤ r) = false := by first | (simp; omega) | (simp [h]; done)
    have a4 : decide (r ≤ 55295) = true := by first | (simp; omega) | (simp [h]; done)
    have a5 : decide (57344 ≤ r) = false := by first | (simp; omega) | (simp [h]; done)
    have a6 : decide (r ≤ 65533) = true := by first | (simp; omega) | (simp [h]; done)
    have a7 : decide (65536 ≤ r) = false := by first | (simp; omega) | (simp [h]; done)
    have a8 : decide (r ≤ 1114111) = true := by first | (simp; omega) | (simp [h]; done)
    clear e h
    go_enter Tryz.func81, Tryz.ntmps81
    go_wp2
    go_ret
    exact ⟨rfl, rfl⟩
  · have e : isDoc r = false := by
      rw [Bool.eq_false_iff, Ne, isDoc_iff]; omega
    rw [e]
    have a0 : (r == 9) = false := by first | (simp; omega) | (simp [h]; done)
    have a1 : (r == 10) = false := by first | (simp; omega) | (simp [h]; done)
    have a2 : (r == 13) = false := by first | (simp; omega) | (simp [h]; done)
    have a3 : decide (32 ≤ r) = false := by first | (simp; omega) | (simp [h]; done)
    have a4 : decide (r ≤ 55295) = true := by first | (simp; omega) | (simp [h]; done)
    have a5 : decide (57344 ≤ r) = false := by first | (simp; omega) | (simp [h]; done)
    have a6 : decide (r ≤ 65533) = true := by first | (simp; omega) | (simp [h]; done)
    have a7 : decide (65536 ≤ r) = false := by first | (simp; omega) | (simp [h]; done)
    have a8 : decide (r ≤ 1114111) = true := by first | (simp; omega) | (simp [h]; done)
    clear e h
    go_enter Tryz.func81, Tryz.ntmps81
    go_wp2
    go_ret
    exact ⟨rfl, rfl⟩
  · have e : isDoc r = true := by
      rw [isDoc_iff]; omega
    rw [e]
    have a0 : (r == 9) = false := by first | (simp; omega) | (simp [h]; done)
    have a1 : (r == 10) = false := by first | (simp; omega) | (simp [h]; done)
    have a2 : (r == 13) = false := by first | (simp; omega) | (simp [h]; done)
    have a3 : decide (32 ≤ r) = true := by first | (simp; omega) | (simp [h]; done)
    have a4 : decide (r ≤ 55295) = true := by first | (simp; omega) | (simp [h]; done)
    have a5 : decide (57344 ≤ r) = false := by first | (simp; omega) | (simp [h]; done)
    have a6 : decide (r ≤ 65533) = true := by first | (simp; omega) | (simp [h]; done)
    have a7 : decide (65536 ≤ r) = false := by first | (simp; omega) | (simp [h]; done)
    have a8 : decide (r ≤ 1114111) = true := by first | (simp; omega) | (simp [h]; done)
    clear e h
    go_enter Tryz.func81, Tryz.ntmps81
    go_wp2
    go_ret
    exact ⟨rfl, rfl⟩
  · have e : isDoc r = false := by
      rw [Bool.eq_false_iff, Ne, isDoc_iff]; omega
    rw [e]
    have a0 : (r == 9) = false := by first | (simp; omega) | (simp [h]; done)
    have a1 : (r == 10) = false := by first | (simp; omega) | (simp [h]; done)
    have a2 : (r == 13) = false := by first | (simp; omega) | (simp [h]; done)
    have a3 : decide (32 ≤ r) = true := by first | (simp; omega) | (simp [h]; done)
    have a4 : decide (r ≤ 55295) = false := by first | (simp; omega) | (simp [h]; done)
    have a5 : decide (57344 ≤ r) = false := by first | (simp; omega) | (simp [h]; done)
    have a6 : decide (r ≤ 65533) = true := by first | (simp; omega) | (simp [h]; done)
    have a7 : decide (65536 ≤ r) = false := by first | (simp; omega) | (simp [h]; done)
    have a8 : decide (r ≤ 1114111) = true := by first | (simp; omega) | (simp [h]; done)
    clear e h
    go_enter Tryz.func81, Tryz.ntmps81
    go_wp2
    go_ret
    exact ⟨rfl, rfl⟩
  · have e : isDoc r = true := by
      rw [isDoc_iff]; omega
    rw [e]
    have a0 : (r == 9) = false := by first | (simp; omega) | (simp [h]; done)
    have a1 : (r == 10) = false := by first | (simp; omega) | (simp [h]; done)
    have a2 : (r == 13) = false := by first | (simp; omega) | (simp [h]; done)
    have a3 : decide (32 ≤ r) = true := by first | (simp; omega) | (simp [h]; done)
    have a4 : decide (r ≤ 55295) = false := by first | (simp; omega) | (simp [h]; done)
    have a5 : decide (57344 ≤ r) = true := by first | (simp; omega) | (simp [h]; done)
    have a6 : decide (r ≤ 65533) = true := by first | (simp; omega) | (simp [h]; done)
    have a7 : decide (65536 ≤ r) = false := by first | (simp; omega) | (simp [h]; done)
    have a8 : decide (r ≤ 1114111) = true := by first | (simp; omega) | (simp [h]; done)
    clear e h
    go_enter Tryz.func81, Tryz.ntmps81
    go_wp2
    go_ret
    exact ⟨rfl, rfl⟩
  · have e : isDoc r = false := by
      rw [Bool.eq_false_iff, Ne, isDoc_iff]; omega
    rw [e]
    have a0 : (r == 9) = false := by first | (simp; omega) | (simp [h]; done)
    have a1 : (r == 10) = false := by first | (simp; omega) | (simp [h]; done)
    have a2 : (r == 13) = false := by first | (simp; omega) | (simp [h]; done)
    have a3 : decide (32 ≤ r) = true := by first | (simp; omega) | (simp [h]; done)
    have a4 : decide (r ≤ 55295) = false := by first | (simp; omega) | (simp [h]; done)
    have a5 : decide (57344 ≤ r) = true := by first | (simp; omega) | (simp [h]; done)
    have a6 : decide (r ≤ 65533) = false := by first | (simp; omega) | (simp [h]; done)
    have a7 : decide (65536 ≤ r) = false := by first | (simp; omega) | (simp [h]; done)
    have a8 : decide (r ≤ 1114111) = true := by first | (simp; omega) | (simp [h]; done)
    clear e h
    go_enter Tryz.func81, Tryz.ntmps81
    go_wp2
    go_ret
    exact ⟨rfl, rfl⟩
  · have e : isDoc r = true := by
      rw [isDoc_iff]; omega
    rw [e]
    have a0 : (r == 9) = false := by first | (simp; omega) | (simp [h]; done)
    have a1 : (r == 10) = false := by first | (simp; omega) | (simp [h]; done)
    have a2 : (r == 13) = false := by first | (simp; omega) | (simp [h]; done)
    have a3 : decide (32 ≤ r) = true := by first | (simp; omega) | (simp [h]; done)
    have a4 : decide (r ≤ 55295) = false := by first | (simp; omega) | (simp [h]; done)
    have a5 : decide (57344 ≤ r) = true := by first | (simp; omega) | (simp [h]; done)
    have a6 : decide (r ≤ 65533) = false := by first | (simp; omega) | (simp [h]; done)
    have a7 : decide (65536 ≤ r) = true := by first | (simp; omega) | (simp [h]; done)
    have a8 : decide (r ≤ 1114111) = true := by first | (simp; omega) | (simp [h]; done)
    clear e h
    go_enter Tryz.func81, Tryz.ntmps81
    go_wp2
    go_ret
    exact ⟨rfl, rfl⟩
  · have e : isDoc r = false := by
      rw [Bool.eq_false_iff, Ne, isDoc_iff]; omega
    rw [e]
    have a0 : (r == 9) = false := by first | (simp; omega) | (simp [h]; done)
    have a1 : (r == 10) = false := by first | (simp; omega) | (simp [h]; done)
    have a2 : (r == 13) = false := by first | (simp; omega) | (simp [h]; done)
    have a3 : decide (32 ≤ r) = true := by first | (simp; omega) | (simp [h]; done)
    have a4 : decide (r ≤ 55295) = false := by first | (simp; omega) | (simp [h]; done)
    have a5 : decide (57344 ≤ r) = true := by first | (simp; omega) | (simp [h]; done)
    have a6 : decide (r ≤ 65533) = false := by first | (simp; omega) | (simp [h]; done)
    have a7 : decide (65536 ≤ r) = true := by first | (simp; omega) | (simp [h]; done)
    have a8 : decide (r ≤ 1114111) = false := by first | (simp; omega) | (simp [h]; done)
    clear e h
    go_enter Tryz.func81, Tryz.ntmps81
    go_wp2
    go_ret
    exact ⟨rfl, rfl⟩
end Go.Proofs.YtfemfgkcgboopaaGreatDoor
