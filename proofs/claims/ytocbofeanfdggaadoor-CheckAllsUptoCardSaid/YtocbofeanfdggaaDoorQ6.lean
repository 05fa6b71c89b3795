/- Texts of ours, joined: Name2, Name3, Cref1, Ref1. -/
import Derived.Test.YtocbofeanfdggaaDoorRows
import Derived.WalkKit
import Derived.ProofKit
import Derived.OpenShut
import Derived.ShutString
import Derived.ChangeOld
import Derived.Below
import Derived.BigQuiet
import Derived.Deep.QuietTactic
import Derived.Lib.Hide
import Derived.Deep.RegionHeld3
import Derived.Lib.SlBytesConst
import Derived.Laws.CopyOwn
import Derived.Laws.CopyRow
import Derived.Lib.Bytes
import Derived.Deep.LoopGhost
import Derived.Deep.DeepFit
import Derived.Deep.DeepMust
import Derived.WalkSpells
import Derived.WalkLawsBesides
import Derived.Laws.EntriesVeiled
import Derived.Laws.Rows
import Derived.Test.YtocbofeanfdggaaDoorQ2
import Derived.Test.YtocbofeanfdggaaDoorQ1
import Derived.Test.YtocbofeanfdggaaDoorQ3
import Derived.Test.YtocbofeanfdggaaDoorQ4
import Derived.Test.YtocbofeanfdggaaDoorQ5
/- Names: the end. -/
namespace Go.Proofs.YtocbofeanfdggaaDoor
open Go.ChangeShapes Go.WideShapes Go.ChangeAt Go.RowKit
set_option linter.unusedVariables false
/-- How many bytes a name has: f: what may begin it; g: what may follow. -/
def endL (f g : Int → Bool) : Nat → List UInt8 → Nat
  | 0, _ => 0
  | k + 1, l => match dec l with
    | some (r, n) => if f r then n + endL g g k (l.drop n) else 0
    | none => 0
theorem endL_le (k : Nat) : ∀ (f g : Int → Bool) (l : List UInt8), endL f g k l ≤ l.length := by
  induction k with
  | zero => intro f g l; exact Nat.zero_le _
  | succ k ih =>
    intro f g l
    simp only [endL]
    split
    · rename_i r n h
      have := dec_le l r n h
      split
      · have := ih g g (l.drop n)
        rw [List.length_drop] at this
        omega
      · omega
    · omega
theorem endL_none (f g : Int → Bool) (k : Nat) (l : List UInt8) (h : dec l = none) : endL f g k l = 0 := by
  cases k with
  | zero => rfl
  | succ k => simp [endL, h]
theorem endL_no (f g : Int → Bool) (k : Nat) (l : List UInt8) (r n : Nat) (h : dec l = some (r, n)) (hf : f r = false) : endL f g k l = 0 := by
  cases k with
  | zero => rfl
  | succ k => simp [endL, h, hf]
theorem endL_yes (f g : Int → Bool) (k : Nat) (l : List UInt8) (r n : Nat) (h : dec l = some (r, n)) (hf : f r = true) : endL f g (k + 1) l = n + endL g g k (l.drop n) := by
  simp [endL, h, hf]
set_option maxHeartbeats 2000000 in
theorem end_c (f g : Int → Bool) (a b : Nat) (A : Option Addr) (n cap : Nat) (l : List UInt8) (at_ : Nat) (w : World) (h : Byt w w.heap.size A n cap l) (hF : Forms w) (hm : n ≤ 100000) (hat : at_ ≤ n)
    (hf : Says 113 #[.pointer (some ⟨a, 0, none⟩)] w.heap.size w f) (hg : Says 113 #[.pointer (some ⟨b, 0, none⟩)] w.heap.size w g) :
    Calls Tryd.prog 102 #[plainsV a b, .slice A n cap, .int .i64 at_] w fun e w' => e = .returned (.int .i64 ((at_ + endL f g n (l.drop at_) : Nat))) ∧ Below w.heap.size w w' := by
  have HB0 := Lib.hid (And.intro h (And.intro hF hF.lt))
  have HS := Lib.hid (And.intro hf hg)
  have hln := Lib.hid h.length
  clear h hF hf hg
  unfold plainsV
  go_enter Tryd.func102, Tryd.ntmps102
  have f0 := hp_new w (.cells #[.func (.func 113) #[] #[.pointer (some ⟨a, 0, none⟩)], .func (.func 113) #[] #[.pointer (some ⟨b, 0, none⟩)]] 116)
  have z0 := cell_of 0 f0
  have z1 := cell_of 1 f0
  have hb0 : Hid (Below w.heap.size w (w.alloc (.cells #[.func (.func 113) #[] #[.pointer (some ⟨a, 0, none⟩)], .func (.func 113) #[] #[.pointer (some ⟨b, 0, none⟩)]] 116))) := Lib.hid (Below.alloc (Below.refl _ _) (Nat.le_refl _) _)
  have hsz : (w.alloc (.cells #[.func (.func 113) #[] #[.pointer (some ⟨a, 0, none⟩)], .func (.func 113) #[] #[.pointer (some ⟨b, 0, none⟩)]] 116)).heap.size = w.heap.size + 1 := by simp
  have z1' : Hid ((w.alloc (.cells #[.func (.func 113) #[] #[.pointer (some ⟨a, 0, none⟩)], .func (.func 113) #[] #[.pointer (some ⟨b, 0, none⟩)]] 116)).cell? ⟨w.heap.size, 1, none⟩ = some (.func (.func 113) #[] #[.pointer (some ⟨b, 0, none⟩)])) := Lib.hid z1
  clear f0 z1
  go_wp2
  generalize hw0 : w.alloc (.cells #[.func (.func 113) #[] #[.pointer (some ⟨a, 0, none⟩)], .func (.func 113) #[] #[.pointer (some ⟨b, 0, none⟩)]] 116) = w0 at *
  clear hw0 z0
  go_loopg [2, 7] (n - at_) (fun kx s2 s7 wr => ∃ (p K c : Nat) (fc : Int → Bool), s2 = .int .i64 p ∧ s7 = .func (.func 113) #[] #[.pointer (some ⟨c, 0, none⟩)] ∧ p ≤ n ∧ kx = n - p ∧ n - p ≤ K ∧
    Hid (at_ + endL f g n (l.drop at_) = p + endL fc g K (l.drop p)) ∧ Hid (Says 113 #[.pointer (some ⟨c, 0, none⟩)] w.heap.size w fc) ∧ Hid (Below w.heap.size w wr) ∧ w.heap.size < wr.heap.size ∧
    Hid (wr.cell? ⟨w.heap.size, 1, none⟩ = some (.func (.func 113) #[] #[.pointer (some ⟨b, 0, none⟩)])))
  case atStart => exact ⟨at_, n, a, f, rfl, rfl, hat, rfl, by omega, Lib.hid rfl, Lib.hid HS.out.1, hb0, by omega, z1'⟩
  case round =>
    obtain ⟨p, K, c, fc, rfl, rfl, hp, hk, hK, HE, HC, HB, hsr, HZ⟩ := hrel
    by_cases hlt : p < n
    · have hlt' : (p : Int) < (n : Int) := by omega
      have hd := decode_c A n cap l p wr w.heap.size (HB0.out.1.below HB.out) (HB0.out.2.1.below HB.out HB0.out.2.2) hlt (by omega)
      cases hdec : dec (l.drop p) with
      | none =>
        rw [hdec] at hd
        have HD := Lib.hid hdec
        clear hdec
        go_wp2_with fail
        refine hd.mono ?_
        rintro e w1 ⟨rfl, q, rfl⟩
        simp only [decOut]
        go_wp2
        go_ret
        exact ⟨by rw [HE.out, endL_none _ _ _ _ HD.out]; rfl, below_drewN' HB.out⟩
      | some v =>
        obtain ⟨r, m⟩ := v
        rw [hdec] at hd
        have HD := Lib.hid hdec
        have hle := dec_le _ r m hdec
        rw [List.length_drop, hln.out] at hle
        have hcall := HC.out (wr.drewN 0) r (below_drewN' HB.out)
        clear hdec
        have HX := Lib.hid HC.out
        clear hcall
        cases hfr : fc r with
        | false =>
          go_wp2_with fail
          refine hd.mono ?_
          rintro e w1 ⟨rfl, q, rfl⟩
          simp only [decOut]
          have hcall := HC.out (wr.drewN q) r (below_drewN' HB.out)
          rw [hfr] at hcall
          have HR := Lib.hid hfr
          clear hfr
          go_wp2_with fail
          refine hcall.mono ?_
          rintro e w2 ⟨rfl, hb2⟩
          go_wp2
          go_ret
          exact ⟨by rw [HE.out, endL_no _ _ _ _ _ _ HD.out HR.out]; rfl, (below_drewN' HB.out).trans (hb2.mono (by show w.heap.size ≤ wr.heap.size; omega))⟩
        | true =>
          go_wp2_with fail
          refine hd.mono ?_
          rintro e w1 ⟨rfl, q, rfl⟩
          simp only [decOut]
          have hcall := HC.out (wr.drewN q) r (below_drewN' HB.out)
          rw [hfr] at hcall
          have HR := Lib.hid hfr
          clear hfr
          go_wp2_with fail
          refine hcall.mono ?_
          rintro e w2 ⟨rfl, hb2⟩
          have hz2 : w2.cell? ⟨w.heap.size, 1, none⟩ = some (.func (.func 113) #[] #[.pointer (some ⟨b, 0, none⟩)]) := by rw [hb2.cell (by show w.heap.size < wr.heap.size; omega)]; exact HZ.out
          have HB2 := Lib.hid ((below_drewN' (n := q) HB.out).trans (hb2.mono (by show w.heap.size ≤ wr.heap.size; omega)))
          have hs2 : w.heap.size < w2.heap.size := by have := hb2.size; have : wr.heap.size ≤ w2.heap.size := this; omega
          clear hb2
          go_wp2
          go_quiet (fail)
          have hz3 : Hid ((w2.drewN nq).cell? ⟨w.heap.size, 1, none⟩ = some (.func (.func 113) #[] #[.pointer (some ⟨b, 0, none⟩)])) := Lib.hid hz2
          go_wp2
          go_roundg (n - (p + m))
          case measure => omega
          case rel =>
            refine ⟨p + m, K - 1, b, g, rfl, rfl, by omega, rfl, by omega, Lib.hid ?_, Lib.hid HS.out.2, Lib.hid (below_drewN' HB2.out), hs2, hz3⟩
            have := endL_yes fc g (K - 1) _ r m HD.out HR.out
            rw [show K - 1 + 1 = K by omega, List.drop_drop] at this
            rw [HE.out, this]
            omega
    · obtain rfl : p = n := by omega
      go_wp2
      go_ret
      refine ⟨?_, HB.out⟩
      rw [HE.out, List.drop_of_length_le (by rw [hln.out]; exact Nat.le_refl _), endL_none _ _ _ _ (by rfl)]
      rfl
end Go.Proofs.YtocbofeanfdggaaDoor
/- Names: read. -/
namespace Go.Proofs.YtocbofeanfdggaaDoor
open Go.ChangeShapes Go.WideShapes Go.ChangeAt Go.RowKit
set_option linter.unusedVariables false
end Go.Proofs.YtocbofeanfdggaaDoor
/- References: by a mark. -/
namespace Go.Proofs.YtocbofeanfdggaaDoor
open Go.ChangeShapes Go.WideShapes Go.ChangeAt Go.RowKit
set_option linter.unusedVariables false
end Go.Proofs.YtocbofeanfdggaaDoor
/- The document's characters. -/
namespace Go.Proofs.YtocbofeanfdggaaDoor
open Go.ChangeShapes Go.WideShapes Go.ChangeAt Go.RowKit
set_option linter.unusedVariables false
theorem isDoc_iff (r : Int) : isDoc r = true ↔ ((9 ≤ r ∧ r ≤ 10) ∨ (13 ≤ r ∧ r ≤ 13) ∨ (32 ≤ r ∧ r ≤ 55295) ∨ (57344 ≤ r ∧ r ≤ 65533) ∨ (65536 ≤ r ∧ r ≤ 1114111)) := by
  simp [isDoc, inTab, tabDocs]
theorem isStart_iff (r : Int) : isStart r = true ↔ ((58 ≤ r ∧ r ≤ 58) ∨ (65 ≤ r ∧ r ≤ 90) ∨ (95 ≤ r ∧ r ≤ 95) ∨ (97 ≤ r ∧ r ≤ 122) ∨ (192 ≤ r ∧ r ≤ 214) ∨ (216 ≤ r ∧ r ≤ 246) ∨ (248 ≤ r ∧ r ≤ 767) ∨ (880 ≤ r ∧ r ≤ 893) ∨ (895 ≤ r ∧ r ≤ 8191) ∨ (8204 ≤ r ∧ r ≤ 8205) ∨ (8304 ≤ r ∧ r ≤ 8591) ∨ (11264 ≤ r ∧ r ≤ 12271) ∨ (12289 ≤ r ∧ r ≤ 55295) ∨ (63744 ≤ r ∧ r ≤ 64975) ∨ (65008 ≤ r ∧ r ≤ 65533) ∨ (65536 ≤ r ∧ r ≤ 983039)) := by
  simp [isStart, inTab, tabStarts]
def isMoreOnly (r : Int) : Bool := inTab tabMore r
theorem isMoreOnly_iff (r : Int) : isMoreOnly r = true ↔ ((45 ≤ r ∧ r ≤ 46) ∨ (48 ≤ r ∧ r ≤ 57) ∨ (183 ≤ r ∧ r ≤ 183) ∨ (768 ≤ r ∧ r ≤ 879) ∨ (8255 ≤ r ∧ r ≤ 8256)) := by
  simp [isMoreOnly, inTab, tabMore]
set_option maxRecDepth 100000 in
set_option maxHeartbeats 4000000 in
theorem refChar_c (r : Int) (w : World) : Calls Tryd.prog 109 #[.int .i64 r] w fun e w' => e = .returned (.bool (isDoc r)) ∧ w = w' := by
  rcases (show r ≤ 8 ∨ r = 9 ∨ r = 10 ∨ (11 ≤ r ∧ r ≤ 12) ∨ r = 13 ∨ (14 ≤ r ∧ r ≤ 31) ∨ (32 ≤ r ∧ r ≤ 55295) ∨ (55296 ≤ r ∧ r ≤ 57343) ∨ (57344 ≤ r ∧ r ≤ 65533) ∨ (65534 ≤ r ∧ r ≤ 65535) ∨ (65536 ≤ r ∧ r ≤ 1114111) ∨ 1114112 ≤ r by omega) with h | h | h | h | h | h | h | h | h | h | h | h
  · have e : isDoc r = false := by
      rw [Bool.eq_false_iff, Ne, isDoc_iff]; omega
    rw [e]
    have a0 : (r == 9) = false := by first | (simp; omega) | (simp [h]; done)
    have a1 : (r == 10) = false := by first | (simp; omega) | (simp [h]; done)
    have a2 : (r == 13) = false := by first | (simp; omega) | (simp [h]; done)
    have a3 : decide (32 ≤ r) = false := by first | (simp; omega) | (simp [h]; done)
    have a4 : decide (r ≤ 55295) = true := by first | (simp; omega) | (simp [h]; done)
    have a5 : decide (57344 ≤ r) = false := by first | (simp; omega) | (simp [h]; done)
    have a6 : decide (r ≤ 65533) = true := by first | (simp; omega) | (simp [h]; done)
    have a7 : decide (65536 ≤ r) = false := by first | (simp; omega) | (simp [h]; done)
    have a8 : decide (r ≤ 1114111) = true := by first | (simp; omega) | (simp [h]; done)
    clear e h
    go_enter Tryd.func109, Tryd.ntmps109
    go_wp2
    go_ret
    exact ⟨rfl, rfl⟩
  · have e : isDoc r = true := by
      rw [isDoc_iff]; omega
    rw [e]
    have a0 : (r == 9) = true := by first | (simp; omega) | (simp [h]; done)
    have a1 : (r == 10) = false := by first | (simp; omega) | (simp [h]; done)
    have a2 : (r == 13) = false := by first | (simp; omega) | (simp [h]; done)
    have a3 : decide (32 ≤ r) = false := by first | (simp; omega) | (simp [h]; done)
    have a4 : decide (r ≤ 55295) = true := by first | (simp; omega) | (simp [h]; done)
    have a5 : decide (57344 ≤ r) = false := by first | (simp; omega) | (simp [h]; done)
    have a6 : decide (r ≤ 65533) = true := by first | (simp; omega) | (simp [h]; done)
    have a7 : decide (65536 ≤ r) = false := by first | (simp; omega) | (simp [h]; done)
    have a8 : decide (r ≤ 1114111) = true := by first | (simp; omega) | (simp [h]; done)
    clear e h
    go_enter Tryd.func109, Tryd.ntmps109
    go_wp2
    go_ret
    exact ⟨rfl, rfl⟩
  · have e : isDoc r = true := by
      rw [isDoc_iff]; omega
    rw [e]
    have a0 : (r == 9) = false := by first | (simp; omega) | (simp [h]; done)
    have a1 : (r == 10) = true := by first | (simp; omega) | (simp [h]; done)
    have a2 : (r == 13) = false := by first | (simp; omega) | (simp [h]; done)
    have a3 : decide (32 ≤ r) = false := by first | (simp; omega) | (simp [h]; done)
    have a4 : decide (r ≤ 55295) = true := by first | (simp; omega) | (simp [h]; done)
    have a5 : decide (57344 ≤ r) = false := by first | (simp; omega) | (simp [h]; done)
    have a6 : decide (r ≤ 65533) = true := by first | (simp; omega) | (simp [h]; done)
    have a7 : decide (65536 ≤ r) = false := by first | (simp; omega) | (simp [h]; done)
    have a8 : decide (r ≤ 1114111) = true := by first | (simp; omega) | (simp [h]; done)
    clear e h
    go_enter Tryd.func109, Tryd.ntmps109
    go_wp2
    go_ret
    exact ⟨rfl, rfl⟩
  · have e : isDoc r = false := by
      rw [Bool.eq_false_iff, Ne, isDoc_iff]; omega
    rw [e]
    have a0 : (r == 9) = false := by first | (simp; omega) | (simp [h]; done)
    have a1 : (r == 10) = false := by first | (simp; omega) | (simp [h]; done)
    have a2 : (r == 13) = false := by first | (simp; omega) | (simp [h]; done)
    have a3 : decide (32 ≤ r) = false := by first | (simp; omega) | (simp [h]; done)
    have a4 : decide (r ≤ 55295) = true := by first | (simp; omega) | (simp [h]; done)
    have a5 : decide (57344 ≤ r) = false := by first | (simp; omega) | (simp [h]; done)
    have a6 : decide (r ≤ 65533) = true := by first | (simp; omega) | (simp [h]; done)
    have a7 : decide (65536 ≤ r) = false := by first | (simp; omega) | (simp [h]; done)
    have a8 : decide (r ≤ 1114111) = true := by first | (simp; omega) | (simp [h]; done)
    clear e h
    go_enter Tryd.func109, Tryd.ntmps109
    go_wp2
    go_ret
    exact ⟨rfl, rfl⟩
  · have e : isDoc r = true := by
      rw [isDoc_iff]; omega
    rw [e]
    have a0 : (r == 9) = false := by first | (simp; omega) | (simp [h]; done)
    have a1 : (r == 10) = false := by first | (simp; omega) | (simp [h]; done)
    have a2 : (r == 13) = true := by first | (simp; omega) | (simp [h]; done)
    have a3 : decide (32 ≤ r) = false := by first | (simp; omega) | (simp [h]; done)
    have a4 : decide (r ≤ 55295) = true := by first | (simp; omega) | (simp [h]; done)
    have a5 : decide (57344 ≤ r) = false := by first | (simp; omega) | (simp [h]; done)
    have a6 : decide (r ≤ 65533) = true := by first | (simp; omega) | (simp [h]; done)
    have a7 : decide (65536 ≤ r) = false := by first | (simp; omega) | (simp [h]; done)
    have a8 : decide (r ≤ 1114111) = true := by first | (simp; omega) | (simp [h]; done)
    clear e h
    go_enter Tryd.func109, Tryd.ntmps109
    go_wp2
    go_ret
    exact ⟨rfl, rfl⟩
  · have e : isDoc r = false := by
      rw [Bool.eq_false_iff, Ne, isDoc_iff]; omega
    rw [e]
    have a0 : (r == 9) = false := by first | (simp; omega) | (simp [h]; done)
    have a1 : (r == 10) = false := by first | (simp; omega) | (simp [h]; done)
    have a2 : (r == 13) = false := by first | (simp; omega) | (simp [h]; done)
    have a3 : decide (32 ≤ r) = false := by first | (simp; omega) | (simp [h]; done)
    have a4 : decide (r ≤ 55295) = true := by first | (simp; omega) | (simp [h]; done)
    have a5 : decide (57344 ≤ r) = false := by first | (simp; omega) | (simp [h]; done)
    have a6 : decide (r ≤ 65533) = true := by first | (simp; omega) | (simp [h]; done)
    have a7 : decide (65536 ≤ r) = false := by first | (simp; omega) | (simp [h]; done)
    have a8 : decide (r ≤ 1114111) = true := by first | (simp; omega) | (simp [h]; done)
    clear e h
    go_enter Tryd.func109, Tryd.ntmps109
    go_wp2
    go_ret
    exact ⟨rfl, rfl⟩
  · have e : isDoc r = true := by
      rw [isDoc_iff]; omega
    rw [e]
    have a0 : (r == 9) = false := by first | (simp; omega) | (simp [h]; done)
    have a1 : (r == 10) = false := by first | (simp; omega) | (simp [h]; done)
    have a2 : (r == 13) = false := by first | (simp; omega) | (simp [h]; done)
    have a3 : decide (32 ≤ r) = true := by first | (simp; omega) | (simp [h]; done)
    have a4 : decide (r ≤ 55295) = true := by first | (simp; omega) | (simp [h]; done)
    have a5 : decide (57344 ≤ r) = false := by first | (simp; omega) | (simp [h]; done)
    have a6 : decide (r ≤ 65533) = true := by first | (simp; omega) | (simp [h]; done)
    have a7 : decide (65536 ≤ r) = false := by first | (simp; omega) | (simp [h]; done)
    have a8 : decide (r ≤ 1114111) = true := by first | (simp; omega) | (simp [h]; done)
    clear e h
    go_enter Tryd.func109, Tryd.ntmps109
    go_wp2
    go_ret
    exact ⟨rfl, rfl⟩
  · have e : isDoc r = false := by
      rw [Bool.eq_false_iff, Ne, isDoc_iff]; omega
    rw [e]
    have a0 : (r == 9) = false := by first | (simp; omega) | (simp [h]; done)
    have a1 : (r == 10) = false := by first | (simp; omega) | (simp [h]; done)
    have a2 : (r == 13) = false := by first | (simp; omega) | (simp [h]; done)
    have a3 : decide (32 ≤ r) = true := by first | (simp; omega) | (simp [h]; done)
    have a4 : decide (r ≤ 55295) = false := by first | (simp; omega) | (simp [h]; done)
    have a5 : decide (57344 ≤ r) = false := by first | (simp; omega) | (simp [h]; done)
    have a6 : decide (r ≤ 65533) = true := by first | (simp; omega) | (simp [h]; done)
    have a7 : decide (65536 ≤ r) = false := by first | (simp; omega) | (simp [h]; done)
    have a8 : decide (r ≤ 1114111) = true := by first | (simp; omega) | (simp [h]; done)
    clear e h
    go_enter Tryd.func109, Tryd.ntmps109
    go_wp2
    go_ret
    exact ⟨rfl, rfl⟩
  · have e : isDoc r = true := by
      rw [isDoc_iff]; omega
    rw [e]
    have a0 : (r == 9) = false := by first | (simp; omega) | (simp [h]; done)
    have a1 : (r == 10) = false := by first | (simp; omega) | (simp [h]; done)
    have a2 : (r == 13) = false := by first | (simp; omega) | (simp [h]; done)
    have a3 : decide (32 ≤ r) = true := by first | (simp; omega) | (simp [h]; done)
    have a4 : decide (r ≤ 55295) = false := by first | (simp; omega) | (simp [h]; done)
    have a5 : decide (57344 ≤ r) = true := by first | (simp; omega) | (simp [h]; done)
    have a6 : decide (r ≤ 65533) = true := by first | (simp; omega) | (simp [h]; done)
    have a7 : decide (65536 ≤ r) = false := by first | (simp; omega) | (simp [h]; done)
    have a8 : decide (r ≤ 1114111) = true := by first | (simp; omega) | (simp [h]; done)
    clear e h
    go_enter Tryd.func109, Tryd.ntmps109
    go_wp2
    go_ret
    exact ⟨rfl, rfl⟩
  · have e : isDoc r = false := by
      rw [Bool.eq_false_iff, Ne, isDoc_iff]; omega
    rw [e]
    have a0 : (r == 9) = false := by first | (simp; omega) | (simp [h]; done)
    have a1 : (r == 10) = false := by first | (simp; omega) | (simp [h]; done)
    have a2 : (r == 13) = false := by first | (simp; omega) | (simp [h]; done)
    have a3 : decide (32 ≤ r) = true := by first | (simp; omega) | (simp [h]; done)
    have a4 : decide (r ≤ 55295) = false := by first | (simp; omega) | (simp [h]; done)
    have a5 : decide (57344 ≤ r) = true := by first | (simp; omega) | (simp [h]; done)
    have a6 : decide (r ≤ 65533) = false := by first | (simp; omega) | (simp [h]; done)
    have a7 : decide (65536 ≤ r) = false := by first | (simp; omega) | (simp [h]; done)
    have a8 : decide (r ≤ 1114111) = true := by first | (simp; omega) | (simp [h]; done)
    clear e h
    go_enter Tryd.func109, Tryd.ntmps109
    go_wp2
    go_ret
    exact ⟨rfl, rfl⟩
  · have e : isDoc r = true := by
      rw [isDoc_iff]; omega
    rw [e]
    have a0 : (r == 9) = false := by first | (simp; omega) | (simp [h]; done)
    have a1 : (r == 10) = false := by first | (simp; omega) | (simp [h]; done)
    have a2 : (r == 13) = false := by first | (simp; omega) | (simp [h]; done)
    have a3 : decide (32 ≤ r) = true := by first | (simp; omega) | (simp [h]; done)
    have a4 : decide (r ≤ 55295) = false := by first | (simp; omega) | (simp [h]; done)
    have a5 : decide (57344 ≤ r) = true := by first | (simp; omega) | (simp [h]; done)
    have a6 : decide (r ≤ 65533) = false := by first | (simp; omega) | (simp [h]; done)
    have a7 : decide (65536 ≤ r) = true := by first | (simp; omega) | (simp [h]; done)
    have a8 : decide (r ≤ 1114111) = true := by first | (simp; omega) | (simp [h]; done)
    clear e h
    go_enter Tryd.func109, Tryd.ntmps109
    go_wp2
    go_ret
    exact ⟨rfl, rfl⟩
  · have e : isDoc r = false := by
      rw [Bool.eq_false_iff, Ne, isDoc_iff]; omega
    rw [e]
    have a0 : (r == 9) = false := by first | (simp; omega) | (simp [h]; done)
    have a1 : (r == 10) = false := by first | (simp; omega) | (simp [h]; done)
    have a2 : (r == 13) = false := by first | (simp; omega) | (simp [h]; done)
    have a3 : decide (32 ≤ r) = true := by first | (simp; omega) | (simp [h]; done)
    have a4 : decide (r ≤ 55295) = false := by first | (simp; omega) | (simp [h]; done)
    have a5 : decide (57344 ≤ r) = true := by first | (simp; omega) | (simp [h]; done)
    have a6 : decide (r ≤ 65533) = false := by first | (simp; omega) | (simp [h]; done)
    have a7 : decide (65536 ≤ r) = true := by first | (simp; omega) | (simp [h]; done)
    have a8 : decide (r ≤ 1114111) = false := by first | (simp; omega) | (simp [h]; done)
    clear e h
    go_enter Tryd.func109, Tryd.ntmps109
    go_wp2
    go_ret
    exact ⟨rfl, rfl⟩
end Go.Proofs.YtocbofeanfdggaaDoor
