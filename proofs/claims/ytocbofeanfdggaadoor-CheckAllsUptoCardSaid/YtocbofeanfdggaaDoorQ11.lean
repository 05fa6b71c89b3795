/- Texts of ours, joined: Ref7, Ref8, Ref9, Cref2, Dig, Num, LitP. -/
import Derived.Test.YtocbofeanfdggaaDoorRows
import Derived.WalkKit
import Derived.ProofKit
import Derived.OpenShut
import Derived.ShutString
import Derived.ChangeOld
import Derived.Below
import Derived.BigQuiet
import Derived.Deep.QuietTactic
import Derived.Lib.Hide
import Derived.Deep.RegionHeld3
import Derived.Lib.SlBytesConst
import Derived.Laws.CopyOwn
import Derived.Laws.CopyRow
import Derived.Lib.Bytes
import Derived.Deep.LoopGhost
import Derived.Deep.DeepFit
import Derived.Deep.DeepMust
import Derived.WalkSpells
import Derived.WalkLawsBesides
import Derived.Laws.EntriesVeiled
import Derived.Laws.Rows
import Derived.Test.YtocbofeanfdggaaDoorQ2
import Derived.Test.YtocbofeanfdggaaDoorQ1
import Derived.Test.YtocbofeanfdggaaDoorQ3
import Derived.Test.YtocbofeanfdggaaDoorQ4
import Derived.Test.YtocbofeanfdggaaDoorQ5
import Derived.Test.YtocbofeanfdggaaDoorQ6
import Derived.Test.YtocbofeanfdggaaDoorQ7
import Derived.Test.YtocbofeanfdggaaDoorQ8
import Derived.Test.YtocbofeanfdggaaDoorQ9
import Derived.Test.YtocbofeanfdggaaDoorQ10
/- The document's names: the end. -/
namespace Go.Proofs.YtocbofeanfdggaaDoor
open Go.ChangeShapes Go.WideShapes Go.ChangeAt Go.RowKit
set_option linter.unusedVariables false
/-- What may stand in a name, or in a plain one. -/
def okName (pl : Bool) (f : Int → Bool) (r : Int) : Bool := if pl then noColon f r else f r
set_option maxRecDepth 100000 in
set_option maxHeartbeats 8000000 in
theorem refEnd_c (pl : Bool) (A : Option Addr) (n cap : Nat) (l : List UInt8) (at_ : Nat) (w : World) (h : Byt w w.heap.size A n cap l) (hm : n ≤ 50000) (hat : at_ ≤ n) :
    Calls Tryd.prog 48 #[.slice A n cap, .int .i64 at_, .bool pl] w fun e w' => e = .returned (.int .i64 ((at_ + endL (okName pl isStart) (okName pl isMore) n (l.drop at_) : Nat))) ∧ Below w.heap.size w w' := by
  have HB0 := Lib.hid h
  have hln := Lib.hid h.length
  have HM := Lib.hid hm
  clear h
  go_enter Tryd.func48, Tryd.ntmps48
  go_wp2
  go_loopg [1, 7] (n - at_) (fun kx s1 s7 wr => ∃ (p K : Nat) (first : Bool), s1 = .int .i64 p ∧ s7 = .bool first ∧ p ≤ n ∧ kx = n - p ∧ n - p ≤ K ∧
    Hid (at_ + endL (okName pl isStart) (okName pl isMore) n (l.drop at_) = p + endL (okName pl (if first then isStart else isMore)) (okName pl isMore) K (l.drop p)) ∧ Hid (Below w.heap.size w wr))
  case atStart => exact ⟨at_, n, true, rfl, rfl, hat, rfl, by omega, Lib.hid rfl, Lib.hid (Below.refl _ _)⟩
  case round =>
    obtain ⟨p, K, first, rfl, rfl, hp, hk, hK, HE, HB⟩ := hrel
    by_cases hlt : p < n
    · have hlt' : (p : Int) < (n : Int) := by omega
      have hd := refDec_c A n cap l p wr w.heap.size (HB0.out.below HB.out) hlt hm
      cases hdec : dec (l.drop p) with
      | none =>
        rw [hdec] at hd
        have HD := Lib.hid hdec
        clear hdec
        cases first with
        | true =>
          go_wp2_with fail
          refine hd.mono ?_
          rintro e w1 ⟨rfl, hb1⟩
          have HB1 := Lib.hid (HB.out.trans (hb1.mono HB.out.size))
          clear hb1
          simp only [pairV]
          go_wp2_with fail
          refine (refMore_c _ _).mono ?_
          rintro e w2 ⟨rfl, rfl⟩
          go_wp2_with fail
          refine (refStart_c _ _).mono ?_
          rintro e w2 ⟨rfl, rfl⟩
          go_wp2
          go_ret
          exact ⟨by rw [HE.out, endL_none _ _ _ _ HD.out]; rfl, HB1.out⟩
        | false =>
          go_wp2_with fail
          refine hd.mono ?_
          rintro e w1 ⟨rfl, hb1⟩
          have HB1 := Lib.hid (HB.out.trans (hb1.mono HB.out.size))
          clear hb1
          simp only [pairV]
          go_wp2_with fail
          refine (refMore_c _ _).mono ?_
          rintro e w2 ⟨rfl, rfl⟩
          go_wp2
          go_ret
          exact ⟨by rw [HE.out, endL_none _ _ _ _ HD.out]; rfl, HB1.out⟩
      | some v =>
        obtain ⟨r, m⟩ := v
        rw [hdec] at hd
        have hle := dec_le _ r m hdec
        rw [List.length_drop, hln.out] at hle
        have HD := Lib.hid hdec
        clear hdec
        have hmz : ((m : Int) == 0) = false := by simp; omega
        cases first with
        | true =>
          have HE2 : Hid (at_ + endL (okName pl isStart) (okName pl isMore) n (l.drop at_) = p + endL (okName pl isStart) (okName pl isMore) K (l.drop p)) := Lib.hid (by simpa using HE.out)
          cases hf : isStart r with
          | false =>
            have HNO : Hid (okName pl isStart r = false) := Lib.hid (by unfold okName noColon; rw [hf]; simp)
            have hcs : ∀ w0 : World, Calls Tryd.prog 68 #[.int .i64 (r : Int)] w0 fun e w' => e = .returned (.bool false) ∧ w0 = w' := fun w0 => by
              have := refStart_c (r : Int) w0
              rwa [hf] at this
            clear hf
            go_wp2_with fail
            refine hd.mono ?_
            rintro e w1 ⟨rfl, hb1⟩
            have HB1 := Lib.hid (HB.out.trans (hb1.mono HB.out.size))
            clear hb1
            simp only [pairV]
            go_wp2_with fail
            refine (refMore_c _ _).mono ?_
            rintro e w2 ⟨rfl, rfl⟩
            go_wp2_with fail
            refine (hcs _).mono ?_
            rintro e w2 ⟨rfl, rfl⟩
            go_wp2
            go_ret
            exact ⟨by rw [HE2.out, endL_no _ _ _ _ _ _ HD.out HNO.out]; rfl, HB1.out⟩
          | true =>
            have hcs : ∀ w0 : World, Calls Tryd.prog 68 #[.int .i64 (r : Int)] w0 fun e w' => e = .returned (.bool true) ∧ w0 = w' := fun w0 => by
              have := refStart_c (r : Int) w0
              rwa [hf] at this
            cases pl with
            | false =>
              have HNO : Hid (okName false isStart r = true) := Lib.hid hf
              clear hf
              go_wp2_with fail
              refine hd.mono ?_
              rintro e w1 ⟨rfl, hb1⟩
              have HB1 := Lib.hid (HB.out.trans (hb1.mono HB.out.size))
              clear hb1
              simp only [pairV]
              go_wp2_with fail
              refine (refMore_c _ _).mono ?_
              rintro e w2 ⟨rfl, rfl⟩
              go_wp2_with fail
              refine (hcs _).mono ?_
              rintro e w2 ⟨rfl, rfl⟩
              go_wp2
              go_roundg (n - (p + m))
              case measure => omega
              case rel =>
                refine ⟨p + m, K - 1, false, rfl, rfl, by omega, rfl, by omega, Lib.hid ?_, HB1⟩
                have := endL_yes (okName false isStart) (okName false isMore) (K - 1) _ r m HD.out HNO.out
                rw [show K - 1 + 1 = K by omega, List.drop_drop] at this
                rw [HE2.out, this]
                show _ = p + m + endL (okName false isMore) (okName false isMore) (K - 1) (l.drop (p + m))
                omega
            | true =>
              by_cases h58 : r = 58
              · subst h58
                have HNO : Hid (okName true isStart (58 : Nat) = false) := Lib.hid (by unfold okName noColon; simp)
                clear hf
                go_wp2_with fail
                refine hd.mono ?_
                rintro e w1 ⟨rfl, hb1⟩
                have HB1 := Lib.hid (HB.out.trans (hb1.mono HB.out.size))
                clear hb1
                simp only [pairV]
                go_wp2_with fail
                refine (refMore_c _ _).mono ?_
                rintro e w2 ⟨rfl, rfl⟩
                go_wp2_with fail
                refine (hcs _).mono ?_
                rintro e w2 ⟨rfl, rfl⟩
                go_wp2
                go_ret
                exact ⟨by rw [HE2.out, endL_no _ _ _ _ _ _ HD.out HNO.out]; rfl, HB1.out⟩
              · have h5 : ((r : Int) == 58) = false := by simp; omega
                have HNO : Hid (okName true isStart r = true) := Lib.hid (by unfold okName noColon; rw [hf]; simp; omega)
                clear hf
                go_wp2_with fail
                refine hd.mono ?_
                rintro e w1 ⟨rfl, hb1⟩
                have HB1 := Lib.hid (HB.out.trans (hb1.mono HB.out.size))
                clear hb1
                simp only [pairV]
                go_wp2_with fail
                refine (refMore_c _ _).mono ?_
                rintro e w2 ⟨rfl, rfl⟩
                go_wp2_with fail
                refine (hcs _).mono ?_
                rintro e w2 ⟨rfl, rfl⟩
                go_wp2
                go_roundg (n - (p + m))
                case measure => omega
                case rel =>
                  refine ⟨p + m, K - 1, false, rfl, rfl, by omega, rfl, by omega, Lib.hid ?_, HB1⟩
                  have := endL_yes (okName true isStart) (okName true isMore) (K - 1) _ r m HD.out HNO.out
                  rw [show K - 1 + 1 = K by omega, List.drop_drop] at this
                  rw [HE2.out, this]
                  show _ = p + m + endL (okName true isMore) (okName true isMore) (K - 1) (l.drop (p + m))
                  omega
        | false =>
          have HE2 : Hid (at_ + endL (okName pl isStart) (okName pl isMore) n (l.drop at_) = p + endL (okName pl isMore) (okName pl isMore) K (l.drop p)) := Lib.hid (by simpa using HE.out)
          cases hf : isMore r with
          | false =>
            have HNO : Hid (okName pl isMore r = false) := Lib.hid (by unfold okName noColon; rw [hf]; simp)
            have hcs : ∀ w0 : World, Calls Tryd.prog 67 #[.int .i64 (r : Int)] w0 fun e w' => e = .returned (.bool false) ∧ w0 = w' := fun w0 => by
              have := refMore_c (r : Int) w0
              rwa [hf] at this
            clear hf
            go_wp2_with fail
            refine hd.mono ?_
            rintro e w1 ⟨rfl, hb1⟩
            have HB1 := Lib.hid (HB.out.trans (hb1.mono HB.out.size))
            clear hb1
            simp only [pairV]
            go_wp2_with fail
            refine (hcs _).mono ?_
            rintro e w2 ⟨rfl, rfl⟩
            go_wp2
            go_ret
            exact ⟨by rw [HE2.out, endL_no _ _ _ _ _ _ HD.out HNO.out]; rfl, HB1.out⟩
          | true =>
            have hcs : ∀ w0 : World, Calls Tryd.prog 67 #[.int .i64 (r : Int)] w0 fun e w' => e = .returned (.bool true) ∧ w0 = w' := fun w0 => by
              have := refMore_c (r : Int) w0
              rwa [hf] at this
            cases pl with
            | false =>
              have HNO : Hid (okName false isMore r = true) := Lib.hid hf
              clear hf
              go_wp2_with fail
              refine hd.mono ?_
              rintro e w1 ⟨rfl, hb1⟩
              have HB1 := Lib.hid (HB.out.trans (hb1.mono HB.out.size))
              clear hb1
              simp only [pairV]
              go_wp2_with fail
              refine (hcs _).mono ?_
              rintro e w2 ⟨rfl, rfl⟩
              go_wp2
              go_roundg (n - (p + m))
              case measure => omega
              case rel =>
                refine ⟨p + m, K - 1, false, rfl, rfl, by omega, rfl, by omega, Lib.hid ?_, HB1⟩
                have := endL_yes (okName false isMore) (okName false isMore) (K - 1) _ r m HD.out HNO.out
                rw [show K - 1 + 1 = K by omega, List.drop_drop] at this
                rw [HE2.out, this]
                show _ = p + m + endL (okName false isMore) (okName false isMore) (K - 1) (l.drop (p + m))
                omega
            | true =>
              by_cases h58 : r = 58
              · subst h58
                have HNO : Hid (okName true isMore (58 : Nat) = false) := Lib.hid (by unfold okName noColon; simp)
                clear hf
                go_wp2_with fail
                refine hd.mono ?_
                rintro e w1 ⟨rfl, hb1⟩
                have HB1 := Lib.hid (HB.out.trans (hb1.mono HB.out.size))
                clear hb1
                simp only [pairV]
                go_wp2_with fail
                refine (hcs _).mono ?_
                rintro e w2 ⟨rfl, rfl⟩
                go_wp2
                go_ret
                exact ⟨by rw [HE2.out, endL_no _ _ _ _ _ _ HD.out HNO.out]; rfl, HB1.out⟩
              · have h5 : ((r : Int) == 58) = false := by simp; omega
                have HNO : Hid (okName true isMore r = true) := Lib.hid (by unfold okName noColon; rw [hf]; simp; omega)
                clear hf
                go_wp2_with fail
                refine hd.mono ?_
                rintro e w1 ⟨rfl, hb1⟩
                have HB1 := Lib.hid (HB.out.trans (hb1.mono HB.out.size))
                clear hb1
                simp only [pairV]
                go_wp2_with fail
                refine (hcs _).mono ?_
                rintro e w2 ⟨rfl, rfl⟩
                go_wp2
                go_roundg (n - (p + m))
                case measure => omega
                case rel =>
                  refine ⟨p + m, K - 1, false, rfl, rfl, by omega, rfl, by omega, Lib.hid ?_, HB1⟩
                  have := endL_yes (okName true isMore) (okName true isMore) (K - 1) _ r m HD.out HNO.out
                  rw [show K - 1 + 1 = K by omega, List.drop_drop] at this
                  rw [HE2.out, this]
                  show _ = p + m + endL (okName true isMore) (okName true isMore) (K - 1) (l.drop (p + m))
                  omega
    · obtain rfl : p = n := by omega
      go_wp2
      go_ret
      refine ⟨?_, HB.out⟩
      rw [HE.out, List.drop_of_length_le (by rw [hln.out]; exact Nat.le_refl _), endL_none _ _ _ _ (by rfl)]
      rfl
end Go.Proofs.YtocbofeanfdggaaDoor
/- The document's names: read. -/
namespace Go.Proofs.YtocbofeanfdggaaDoor
open Go.ChangeShapes Go.WideShapes Go.ChangeAt Go.RowKit
set_option linter.unusedVariables false
theorem okTrue (f : Int → Bool) : okName true f = noColon f := by funext r; simp [okName]
end Go.Proofs.YtocbofeanfdggaaDoor
/- The document's references by a mark. -/
namespace Go.Proofs.YtocbofeanfdggaaDoor
open Go.ChangeShapes Go.WideShapes Go.ChangeAt Go.RowKit
set_option linter.unusedVariables false
end Go.Proofs.YtocbofeanfdggaaDoor
/- References to entities at any place. -/
namespace Go.Proofs.YtocbofeanfdggaaDoor
open Go.ChangeShapes Go.WideShapes Go.ChangeAt Go.RowKit
set_option linter.unusedVariables false
end Go.Proofs.YtocbofeanfdggaaDoor
/- Digits. -/
namespace Go.Proofs.YtocbofeanfdggaaDoor
open Go.ChangeShapes Go.WideShapes Go.ChangeAt Go.RowKit
set_option linter.unusedVariables false
end Go.Proofs.YtocbofeanfdggaaDoor
/- Numbers in references to characters: plain law. -/
namespace Go.Proofs.YtocbofeanfdggaaDoor
open Go.ChangeShapes Go.WideShapes Go.ChangeAt Go.RowKit
set_option linter.unusedVariables false
end Go.Proofs.YtocbofeanfdggaaDoor
/- Quotes and references in texts: plain law. -/
namespace Go.Proofs.YtocbofeanfdggaaDoor
open Go.ChangeShapes Go.WideShapes Go.ChangeAt Go.RowKit
set_option linter.unusedVariables false
theorem ix_lo (c : UInt8) : ∀ r : List UInt8, -1 ≤ Lib.indexByte r c ∧ Lib.indexByte r c < r.length
  | [] => by simp [Lib.indexByte]
  | x :: r => by
    have := ix_lo c r
    simp only [Lib.indexByte, List.length_cons]
    split
    · omega
    · split <;> omega
theorem ix_at (c : UInt8) : ∀ r : List UInt8, 0 ≤ Lib.indexByte r c → r[(Lib.indexByte r c).toNat]? = some c ∧ ∀ j : Nat, (j : Int) < Lib.indexByte r c → r[j]? ≠ some c
  | [], h => by simp [Lib.indexByte] at h
  | x :: r, h => by
    by_cases hx : x = c
    · subst hx
      simp [Lib.indexByte]
      intro j hj; omega
    · have e : Lib.indexByte (x :: r) c = if Lib.indexByte r c == -1 then -1 else Lib.indexByte r c + 1 := by simp [Lib.indexByte, hx]
      rw [e] at h ⊢
      split at h
      · omega
      · rename_i h1
        rw [if_neg h1] at *
        have hlo := (ix_lo c r).1
        have h2 : 0 ≤ Lib.indexByte r c := by
          have : ¬ Lib.indexByte r c = -1 := by simpa using h1
          omega
        obtain ⟨a, b⟩ := ix_at c r h2
        refine ⟨?_, ?_⟩
        · rw [show (Lib.indexByte r c + 1).toNat = (Lib.indexByte r c).toNat + 1 by omega]
          simpa using a
        · intro j hj
          cases j with
          | zero => simpa using hx
          | succ j => simpa using b j (by omega)
theorem ix_none (c : UInt8) : ∀ r : List UInt8, Lib.indexByte r c < 0 → ∀ j : Nat, r[j]? ≠ some c
  | [], _ => by simp
  | x :: r, h => by
    by_cases hx : x = c
    · subst hx; simp [Lib.indexByte] at h
    · have e : Lib.indexByte (x :: r) c = if Lib.indexByte r c == -1 then -1 else Lib.indexByte r c + 1 := by simp [Lib.indexByte, hx]
      rw [e] at h
      have hlo := (ix_lo c r).1
      split at h
      · rename_i h1
        intro j
        cases j with
        | zero => simpa using hx
        | succ j => simpa using ix_none c r (by have : Lib.indexByte r c = -1 := by simpa using h1
                                                omega) j
      · rename_i h1
        have : ¬ Lib.indexByte r c = -1 := by simpa using h1
        omega
/-- The first place is the one that has the byte and none ahead of it. -/
theorem ix_eq (c : UInt8) (r : List UInt8) (j : Nat) (h : r[j]? = some c) (hn : ∀ i < j, r[i]? ≠ some c) : Lib.indexByte r c = j := by
  rcases Int.lt_or_le (Lib.indexByte r c) 0 with h0 | h0
  · exact absurd h (ix_none c r h0 j)
  · obtain ⟨a, b⟩ := ix_at c r h0
    rcases Nat.lt_trichotomy (Lib.indexByte r c).toNat j with h1 | h1 | h1
    · exact absurd a (hn _ h1)
    · omega
    · exact absurd h (b j (by omega))
theorem ix_eq_none (c : UInt8) (r : List UInt8) (hn : ∀ i : Nat, r[i]? ≠ some c) : Lib.indexByte r c = -1 := by
  rcases Int.lt_or_le (Lib.indexByte r c) 0 with h0 | h0
  · have := (ix_lo c r).1; omega
  · exact absurd (ix_at c r h0).1 (hn _)
end Go.Proofs.YtocbofeanfdggaaDoor
