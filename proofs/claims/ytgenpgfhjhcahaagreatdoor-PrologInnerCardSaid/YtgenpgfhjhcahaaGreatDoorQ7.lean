/- Texts of ours, joined: Ref7, Ref8, Ref9, Cref2, Dig, Num, LitP, Pub, Blank, Fold. -/
import Derived.Test.YtgenpgfhjhcahaaGreatDoorRows
import Derived.WalkKit
import Derived.ProofKit
import Derived.OpenShut
import Derived.ShutString
import Derived.ChangeOld
import Derived.Below
import Derived.BigQuiet
import Derived.Deep.QuietTactic
import Derived.Lib.Hide
import Derived.Deep.RegionHeld3
import Derived.Lib.SlBytesConst
import Derived.Laws.CopyOwn
import Derived.Laws.CopyRow
import Derived.Lib.Bytes
import Derived.Deep.LoopGhost
import Derived.Deep.DeepFit
import Derived.Deep.DeepMust
import Derived.WalkSpells
import Derived.WalkLawsBesides
import Derived.Laws.EntriesVeiled
import Derived.Laws.Rows
import Derived.Test.YtgenpgfhjhcahaaGreatDoorQ1
import Derived.Test.YtgenpgfhjhcahaaGreatDoorQ2
import Derived.Test.YtgenpgfhjhcahaaGreatDoorQ3
import Derived.Test.YtgenpgfhjhcahaaGreatDoorQ4
import Derived.Test.YtgenpgfhjhcahaaGreatDoorQ5
import Derived.Test.YtgenpgfhjhcahaaGreatDoorQ6
import Derived.Lib.Fold
import Derived.ScopeJumps
import Derived.Outline
import Derived.WalkMore
import Derived.Laws.RangeAny
import Derived.Lib.FieldsLaws
import Derived.Lib.Walk
import Derived.Lib.Strings
import Derived.Laws.Strings3
import Derived.Laws.BitsAllLaws
/- The document's names: the end. -/
namespace Go.Proofs.YtgenpgfhjhcahaaGreatDoor
open Go.ChangeShapes Go.WideShapes Go.ChangeAt Go.RowKit
set_option linter.unusedVariables false
/-- What may stand in a name, or in a plain one. -/
def okName (pl : Bool) (f : Int → Bool) (r : Int) : Bool := if pl then noColon f r else f r
set_option maxRecDepth 100000 in
set_option maxHeartbeats 8000000 in
theorem refEnd_c (pl : Bool) (A : Option Addr) (n cap : Nat) (l : List UInt8) (at_ : Nat) (w : World) (h : Byt w w.heap.size A n cap l) (hm : n ≤ 50000) (hat : at_ ≤ n) :
    Calls Tryz.prog 56 #[.slice A n cap, .int .i64 at_, .bool pl] w fun e w' => e = .returned (.int .i64 ((at_ + endL (okName pl isStart) (okName pl isMore) n (l.drop at_) : Nat))) ∧ Below w.heap.size w w' := by
  have HB0 := Lib.hid h
  have hln := Lib.hid h.length
  have HM := Lib.hid hm
  clear h
  go_enter Tryz.func56, Tryz.ntmps56
  go_wp2
  go_loopg [1, 7] (n - at_) (fun kx s1 s7 wr => ∃ (p K : Nat) (first : Bool), s1 = .int .i64 p ∧ s7 = .bool first ∧ p ≤ n ∧ kx = n - p ∧ n - p ≤ K ∧
    Hid (at_ + endL (okName pl isStart) (okName pl isMore) n (l.drop at_) = p + endL (okName pl (if first then isStart else isMore)) (okName pl isMore) K (l.drop p)) ∧ Hid (Below w.heap.size w wr))
  case atStart => exact ⟨at_, n, true, rfl, rfl, hat, rfl, by omega, Lib.hid rfl, Lib.hid (Below.refl _ _)⟩
  case round =>
    obtain ⟨p, K, first, rfl, rfl, hp, hk, hK, HE, HB⟩ := hrel
    by_cases hlt : p < n
    · have hlt' : (p : Int) < (n : Int) := by omega
      have hd := refDec_c A n cap l p wr w.heap.size (HB0.out.below HB.out) hlt hm
      cases hdec : dec (l.drop p) with
      | none =>
        rw [hdec] at hd
        have HD := Lib.hid hdec
        clear hdec
        cases first with
        | true =>
          go_wp2_with fail
          refine hd.mono ?_
          rintro e w1 ⟨rfl, hb1⟩
          have HB1 := Lib.hid (HB.out.trans (hb1.mono HB.out.size))
          clear hb1
          simp only [pairV]
          go_wp2_with fail
          refine (refMore_c _ _).mono ?_
          rintro e w2 ⟨rfl, rfl⟩
          go_wp2_with fail
          refine (refStart_c _ _).mono ?_
          rintro e w2 ⟨rfl, rfl⟩
          go_wp2
          go_ret
          exact ⟨by rw [HE.out, endL_none _ _ _ _ HD.out]; rfl, HB1.out⟩
        | false =>
          go_wp2_with fail
          refine hd.mono ?_
          rintro e w1 ⟨rfl, hb1⟩
          have HB1 := Lib.hid (HB.out.trans (hb1.mono HB.out.size))
          clear hb1
          simp only [pairV]
          go_wp2_with fail
          refine (refMore_c _ _).mono ?_
          rintro e w2 ⟨rfl, rfl⟩
          go_wp2
          go_ret
          exact ⟨by rw [HE.out, endL_none _ _ _ _ HD.out]; rfl, HB1.out⟩
      | some v =>
        obtain ⟨r, m⟩ := v
        rw [hdec] at hd
        have hle := dec_le _ r m hdec
        rw [List.length_drop, hln.out] at hle
        have HD := Lib.hid hdec
        clear hdec
        have hmz : ((m : Int) == 0) = false := by simp; omega
        cases first with
        | true =>
          have HE2 : Hid (at_ + endL (okName pl isStart) (okName pl isMore) n (l.drop at_) = p + endL (okName pl isStart) (okName pl isMore) K (l.drop p)) := Lib.hid (by simpa using HE.out)
          cases hf : isStart r with
          | false =>
            have HNO : Hid (okName pl isStart r = false) := Lib.hid (by unfold okName noColon; rw [hf]; simp)
            have hcs : ∀ w0 : World, Calls Tryz.prog 85 #[.int .i64 (r : Int)] w0 fun e w' => e = .returned (.bool false) ∧ w0 = w' := fun w0 => by
              have := refStart_c (r : Int) w0
              rwa [hf] at this
            clear hf
            go_wp2_with fail
            refine hd.mono ?_
            rintro e w1 ⟨rfl, hb1⟩
            have HB1 := Lib.hid (HB.out.trans (hb1.mono HB.out.size))
            clear hb1
            simp only [pairV]
            go_wp2_with fail
            refine (refMore_c _ _).mono ?_
            rintro e w2 ⟨rfl, rfl⟩
            go_wp2_with fail
            refine (hcs _).mono ?_
            rintro e w2 ⟨rfl, rfl⟩
            go_wp2
            go_ret
            exact ⟨by rw [HE2.out, endL_no _ _ _ _ _ _ HD.out HNO.out]; rfl, HB1.out⟩
          | true =>
            have hcs : ∀ w0 : World, Calls Tryz.prog 85 #[.int .i64 (r : Int)] w0 fun e w' => e = .returned (.bool true) ∧ w0 = w' := fun w0 => by
              have := refStart_c (r : Int) w0
              rwa [hf] at this
            cases pl with
            | false =>
              have HNO : Hid (okName false isStart r = true) := Lib.hid hf
              clear hf
              go_wp2_with fail
              refine hd.mono ?_
              rintro e w1 ⟨rfl, hb1⟩
              have HB1 := Lib.hid (HB.out.trans (hb1.mono HB.out.size))
              clear hb1
              simp only [pairV]
              go_wp2_with fail
              refine (refMore_c _ _).mono ?_
              rintro e w2 ⟨rfl, rfl⟩
              go_wp2_with fail
              refine (hcs _).mono ?_
              rintro e w2 ⟨rfl, rfl⟩
              go_wp2
              go_roundg (n - (p + m))
              case measure => omega
              case rel =>
                refine ⟨p + m, K - 1, false, rfl, rfl, by omega, rfl, by omega, Lib.hid ?_, HB1⟩
                have := endL_yes (okName false isStart) (okName false isMore) (K - 1) _ r m HD.out HNO.out
                rw [show K - 1 + 1 = K by omega, List.drop_drop] at this
                rw [HE2.out, this]
                show _ = p + m + endL (okName false isMore) (okName false isMore) (K - 1) (l.drop (p + m))
                omega
            | true =>
              by_cases h58 : r = 58
              · subst h58
                have HNO : Hid (okName true isStart (58 : Nat) = false) := Lib.hid (by unfold okName noColon; simp)
                clear hf
                go_wp2_with fail
                refine hd.mono ?_
                rintro e w1 ⟨rfl, hb1⟩
                have HB1 := Lib.hid (HB.out.trans (hb1.mono HB.out.size))
                clear hb1
                simp only [pairV]
                go_wp2_with fail
                refine (refMore_c _ _).mono ?_
                rintro e w2 ⟨rfl, rfl⟩
                go_wp2_with fail
                refine (hcs _).mono ?_
                rintro e w2 ⟨rfl, rfl⟩
                go_wp2
                go_ret
                exact ⟨by rw [HE2.out, endL_no _ _ _ _ _ _ HD.out HNO.out]; rfl, HB1.out⟩
              · have h5 : ((r : Int) == 58) = false := by simp; omega
                have HNO : Hid (okName true isStart r = true) := Lib.hid (by unfold okName noColon; rw [hf]; simp; omega)
                clear hf
                go_wp2_with fail
                refine hd.mono ?_
                rintro e w1 ⟨rfl, hb1⟩
                have HB1 := Lib.hid (HB.out.trans (hb1.mono HB.out.size))
                clear hb1
                simp only [pairV]
                go_wp2_with fail
                refine (refMore_c _ _).mono ?_
                rintro e w2 ⟨rfl, rfl⟩
                go_wp2_with fail
                refine (hcs _).mono ?_
                rintro e w2 ⟨rfl, rfl⟩
                go_wp2
                go_roundg (n - (p + m))
                case measure => omega
                case rel =>
                  refine ⟨p + m, K - 1, false, rfl, rfl, by omega, rfl, by omega, Lib.hid ?_, HB1⟩
                  have := endL_yes (okName true isStart) (okName true isMore) (K - 1) _ r m HD.out HNO.out
                  rw [show K - 1 + 1 = K by omega, List.drop_drop] at this
                  rw [HE2.out, this]
                  show _ = p + m + endL (okName true isMore) (okName true isMore) (K - 1) (l.drop (p + m))
                  omega
        | false =>
          have HE2 : Hid (at_ + endL (okName pl isStart) (okName pl isMore) n (l.drop at_) = p + endL (okName pl isMore) (okName pl isMore) K (l.drop p)) := Lib.hid (by simpa using HE.out)
          cases hf : isMore r with
          | false =>
            have HNO : Hid (okName pl isMore r = false) := Lib.hid (by unfold okName noColon; rw [hf]; simp)
            have hcs : ∀ w0 : World, Calls Tryz.prog 84 #[.int .i64 (r : Int)] w0 fun e w' => e = .returned (.bool false) ∧ w0 = w' := fun w0 => by
              have := refMore_c (r : Int) w0
              rwa [hf] at this
            clear hf
            go_wp2_with fail
            refine hd.mono ?_
            rintro e w1 ⟨rfl, hb1⟩
            have HB1 := Lib.hid (HB.out.trans (hb1.mono HB.out.size))
            clear hb1
            simp only [pairV]
            go_wp2_with fail
            refine (hcs _).mono ?_
            rintro e w2 ⟨rfl, rfl⟩
            go_wp2
            go_ret
            exact ⟨by rw [HE2.out, endL_no _ _ _ _ _ _ HD.out HNO.out]; rfl, HB1.out⟩
          | true =>
            have hcs : ∀ w0 : World, Calls Tryz.prog 84 #[.int .i64 (r : Int)] w0 fun e w' => e = .returned (.bool true) ∧ w0 = w' := fun w0 => by
              have := refMore_c (r : Int) w0
              rwa [hf] at this
            cases pl with
            | false =>
              have HNO : Hid (okName false isMore r = true) := Lib.hid hf
              clear hf
              go_wp2_with fail
              refine hd.mono ?_
              rintro e w1 ⟨rfl, hb1⟩
              have HB1 := Lib.hid (HB.out.trans (hb1.mono HB.out.size))
              clear hb1
              simp only [pairV]
              go_wp2_with fail
              refine (hcs _).mono ?_
              rintro e w2 ⟨rfl, rfl⟩
              go_wp2
              go_roundg (n - (p + m))
              case measure => omega
              case rel =>
                refine ⟨p + m, K - 1, false, rfl, rfl, by omega, rfl, by omega, Lib.hid ?_, HB1⟩
                have := endL_yes (okName false isMore) (okName false isMore) (K - 1) _ r m HD.out HNO.out
                rw [show K - 1 + 1 = K by omega, List.drop_drop] at this
                rw [HE2.out, this]
                show _ = p + m + endL (okName false isMore) (okName false isMore) (K - 1) (l.drop (p + m))
                omega
            | true =>
              by_cases h58 : r = 58
              · subst h58
                have HNO : Hid (okName true isMore (58 : Nat) = false) := Lib.hid (by unfold okName noColon; simp)
                clear hf
                go_wp2_with fail
                refine hd.mono ?_
                rintro e w1 ⟨rfl, hb1⟩
                have HB1 := Lib.hid (HB.out.trans (hb1.mono HB.out.size))
                clear hb1
                simp only [pairV]
                go_wp2_with fail
                refine (hcs _).mono ?_
                rintro e w2 ⟨rfl, rfl⟩
                go_wp2
                go_ret
                exact ⟨by rw [HE2.out, endL_no _ _ _ _ _ _ HD.out HNO.out]; rfl, HB1.out⟩
              · have h5 : ((r : Int) == 58) = false := by simp; omega
                have HNO : Hid (okName true isMore r = true) := Lib.hid (by unfold okName noColon; rw [hf]; simp; omega)
                clear hf
                go_wp2_with fail
                refine hd.mono ?_
                rintro e w1 ⟨rfl, hb1⟩
                have HB1 := Lib.hid (HB.out.trans (hb1.mono HB.out.size))
                clear hb1
                simp only [pairV]
                go_wp2_with fail
                refine (hcs _).mono ?_
                rintro e w2 ⟨rfl, rfl⟩
                go_wp2
                go_roundg (n - (p + m))
                case measure => omega
                case rel =>
                  refine ⟨p + m, K - 1, false, rfl, rfl, by omega, rfl, by omega, Lib.hid ?_, HB1⟩
                  have := endL_yes (okName true isMore) (okName true isMore) (K - 1) _ r m HD.out HNO.out
                  rw [show K - 1 + 1 = K by omega, List.drop_drop] at this
                  rw [HE2.out, this]
                  show _ = p + m + endL (okName true isMore) (okName true isMore) (K - 1) (l.drop (p + m))
                  omega
    · obtain rfl : p = n := by omega
      go_wp2
      go_ret
      refine ⟨?_, HB.out⟩
      rw [HE.out, List.drop_of_length_le (by rw [hln.out]; exact Nat.le_refl _), endL_none _ _ _ _ (by rfl)]
      rfl
end Go.Proofs.YtgenpgfhjhcahaaGreatDoor
/- The document's names: read. -/
namespace Go.Proofs.YtgenpgfhjhcahaaGreatDoor
open Go.ChangeShapes Go.WideShapes Go.ChangeAt Go.RowKit
set_option linter.unusedVariables false
theorem okTrue (f : Int → Bool) : okName true f = noColon f := by funext r; simp [okName]
set_option maxRecDepth 100000 in
set_option maxHeartbeats 2000000 in
theorem refRead_c (A : Option Addr) (n cap : Nat) (l : List UInt8) (at_ : Nat) (w : World) (h : Byt w w.heap.size A n cap l) (hm : n ≤ 50000) (hat : at_ ≤ n) :
    Calls Tryz.prog 35 #[.slice A n cap, .int .i64 at_, .bool true] w fun e w' => e = .returned (outV (plainOut l at_)) ∧ Below w.heap.size w w' := by
  have hln := h.length
  have hend := refEnd_c true A n cap l at_ w h hm hat
  rw [okTrue, okTrue] at hend
  have hkl : at_ + endL (noColon isStart) (noColon isMore) n (l.drop at_) ≤ n := by
    have := endL_le n (noColon isStart) (noColon isMore) (l.drop at_)
    rw [List.length_drop, hln] at this
    omega
  have HB := Lib.hid h
  have HE : Hid (endL (noColon isStart) (noColon isMore) l.length (l.drop at_) = endL (noColon isStart) (noColon isMore) n (l.drop at_)) := Lib.hid (by rw [hln])
  clear h hln
  unfold plainOut
  simp only [HE.out]
  generalize endL (noColon isStart) (noColon isMore) n (l.drop at_) = k at *
  have hat' : ¬ (n : Int) < (at_ : Int) := by omega
  have HM := Lib.hid (And.intro hm hat)
  have HN := Lib.hid hend
  clear hm hend
  generalize hres : (if k = 0 then ([], 0, 7) else if 1024 < k then ([], 0, 11) else ((l.drop at_).take k, at_ + k, 0)) = res
  have HR := Lib.hid hres
  clear hres
  go_enter Tryz.func35, Tryz.ntmps35
  go_wp2_with fail
  refine HN.out.mono ?_
  rintro e w1 ⟨rfl, hb1⟩
  have HB1 := Lib.hid hb1
  clear hb1
  rcases (show k = 0 ∨ 1024 < k ∨ (0 < k ∧ k ≤ 1024) by omega) with h0 | h0 | h0
  · subst h0
    have hre := HR.out
    simp only [if_true] at hre
    subst hre
    go_wp2
    go_ret3
    exact ⟨rfl, HB1.out⟩
  · have hre := HR.out
    rw [if_neg (by omega), if_pos h0] at hre
    subst hre
    have hne : (((at_ + k : Nat) : Int) == (at_ : Int)) = false := by simp; omega
    have hne2 : ((at_ : Int) + (k : Int) == (at_ : Int)) = false := by simp; omega
    have h0' : (1024 : Int) < (k : Int) := by omega
    have hsb : ((at_ : Int) + (k : Int)) - (at_ : Int) = (k : Int) := by omega
    have hw : IntKind.i64.wrap (k : Int) = (k : Int) := by rw [IntKind.wrap_i64]; have := HM.out; omega
    go_wp2
    go_ret3
    exact ⟨rfl, HB1.out⟩
  · have hre := HR.out
    rw [if_neg (by omega), if_neg (by omega)] at hre
    subst hre
    have hne : (((at_ + k : Nat) : Int) == (at_ : Int)) = false := by simp; omega
    have hne2 : ((at_ : Int) + (k : Int) == (at_ : Int)) = false := by simp; omega
    have h0' : ¬ (1024 : Int) < (k : Int) := by omega
    have hsb : ((at_ : Int) + (k : Int)) - (at_ : Int) = (k : Int) := by omega
    have hw : IntKind.i64.wrap (k : Int) = (k : Int) := by rw [IntKind.wrap_i64]; have := HM.out; omega
    have hy := ((HB.out.below HB1.out).drop hat).take (k := k) (by omega)
    have hstr := hy.str
    have hcap := HB.out.le
    have hrf : ∀ w2 : World, (Instr.slice 22 (.slice A n cap) (some (.int .i64 (at_ : Int))) (some (.int .i64 ((at_ : Int) + (k : Int)))) none).run Tryz.prog w2 = .ok (.slice (cutA A cap at_) k (cap - at_)) w2 := fun w2 => by
      have := run_fromTo (w := w2) A n cap at_ (at_ + k) (by omega) (by omega)
      rw [show at_ + k - at_ = k by omega, show ((at_ + k : Nat) : Int) = (at_ : Int) + (k : Int) by omega] at this
      exact this
    have HY := Lib.hid hy
    clear hy hcap h0
    go_wp2
    go_ret3
    exact ⟨rfl, HB1.out⟩
end Go.Proofs.YtgenpgfhjhcahaaGreatDoor
/- The document's references by a mark. -/
namespace Go.Proofs.YtgenpgfhjhcahaaGreatDoor
open Go.ChangeShapes Go.WideShapes Go.ChangeAt Go.RowKit
set_option linter.unusedVariables false
end Go.Proofs.YtgenpgfhjhcahaaGreatDoor
/- References to entities at any place. -/
namespace Go.Proofs.YtgenpgfhjhcahaaGreatDoor
open Go.ChangeShapes Go.WideShapes Go.ChangeAt Go.RowKit
set_option linter.unusedVariables false
end Go.Proofs.YtgenpgfhjhcahaaGreatDoor
/- Digits. -/
namespace Go.Proofs.YtgenpgfhjhcahaaGreatDoor
open Go.ChangeShapes Go.WideShapes Go.ChangeAt Go.RowKit
set_option linter.unusedVariables false
end Go.Proofs.YtgenpgfhjhcahaaGreatDoor
/- Numbers in references to characters: plain law. -/
namespace Go.Proofs.YtgenpgfhjhcahaaGreatDoor
open Go.ChangeShapes Go.WideShapes Go.ChangeAt Go.RowKit
set_option linter.unusedVariables false
end Go.Proofs.YtgenpgfhjhcahaaGreatDoor
/- Quotes and references in texts: plain law. -/
namespace Go.Proofs.YtgenpgfhjhcahaaGreatDoor
open Go.ChangeShapes Go.WideShapes Go.ChangeAt Go.RowKit
set_option linter.unusedVariables false
theorem ix_lo (c : UInt8) : ∀ r : List UInt8, -1 ≤ Lib.indexByte r c ∧ Lib.indexByte r c < r.length
  | [] => by simp [Lib.indexByte]
  | x :: r => by
    have := ix_lo c r
    simp only [Lib.indexByte, List.length_cons]
    split
    · omega
    · split <;> omega
/-- What stands between quotes at a place: the text, the place behind, the fault. -/
def quotedQ (q : UInt8) (l : List UInt8) (k : Nat) : List UInt8 × Nat × Nat :=
  if Lib.indexByte (l.drop (k + 1)) q < 0 then ([], 0, 7) else ((l.drop (k + 1)).take (Lib.indexByte (l.drop (k + 1)) q).toNat, k + (Lib.indexByte (l.drop (k + 1)) q).toNat + 2, 0)
def quotedOut (l : List UInt8) (k : Nat) : List UInt8 × Nat × Nat :=
  match l[k]? with
  | none => ([], 0, 7)
  | some q => if q = 34 ∨ q = 39 then quotedQ q l k else ([], 0, 7)
def quotedAt (l : List UInt8) (at_ : Int) : List UInt8 × Nat × Nat := if at_ < 0 ∨ (l.length : Int) < at_ then ([], 0, 3) else quotedOut l at_.toNat
end Go.Proofs.YtgenpgfhjhcahaaGreatDoor
/- Characters of public identifiers; classes. -/
namespace Go.Proofs.YtgenpgfhjhcahaaGreatDoor
open Go.ChangeShapes Go.WideShapes Go.ChangeAt Go.RowKit
set_option linter.unusedVariables false
/-- The signs of a public identifier. -/
def signs : List UInt8 := [45, 39, 40, 41, 43, 44, 46, 47, 58, 61, 63, 59, 33, 42, 35, 64, 36, 95, 37]
def isBlank (r : Int) : Bool := r == 32 || r == 9 || r == 13 || r == 10
set_option maxRecDepth 100000 in
set_option maxHeartbeats 4000000 in
theorem refBlank_c (r : Int) (w : World) : Calls Tryz.prog 33 #[.int .i64 r] w fun e w' => e = .returned (.bool (isBlank r)) ∧ w = w' := by
  rcases (show (r = 32) ∨ (r = 9) ∨ (r = 13) ∨ (r = 10) ∨ (r ≤ 8) ∨ (11 ≤ r ∧ r ≤ 12) ∨ (14 ≤ r ∧ r ≤ 31) ∨ (33 ≤ r) by omega) with h | h | h | h | h | h | h | h
  · have a0 : (r == 32) = true := by simp; omega
    have a1 : (r == 9) = false := by simp; omega
    have a2 : (r == 13) = false := by simp; omega
    have a3 : (r == 10) = false := by simp; omega
    have e : isBlank r = true := by unfold isBlank; rw [a0, a1, a2, a3]; rfl
    rw [e]
    clear e h
    go_enter Tryz.func33, Tryz.ntmps33
    go_wp2
    go_ret
    exact ⟨rfl, rfl⟩
  · have a0 : (r == 32) = false := by simp; omega
    have a1 : (r == 9) = true := by simp; omega
    have a2 : (r == 13) = false := by simp; omega
    have a3 : (r == 10) = false := by simp; omega
    have e : isBlank r = true := by unfold isBlank; rw [a0, a1, a2, a3]; rfl
    rw [e]
    clear e h
    go_enter Tryz.func33, Tryz.ntmps33
    go_wp2
    go_ret
    exact ⟨rfl, rfl⟩
  · have a0 : (r == 32) = false := by simp; omega
    have a1 : (r == 9) = false := by simp; omega
    have a2 : (r == 13) = true := by simp; omega
    have a3 : (r == 10) = false := by simp; omega
    have e : isBlank r = true := by unfold isBlank; rw [a0, a1, a2, a3]; rfl
    rw [e]
    clear e h
    go_enter Tryz.func33, Tryz.ntmps33
    go_wp2
    go_ret
    exact ⟨rfl, rfl⟩
  · have a0 : (r == 32) = false := by simp; omega
    have a1 : (r == 9) = false := by simp; omega
    have a2 : (r == 13) = false := by simp; omega
    have a3 : (r == 10) = true := by simp; omega
    have e : isBlank r = true := by unfold isBlank; rw [a0, a1, a2, a3]; rfl
    rw [e]
    clear e h
    go_enter Tryz.func33, Tryz.ntmps33
    go_wp2
    go_ret
    exact ⟨rfl, rfl⟩
  · have a0 : (r == 32) = false := by simp; omega
    have a1 : (r == 9) = false := by simp; omega
    have a2 : (r == 13) = false := by simp; omega
    have a3 : (r == 10) = false := by simp; omega
    have e : isBlank r = false := by unfold isBlank; rw [a0, a1, a2, a3]; rfl
    rw [e]
    clear e h
    go_enter Tryz.func33, Tryz.ntmps33
    go_wp2
    go_ret
    exact ⟨rfl, rfl⟩
  · have a0 : (r == 32) = false := by simp; omega
    have a1 : (r == 9) = false := by simp; omega
    have a2 : (r == 13) = false := by simp; omega
    have a3 : (r == 10) = false := by simp; omega
    have e : isBlank r = false := by unfold isBlank; rw [a0, a1, a2, a3]; rfl
    rw [e]
    clear e h
    go_enter Tryz.func33, Tryz.ntmps33
    go_wp2
    go_ret
    exact ⟨rfl, rfl⟩
  · have a0 : (r == 32) = false := by simp; omega
    have a1 : (r == 9) = false := by simp; omega
    have a2 : (r == 13) = false := by simp; omega
    have a3 : (r == 10) = false := by simp; omega
    have e : isBlank r = false := by unfold isBlank; rw [a0, a1, a2, a3]; rfl
    rw [e]
    clear e h
    go_enter Tryz.func33, Tryz.ntmps33
    go_wp2
    go_ret
    exact ⟨rfl, rfl⟩
  · have a0 : (r == 32) = false := by simp; omega
    have a1 : (r == 9) = false := by simp; omega
    have a2 : (r == 13) = false := by simp; omega
    have a3 : (r == 10) = false := by simp; omega
    have e : isBlank r = false := by unfold isBlank; rw [a0, a1, a2, a3]; rfl
    rw [e]
    clear e h
    go_enter Tryz.func33, Tryz.ntmps33
    go_wp2
    go_ret
    exact ⟨rfl, rfl⟩
end Go.Proofs.YtgenpgfhjhcahaaGreatDoor
/- Blanks. -/
namespace Go.Proofs.YtgenpgfhjhcahaaGreatDoor
open Go.ChangeShapes Go.WideShapes Go.ChangeAt Go.RowKit
set_option linter.unusedVariables false
def isBl (c : UInt8) : Bool := isBlank (c.toNat : Int)
/-- The first place from k on without a blank. -/
def blankTo (l : List UInt8) (k : Nat) : Nat := k + ((l.drop k).takeWhile isBl).length
theorem blankTo_le (l : List UInt8) (k : Nat) (hk : k ≤ l.length) : k ≤ blankTo l k ∧ blankTo l k ≤ l.length := by
  unfold blankTo
  have := (List.takeWhile_prefix (p := isBl) (l := l.drop k)).length_le
  rw [List.length_drop] at this
  omega
theorem blankTo_end (l : List UInt8) (k : Nat) (hk : l.length ≤ k) : blankTo l k = k := by
  unfold blankTo
  rw [List.drop_of_length_le hk]
  rfl
theorem drop_cons (l : List UInt8) (k : Nat) (c : UInt8) (h : l[k]? = some c) : l.drop k = c :: l.drop (k + 1) := by
  obtain ⟨hk, hc⟩ := List.getElem?_eq_some_iff.1 h
  rw [List.drop_eq_getElem_cons hk, hc]
theorem blankTo_no (l : List UInt8) (k : Nat) (c : UInt8) (h : l[k]? = some c) (hc : isBl c = false) : blankTo l k = k := by
  unfold blankTo
  rw [drop_cons l k c h, List.takeWhile_cons, hc]
  rfl
theorem blankTo_yes (l : List UInt8) (k : Nat) (c : UInt8) (h : l[k]? = some c) (hc : isBl c = true) : blankTo l k = blankTo l (k + 1) := by
  unfold blankTo
  rw [drop_cons l k c h, List.takeWhile_cons, hc]
  simp
  omega
set_option maxRecDepth 100000 in
set_option maxHeartbeats 4000000 in
theorem blank_c (r : Int) (w : World) : Calls Tryz.prog 32 #[.int .i64 r] w fun e w' => e = .returned (.bool (isBlank r)) ∧ w = w' := by
  rcases (show (r = 32) ∨ (r = 9) ∨ (r = 13) ∨ (r = 10) ∨ (r ≠ 32 ∧ r ≠ 9 ∧ r ≠ 13 ∧ r ≠ 10) by omega) with h | h | h | h | h
  all_goals
    first
    | (subst h
       go_enter Tryz.func32, Tryz.ntmps32
       go_wp2
       go_ret
       exact ⟨rfl, rfl⟩)
    | (have a0 : (r == 32) = false := by simp; omega
       have a1 : (r == 9) = false := by simp; omega
       have a2 : (r == 13) = false := by simp; omega
       have a3 : (r == 10) = false := by simp; omega
       have e : isBlank r = false := by unfold isBlank; rw [a0, a1, a2, a3]; rfl
       rw [e]
       clear e h
       go_enter Tryz.func32, Tryz.ntmps32
       go_wp2
       go_ret
       exact ⟨rfl, rfl⟩)
set_option maxRecDepth 100000 in
set_option maxHeartbeats 4000000 in
theorem blanks_c (A : Option Addr) (n cap : Nat) (l : List UInt8) (at_ : Nat) (B : Nat) (w : World) (h : Byt w B A n cap l) (hm : n ≤ 1000000) (hat : at_ ≤ n) :
    Calls Tryz.prog 13 #[.slice A n cap, .int .i64 at_] w fun e w' => e = .returned (.int .i64 (blankTo l at_)) ∧ w = w' := by
  have HB := Lib.hid h
  have hln := Lib.hid h.length
  clear h
  go_enter Tryz.func13, Tryz.ntmps13
  go_wp2
  go_loopg [1] (n - at_) (fun g i wr => ∃ t : Nat, t ≤ n ∧ Hid (g + t = n) ∧ i = .int .i64 (t : Int) ∧ w = wr ∧ Hid (blankTo l at_ = blankTo l t))
  case atStart => exact ⟨at_, hat, Lib.hid (by omega), rfl, rfl, Lib.hid rfl⟩
  case round =>
    obtain ⟨t, ht, hg, rfl, rfl, HN⟩ := hrel
    have ht0 : (0 : Int) ≤ (t : Int) := by omega
    have htb : (t : Int) ≤ 1000000 := by omega
    by_cases htn : t < n
    · have htni : (t : Int) < (n : Int) := by omega
      obtain ⟨b, o, c, rfl, hb, hc, hcell⟩ := HB.out.cell htn
      have HC := Lib.hid hc
      have c0 : (0 : Int) ≤ (c.toNat : Int) := by omega
      have c1 : (c.toNat : Int) ≤ 255 := by have := c.toNat_lt; omega
      clear hc hb
      cases hbl : isBl c with
      | false =>
        have HE : Hid (blankTo l at_ = t) := Lib.hid (by rw [HN.out, blankTo_no l t c HC.out hbl])
        have CB := Lib.hid (blank_c (c.toNat : Int) w)
        unfold isBl at hbl
        rw [hbl] at CB
        clear hbl
        generalize (c.toNat : Int) = cn at *
        go_wp2_with fail
        refine (CB.out).mono ?_
        rintro e wq ⟨rfl, rfl⟩
        go_wp2
        go_ret
        exact ⟨by rw [HE.out]; rfl, rfl⟩
      | true =>
        have HE : Hid (blankTo l at_ = blankTo l (t + 1)) := Lib.hid (by rw [HN.out, blankTo_yes l t c HC.out hbl])
        have CB := Lib.hid (blank_c (c.toNat : Int) w)
        unfold isBl at hbl
        rw [hbl] at CB
        clear hbl
        generalize (c.toNat : Int) = cn at *
        go_wp2_with fail
        refine (CB.out).mono ?_
        rintro e wq ⟨rfl, rfl⟩
        go_wp2
        go_roundg (n - (t + 1))
        case measure => have := hg.out; omega
        case rel => exact ⟨t + 1, by omega, Lib.hid (by omega), by go_num, rfl, HE⟩
    · have htni : ¬ (t : Int) < (n : Int) := by omega
      have HE : Hid (blankTo l at_ = t) := Lib.hid (by rw [HN.out, blankTo_end l t (by rw [hln.out]; omega)])
      go_wp2
      go_ret
      exact ⟨by rw [HE.out]; rfl, rfl⟩
set_option maxRecDepth 100000 in
set_option maxHeartbeats 4000000 in
theorem refBlanks_c (A : Option Addr) (n cap : Nat) (l : List UInt8) (at_ : Nat) (B : Nat) (w : World) (h : Byt w B A n cap l) (hm : n ≤ 1000000) (hat : at_ ≤ n) :
    Calls Tryz.prog 14 #[.slice A n cap, .int .i64 at_] w fun e w' => e = .returned (.int .i64 (blankTo l at_)) ∧ w = w' := by
  have HB := Lib.hid h
  have hln := Lib.hid h.length
  have hat' : ¬ (n : Int) < (at_ : Int) := by omega
  clear h
  go_enter Tryz.func14, Tryz.ntmps14
  go_wp2
  go_loopg [1] (n - at_) (fun g i wr => ∃ t : Nat, t ≤ n ∧ Hid (g + t = n) ∧ i = .int .i64 (t : Int) ∧ w = wr ∧ Hid (blankTo l at_ = blankTo l t))
  case atStart => exact ⟨at_, hat, Lib.hid (by omega), rfl, rfl, Lib.hid rfl⟩
  case round =>
    obtain ⟨t, ht, hg, rfl, rfl, HN⟩ := hrel
    have ht0 : (0 : Int) ≤ (t : Int) := by omega
    have htb : (t : Int) ≤ 1000000 := by omega
    by_cases htn : t < n
    · have htni : (t : Int) < (n : Int) := by omega
      obtain ⟨b, o, c, rfl, hb, hc, hcell⟩ := HB.out.cell htn
      have HC := Lib.hid hc
      have c0 : (0 : Int) ≤ (c.toNat : Int) := by omega
      have c1 : (c.toNat : Int) ≤ 255 := by have := c.toNat_lt; omega
      clear hc hb
      cases hbl : isBl c with
      | false =>
        have HE : Hid (blankTo l at_ = t) := Lib.hid (by rw [HN.out, blankTo_no l t c HC.out hbl])
        have CB := Lib.hid (refBlank_c (c.toNat : Int) w)
        unfold isBl at hbl
        rw [hbl] at CB
        clear hbl
        generalize (c.toNat : Int) = cn at *
        go_wp2_with fail
        refine (CB.out).mono ?_
        rintro e wq ⟨rfl, rfl⟩
        go_wp2
        go_ret
        exact ⟨by rw [HE.out]; rfl, rfl⟩
      | true =>
        have HE : Hid (blankTo l at_ = blankTo l (t + 1)) := Lib.hid (by rw [HN.out, blankTo_yes l t c HC.out hbl])
        have CB := Lib.hid (refBlank_c (c.toNat : Int) w)
        unfold isBl at hbl
        rw [hbl] at CB
        clear hbl
        generalize (c.toNat : Int) = cn at *
        go_wp2_with fail
        refine (CB.out).mono ?_
        rintro e wq ⟨rfl, rfl⟩
        go_wp2
        go_roundg (n - (t + 1))
        case measure => have := hg.out; omega
        case rel => exact ⟨t + 1, by omega, Lib.hid (by omega), by go_num, rfl, HE⟩
    · have htni : ¬ (t : Int) < (n : Int) := by omega
      have HE : Hid (blankTo l at_ = t) := Lib.hid (by rw [HN.out, blankTo_end l t (by rw [hln.out]; omega)])
      go_wp2
      go_ret
      exact ⟨by rw [HE.out]; rfl, rfl⟩
end Go.Proofs.YtgenpgfhjhcahaaGreatDoor
/- strings.EqualFold of what is not ASCII. -/
namespace Go.Proofs.YtgenpgfhjhcahaaGreatDoor
open Go.ChangeShapes Go.WideShapes Go.ChangeAt Go.RowKit
set_option linter.unusedVariables false
theorem foldEq_hi (x y : UInt8) (hy : y.toNat < 128) (hx : 128 ≤ x.toNat) : Lib.foldEq x y = false := by
  unfold Lib.foldEq
  exact decide_eq_false (by omega)
theorem equalFold_hi : ∀ (s t : List UInt8) (j : Nat) (b : UInt8), (∀ c ∈ t, c.toNat < 128) → s[j]? = some b → 128 ≤ b.toNat → Lib.equalFold s t = false
  | [], _, _, _, _, h, _ => by simp at h
  | x :: s, [], _, _, _, _, _ => rfl
  | x :: s, y :: t, 0, b, ht, h, hb => by
    simp at h
    subst h
    exact Lib.equalFold_no _ _ _ _ (foldEq_hi _ _ (ht y (by simp)) hb)
  | x :: s, y :: t, j + 1, b, ht, h, hb => by
    have := equalFold_hi s t j b (fun c hc => ht c (by simp [hc])) (by simpa using h) hb
    simp [Lib.equalFold, this]
/-- Letters that fold to one another and to nothing else, and signs that fold to themselves: of 'xml' and 'utf-8'. -/
def foldPairs : List (Nat × Nat) := [(120, 88), (88, 120), (109, 77), (77, 109), (108, 76), (76, 108), (117, 85), (85, 117), (116, 84), (84, 116), (102, 70), (70, 102), (45, 45), (56, 56)]
def FoldT (w : World) : Prop := ∀ p ∈ foldPairs, w.cell? ⟨2, p.1, none⟩ = some (.int .u16 (p.2 : Int))
theorem FoldT.lt {w : World} (h : FoldT w) : 2 < w.heap.size := World.block_lt_of_cell? w _ (h (120, 88) (by simp [foldPairs]))
theorem FoldT.below {w w' : World} {B : Nat} (h : FoldT w) (hb : Below B w w') (hB : 2 < B) : FoldT w' := fun p hp => by rw [hb.cell hB]; exact h p hp
theorem foldPairs_lt : ∀ p ∈ foldPairs, p.1 < 128 ∧ p.2 < 128 := by decide
set_option maxRecDepth 100000 in
set_option maxHeartbeats 4000000 in
theorem simpleFold_c (r f : Nat) (w : World) (hr : r < 128) (hf : f < 128) (hc : w.cell? ⟨2, r, none⟩ = some (.int .u16 (f : Int))) :
    Calls Tryz.prog 102 #[.int .i32 r] w fun e w' => e = .returned (.int .i32 f) ∧ w = w' := by
  have h0 : ¬ (r : Int) < 0 := by omega
  have h1 : (r : Int) < 128 := by omega
  have h1' : r < 128 := hr
  have h2 : (0 : Int) ≤ (r : Int) := by omega
  have h3 : (0 : Int) ≤ (f : Int) := by omega
  have h4 : (f : Int) < 128 := by omega
  clear hr hf
  go_enter Tryz.func102, Tryz.ntmps102
  go_wp2
  go_ret
  exact ⟨rfl, rfl⟩
theorem run_strFrom (l : List UInt8) (i : Nat) (h : i ≤ l.length) (w : World) :
    (Instr.slice 9 (.string ⟨l.toArray⟩) (some (.int .i64 (i : Int))) none none).run Tryz.prog w = .ok (.string ⟨(l.drop i).toArray⟩) w := by
  have hsz : (⟨l.toArray⟩ : ByteArray).size = l.length := by simp [ByteArray.size]
  rw [run_slice_string_l (P := Tryz.prog) (w := w) (t := 9) (s := ⟨l.toArray⟩) Tryz.underlying9 .i64 (i : Int) (by omega) (by rw [hsz]; omega)]
  congr 2
  refine ByteArray.ext (Array.toList_inj.1 ?_)
  rw [Lib.extract_data]
  rw [hsz]
  exact List.take_of_length_le (by simp)
/-- At the label: the two strings, and the place of the first byte that is not ASCII. -/
def FoldJ (s t : List UInt8) (i0 : Nat) (w : World) (a' : Act) (w' : World) : Prop := w' = w ∧ ∃ u : Nat → Value, u 0 = .string ⟨s.toArray⟩ ∧ u 1 = .string ⟨t.toArray⟩ ∧ u 5 = .int .i64 i0 ∧ a' = { tmps := #[u 0, u 1, u 2, u 3, u 4, u 5, u 6, u 7, u 8, u 9, u 10, u 11, u 12, u 13, u 14, u 15, u 16, u 17, u 18, u 19, u 20, u 21, u 22, u 23, u 24, u 25, u 26, u 27, u 28, u 29, u 30, u 31, u 32, u 33, u 34, u 35, u 36, u 37, u 38, u 39, u 40, u 41, u 42, u 43, u 44, u 45, u 46, u 47, u 48, u 49, u 50, u 51, u 52, u 53, u 54, u 55, u 56, u 57, u 58, u 59, u 60, u 61, u 62, u 63, u 64, u 65, u 66, u 67, u 68, u 69, u 70, u 71, u 72, u 73, u 74, u 75, u 76, u 77, u 78, u 79, u 80, u 81, u 82, u 83, u 84, u 85, u 86, u 87, u 88, u 89, u 90, u 91, u 92, u 93, u 94, u 95, u 96, u 97, u 98, u 99, u 100, u 101, u 102, u 103, u 104, u 105, u 106, u 107, u 108, u 109, u 110, u 111, u 112, u 113, u 114, u 115, u 116, u 117, u 118, u 119, u 120, u 121, u 122], defers := [] }
theorem foldJ_of {s t : List UInt8} {i0 : Nat} {w : World} (tm : Array Value) (h : tm = #[tm.getD 0 undef, tm.getD 1 undef, tm.getD 2 undef, tm.getD 3 undef, tm.getD 4 undef, tm.getD 5 undef, tm.getD 6 undef, tm.getD 7 undef, tm.getD 8 undef, tm.getD 9 undef, tm.getD 10 undef, tm.getD 11 undef, tm.getD 12 undef, tm.getD 13 undef, tm.getD 14 undef, tm.getD 15 undef, tm.getD 16 undef, tm.getD 17 undef, tm.getD 18 undef, tm.getD 19 undef, tm.getD 20 undef, tm.getD 21 undef, tm.getD 22 undef, tm.getD 23 undef, tm.getD 24 undef, tm.getD 25 undef, tm.getD 26 undef, tm.getD 27 undef, tm.getD 28 undef, tm.getD 29 undef, tm.getD 30 undef, tm.getD 31 undef, tm.getD 32 undef, tm.getD 33 undef, tm.getD 34 undef, tm.getD 35 undef, tm.getD 36 undef, tm.getD 37 undef, tm.getD 38 undef, tm.getD 39 undef, tm.getD 40 undef, tm.getD 41 undef, tm.getD 42 undef, tm.getD 43 undef, tm.getD 44 undef, tm.getD 45 undef, tm.getD 46 undef, tm.getD 47 undef, tm.getD 48 undef, tm.getD 49 undef, tm.getD 50 undef, tm.getD 51 undef, tm.getD 52 undef, tm.getD 53 undef, tm.getD 54 undef, tm.getD 55 undef, tm.getD 56 undef, tm.getD 57 undef, tm.getD 58 undef, tm.getD 59 undef, tm.getD 60 undef, tm.getD 61 undef, tm.getD 62 undef, tm.getD 63 undef, tm.getD 64 undef, tm.getD 65 undef, tm.getD 66 undef, tm.getD 67 undef, tm.getD 68 undef, tm.getD 69 undef, tm.getD 70 undef, tm.getD 71 undef, tm.getD 72 undef, tm.getD 73 undef, tm.getD 74 undef, tm.getD 75 undef, tm.getD 76 undef, tm.getD 77 undef, tm.getD 78 undef, tm.getD 79 undef, tm.getD 80 undef, tm.getD 81 undef, tm.getD 82 undef, tm.getD 83 undef, tm.getD 84 undef, tm.getD 85 undef, tm.getD 86 undef, tm.getD 87 undef, tm.getD 88 undef, tm.getD 89 undef, tm.getD 90 undef, tm.getD 91 undef, tm.getD 92 undef, tm.getD 93 undef, tm.getD 94 undef, tm.getD 95 undef, tm.getD 96 undef, tm.getD 97 undef, tm.getD 98 undef, tm.getD 99 undef, tm.getD 100 undef, tm.getD 101 undef, tm.getD 102 undef, tm.getD 103 undef, tm.getD 104 undef, tm.getD 105 undef, tm.getD 106 undef, tm.getD 107 undef, tm.getD 108 undef, tm.getD 109 undef, tm.getD 110 undef, tm.getD 111 undef, tm.getD 112 undef, tm.getD 113 undef, tm.getD 114 undef, tm.getD 115 undef, tm.getD 116 undef, tm.getD 117 undef, tm.getD 118 undef, tm.getD 119 undef, tm.getD 120 undef, tm.getD 121 undef, tm.getD 122 undef]) (h0 : tm.getD 0 undef = .string ⟨s.toArray⟩) (h1 : tm.getD 1 undef = .string ⟨t.toArray⟩) (h5 : tm.getD 5 undef = .int .i64 i0) : FoldJ s t i0 w { tmps := tm, defers := [] } w :=
  ⟨rfl, fun i => tm.getD i undef, h0, h1, h5, congrArg (fun x => ({ tmps := x, defers := [] } : Act)) h⟩
set_option maxRecDepth 1000000 in
set_option maxHeartbeats 8000000 in
theorem equalFold_high (s t : List UInt8) (i0 : Nat) (x c : UInt8) (f : Nat) (w : World) (hs : s.length = t.length) (hs1 : s.length ≤ 1000) (ht : ∀ (j : Nat) b, t[j]? = some b → b.toNat < 128) (hlo : ∀ j b, j < i0 → s[j]? = some b → b.toNat < 128) (hx : s[i0]? = some x) (hx1 : 128 ≤ x.toNat) (hc : t[i0]? = some c)
    (hp1 : (c.toNat, f) ∈ foldPairs) (hp2 : (f, c.toNat) ∈ foldPairs) (hT : FoldT w) :
    Calls Tryz.prog 68 #[.string ⟨s.toArray⟩, .string ⟨t.toArray⟩] w fun e w' => e = .returned (.bool false) ∧ Below w.heap.size w w' := by
  have HS := Lib.hid (And.intro hs (And.intro ht (And.intro hlo (And.intro hx (And.intro hc (And.intro hp1 (And.intro hp2 hT)))))))
  have hsz : (⟨s.toArray⟩ : ByteArray).size = s.length := by simp [ByteArray.size]
  have htz : (⟨t.toArray⟩ : ByteArray).size = s.length := by simp [ByteArray.size, hs]
  have hi0 : i0 < s.length := (List.getElem?_eq_some_iff.1 hx).1
  clear hs ht hlo hx hc hp1 hp2 hT
  go_enter Tryz.func68, Tryz.ntmps68
  go_wp2
  refine wp_scope_jumps 0 (FoldJ s t i0 w) (fun _ _ => 0) rfl ?_ ?_
  · go_wp2
    go_loopg [5] i0 (fun g v wx => w = wx ∧ ∃ i : Nat, i ≤ i0 ∧ Hid (g + i = i0) ∧ v = .int .i64 i)
    case atStart => exact ⟨rfl, 0, Nat.zero_le _, Lib.hid rfl, rfl⟩
    case round =>
      obtain ⟨rfl, i, hi, hg, rfl⟩ := hrel
      have hi1 : (i : Int) < (s.length : Int) := by omega
      have hi2 : (0 : Int) ≤ (i : Int) := by omega
      have hi3 : (i : Int) ≤ 1000 := by omega
      have hix := run_strIndex s i (by omega) w
      have hit := run_strIndex t i (by rw [← HS.out.1]; omega) w
      have HX : Hid (s[i]? = some (s.getD i 0)) := Lib.hid (by rw [List.getElem?_eq_getElem (by omega)]; simp [show i < s.length by omega])
      have HC : Hid (t[i]? = some (t.getD i 0)) := Lib.hid (by rw [List.getElem?_eq_getElem (by rw [← HS.out.1]; omega)]; simp [show i < t.length by rw [← HS.out.1]; omega])
      generalize s.getD i 0 = x' at *
      generalize t.getD i 0 = c' at *
      have hc128 : c'.toNat < 128 := HS.out.2.1 i c' HC.out
      have hx256 : x'.toNat < 256 := x'.toNat_lt
      have hor : bits .or .u8 (x'.toNat : Int) (c'.toNat : Int) = ((x'.toNat ||| c'.toNat : Nat) : Int) := u8_or_nat _ _ (by omega) (by omega)
      by_cases he : i = i0
      · subst he
        have hxe : x' = x := by have := HX.out; rw [HS.out.2.2.2.1] at this; exact (Option.some.inj this).symm
        subst hxe
        have hor128 : (128 : Int) ≤ ((x'.toNat ||| c'.toNat : Nat) : Int) := by have := Nat.left_le_or (n := x'.toNat) (m := c'.toNat); omega
        generalize ((x'.toNat ||| c'.toNat : Nat) : Int) = orv at *
        go_wp2
        go_step3
        exact ⟨rfl, foldJ_of _ rfl rfl rfl rfl⟩
      · have hx128 : x'.toNat < 128 := HS.out.2.2.1 i x' (by omega) HX.out
        have hor128 : ¬ ((128 : Int) ≤ ((x'.toNat ||| c'.toNat : Nat) : Int)) := by have := Nat.or_lt_two_pow (n := 7) hx128 hc128; omega
        go_wp2
        all_goals first
          | (go_roundg (i0 - (i + 1))
             case measure => have := hg.out; omega
             case rel => exact ⟨rfl, i + 1, by omega, Lib.hid (by omega), by go_num⟩)
          | ((try simp only [Exit.jump])
             go_ret
             exact ⟨rfl, Below.refl _ _⟩)
  · intro a' w' hJ
    obtain ⟨rfl, u, h0, h1, h5, rfl⟩ := hJ
    rw [h0, h1, h5]
    clear h0 h1 h5
    have hsl := run_strFrom s i0 (by omega)
    have htl := run_strFrom t i0 (by rw [← HS.out.1]; omega)
    obtain ⟨T', hT'⟩ : ∃ T', t.drop i0 = c :: T' := ⟨_, drop_cons t i0 c HS.out.2.2.2.2.1⟩
    obtain ⟨S', hS'⟩ : ∃ S', s.drop i0 = x :: S' := ⟨_, drop_cons s i0 x HS.out.2.2.2.1⟩
    rw [hT'] at htl
    rw [hS'] at hsl
    have htl1 := run_strFrom (c :: T') 1 (by simp)
    simp only [List.drop_succ_cons, List.drop_zero] at htl1
    have hSz : 0 < (⟨(x :: S').toArray⟩ : ByteArray).size := by simp [ByteArray.size]
    have hnx := fun ty => run_next_any (P := Tryz.prog) w' ⟨(x :: S').toArray⟩ 0 ty hSz
    have hdh := decode_high ⟨(x :: S').toArray⟩ 0 hSz hx1
    have hdl := decode_le ⟨(x :: S').toArray⟩ 0
    have hr1 := hdh.1
    generalize Utf8.decode ⟨(x :: S').toArray⟩ 0 = dc at *
    obtain ⟨r, m⟩ := dc
    simp only [Nat.zero_add] at hr1 hdl hnx
    have hcf := foldPairs_lt _ HS.out.2.2.2.2.2.1
    have hb : Below w'.heap.size w' (w'.iter ⟨(x :: S').toArray⟩ m) := (Below.refl _ _).alloc (Nat.le_refl _) _
    have HB := Lib.hid hb
    have CD := Lib.hid (Tryz.utf8_DecodeRuneInString_ascii ⟨(c :: T').toArray⟩ c (w'.iter ⟨(x :: S').toArray⟩ m) (by simp) hcf.1)
    have hT2 := HS.out.2.2.2.2.2.2.2.below hb HS.out.2.2.2.2.2.2.2.lt
    have CF := Lib.hid (simpleFold_c c.toNat f _ hcf.1 hcf.2 (hT2 _ HS.out.2.2.2.2.2.1))
    have CG := Lib.hid (simpleFold_c f c.toNat _ hcf.2 hcf.1 (hT2 _ HS.out.2.2.2.2.2.2.1))
    have hc0 : (0 : Int) ≤ (c.toNat : Int) := by omega
    have hc1 : (c.toNat : Int) < 128 := by omega
    have hf0 : (0 : Int) ≤ (f : Int) := by omega
    have hf1 : (f : Int) < 128 := by omega
    have hcr : (c.toNat : Int) < (r : Int) := by omega
    have hce : ((c.toNat : Int) == (r : Int)) = false := by simp; omega
    have hr128 : ¬ (r : Int) < 128 := by omega
    have hfr : (f : Int) < (r : Int) := by omega
    have hl0 : (((T'.length : Int) + 1) == 0) = false := by simp; omega
    clear hT' hS' hdh hcf hb hT2
    by_cases hfc : f = c.toNat
    · subst hfc
      clear CG
      generalize (c.toNat : Int) = cn at *
      go_wp2
      refine wp_loop_rounds 1 ?_
      rw [rounds_succ]
      go_wp2_with fail
      refine (CD.out).mono ?_
      rintro e wq ⟨rfl, hwq⟩
      subst hwq
      go_wp2_with fail
      refine (CF.out).mono ?_
      rintro e wq ⟨rfl, rfl⟩
      go_wp2
      refine wp_loop_rounds 1 ?_
      rw [rounds_succ]
      go_wp2
      (try simp only [Exit.jump])
      go_ret
      exact ⟨rfl, HB.out⟩
    · have hfne : ((f : Int) != (c.toNat : Int)) = true := by simp; omega
      generalize (c.toNat : Int) = cn at *
      go_wp2
      refine wp_loop_rounds 1 ?_
      rw [rounds_succ]
      go_wp2_with fail
      refine (CD.out).mono ?_
      rintro e wq ⟨rfl, hwq⟩
      subst hwq
      go_wp2_with fail
      refine (CF.out).mono ?_
      rintro e wq ⟨rfl, rfl⟩
      go_wp2
      refine wp_loop_rounds 2 ?_
      rw [rounds_succ]
      go_wp2_with fail
      refine (CG.out).mono ?_
      rintro e wq ⟨rfl, rfl⟩
      go_wp2
      rw [rounds_succ]
      go_wp2
      (try simp only [Exit.jump])
      go_ret
      exact ⟨rfl, HB.out⟩
end Go.Proofs.YtgenpgfhjhcahaaGreatDoor
