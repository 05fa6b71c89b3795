/- Names, colons too. -/
import Derived.Test.YtpblphddpcogcaaDoorRows
import Derived.WalkKit
import Derived.ProofKit
import Derived.OpenShut
import Derived.ShutString
import Derived.ChangeOld
import Derived.Below
import Derived.BigQuiet
import Derived.Deep.QuietTactic
import Derived.Lib.Hide
import Derived.Deep.RegionHeld3
import Derived.Lib.SlBytesConst
import Derived.Laws.CopyOwn
import Derived.Laws.CopyRow
import Derived.Lib.Bytes
import Derived.Deep.LoopGhost
import Derived.Deep.DeepFit
import Derived.Deep.DeepMust
import Derived.WalkSpells
import Derived.WalkLawsBesides
import Derived.Laws.EntriesVeiled
import Derived.Laws.Rows
import Derived.Test.YtpblphddpcogcaaDoorBase
import Derived.Test.YtpblphddpcogcaaDoorShelf
import Derived.Test.YtpblphddpcogcaaDoorCharPlain
import Derived.Test.YtpblphddpcogcaaDoorUtf1
import Derived.Test.YtpblphddpcogcaaDoorUtf2
import Derived.Test.YtpblphddpcogcaaDoorUtf3
import Derived.Test.YtpblphddpcogcaaDoorChars1
import Derived.Test.YtpblphddpcogcaaDoorName1
import Derived.Test.YtpblphddpcogcaaDoorName2
import Derived.Test.YtpblphddpcogcaaDoorName3
namespace Go.Proofs.YtpblphddpcogcaaDoor
open Go.ChangeShapes Go.WideShapes Go.ChangeAt Go.RowKit
set_option linter.unusedVariables false
/-- The sort of names, as its two functions. -/
def namesV : Value := .agg #[.func (.func 99) #[] #[], .func (.func 100) #[] #[]]
set_option maxHeartbeats 2000000 in
theorem names_c (w : World) : Calls Tryd.prog 75 #[] w fun e w' => e = .returned namesV ∧ Below w.heap.size w w' := by
  have hF := Lib.hid (hp_new w (.cells #[.func (.func 99) #[] #[], .func (.func 100) #[] #[]] 122))
  have hb := Lib.hid (Below.alloc (Below.refl w.heap.size w) (Nat.le_refl _) (.cells #[.func (.func 99) #[] #[], .func (.func 100) #[] #[]] 122))
  go_enter Tryd.func75, Tryd.ntmps75
  go_wp2
  have hi : (Tryd.prog.info? 122).map (·.size) = some 2 := by kernel_rfl
  obtain ⟨d, hu⟩ := isStruct_of (P := Tryd.prog) (t := 122) (by kernel_rfl)
  (try simp only [Exit.inBlock, Exit.then])
  refine bodyPost_ret (results_cell_row rfl _ _ w.heap.size _ _ _ _ rfl hF.out hu rfl hi) rfl ⟨rfl, hb.out⟩
set_option maxRecDepth 100000 in
set_option maxHeartbeats 4000000 in
theorem endA_c (A : Option Addr) (n cap : Nat) (l : List UInt8) (at_ : Nat) (w : World) (h : Byt w w.heap.size A n cap l) (hF : Forms w) (hm : n ≤ 100000) (hat : at_ ≤ n)(hT : TabN w) :
    Calls Tryd.prog 101 #[namesV, .slice A n cap, .int .i64 at_] w fun e w' => e = .returned (.int .i64 ((at_ + endL isStart isMore n (l.drop at_) : Nat))) ∧ Below w.heap.size w w' := by
  have HB0 := Lib.hid (And.intro h (And.intro hF hF.lt))
  have HS : Hid (Says 99 #[] w.heap.size w isStart ∧ Says 100 #[] w.heap.size w isMore) := Lib.hid ⟨fun w1 r hb => nameStart_c r w1 (hT.below hb (hT.low hF)), fun w1 r hb => nameChar_c r w1 (hT.below hb (hT.low hF)) (by have := hb.size; have := hT.low hF; unfold LowN at *; omega)⟩
  have hln := Lib.hid h.length
  clear h hF hT
  unfold namesV
  go_enter Tryd.func101, Tryd.ntmps101
  have f0 := hp_new w (.cells #[.func (.func 99) #[] #[], .func (.func 100) #[] #[]] 122)
  have z0 := cell_of 0 f0
  have z1 := cell_of 1 f0
  have hb0 : Hid (Below w.heap.size w (w.alloc (.cells #[.func (.func 99) #[] #[], .func (.func 100) #[] #[]] 122))) := Lib.hid (Below.alloc (Below.refl _ _) (Nat.le_refl _) _)
  have hsz : (w.alloc (.cells #[.func (.func 99) #[] #[], .func (.func 100) #[] #[]] 122)).heap.size = w.heap.size + 1 := by simp
  have z1' : Hid ((w.alloc (.cells #[.func (.func 99) #[] #[], .func (.func 100) #[] #[]] 122)).cell? ⟨w.heap.size, 1, none⟩ = some (.func (.func 100) #[] #[])) := Lib.hid z1
  clear f0 z1
  go_wp2
  generalize hw0 : w.alloc (.cells #[.func (.func 99) #[] #[], .func (.func 100) #[] #[]] 122) = w0 at *
  clear hw0 z0
  go_loopg [2, 7] (n - at_) (fun kx s2 s7 wr => ∃ (p K fid : Nat) (fc : Int → Bool), s2 = .int .i64 p ∧ s7 = .func (.func fid) #[] #[] ∧ Hid (fid = 99 ∨ fid = 100) ∧ p ≤ n ∧ kx = n - p ∧ n - p ≤ K ∧
    Hid (at_ + endL isStart isMore n (l.drop at_) = p + endL fc isMore K (l.drop p)) ∧ Hid (Says fid #[] w.heap.size w fc) ∧ Hid (Below w.heap.size w wr) ∧ w.heap.size < wr.heap.size ∧
    Hid (wr.cell? ⟨w.heap.size, 1, none⟩ = some (.func (.func 100) #[] #[])))
  case atStart => exact ⟨at_, n, 99, isStart, rfl, rfl, Lib.hid (.inl rfl), hat, rfl, by omega, Lib.hid rfl, Lib.hid HS.out.1, hb0, by omega, z1'⟩
  case round =>
    obtain ⟨p, K, fid, fc, rfl, rfl, HFID, hp, hk, hK, HE, HC, HB, hsr, HZ⟩ := hrel
    have hfid := HFID.out
    clear HFID
    rcases hfid with rfl | rfl
    all_goals
      by_cases hlt : p < n
      · have hlt' : (p : Int) < (n : Int) := by omega
        have hd := decode_c A n cap l p wr w.heap.size (HB0.out.1.below HB.out) (HB0.out.2.1.below HB.out HB0.out.2.2) hlt (by omega)
        cases hdec : dec (l.drop p) with
        | none =>
          rw [hdec] at hd
          have HD := Lib.hid hdec
          clear hdec
          go_wp2_with fail
          refine hd.mono ?_
          rintro e w1 ⟨rfl, q, rfl⟩
          simp only [decOut]
          go_wp2
          go_ret
          exact ⟨by rw [HE.out, endL_none _ _ _ _ HD.out]; rfl, below_drewN' HB.out⟩
        | some v =>
          obtain ⟨r, m⟩ := v
          rw [hdec] at hd
          have HD := Lib.hid hdec
          have hle := dec_le _ r m hdec
          rw [List.length_drop, hln.out] at hle
          have hcall := HC.out (wr.drewN 0) r (below_drewN' HB.out)
          clear hdec
          have HX := Lib.hid HC.out
          clear hcall
          cases hfr : fc r with
          | false =>
            go_wp2_with fail
            refine hd.mono ?_
            rintro e w1 ⟨rfl, q, rfl⟩
            simp only [decOut]
            have hcall := HC.out (wr.drewN q) r (below_drewN' HB.out)
            rw [hfr] at hcall
            have HR := Lib.hid hfr
            clear hfr
            go_wp2_with fail
            refine hcall.mono ?_
            rintro e w2 ⟨rfl, hb2⟩
            go_wp2
            go_ret
            exact ⟨by rw [HE.out, endL_no _ _ _ _ _ _ HD.out HR.out]; rfl, (below_drewN' HB.out).trans (hb2.mono (by show w.heap.size ≤ wr.heap.size; omega))⟩
          | true =>
            go_wp2_with fail
            refine hd.mono ?_
            rintro e w1 ⟨rfl, q, rfl⟩
            simp only [decOut]
            have hcall := HC.out (wr.drewN q) r (below_drewN' HB.out)
            rw [hfr] at hcall
            have HR := Lib.hid hfr
            clear hfr
            go_wp2_with fail
            refine hcall.mono ?_
            rintro e w2 ⟨rfl, hb2⟩
            have hz2 : w2.cell? ⟨w.heap.size, 1, none⟩ = some (.func (.func 100) #[] #[]) := by rw [hb2.cell (by show w.heap.size < wr.heap.size; omega)]; exact HZ.out
            have HB2 := Lib.hid ((below_drewN' (n := q) HB.out).trans (hb2.mono (by show w.heap.size ≤ wr.heap.size; omega)))
            have hs2 : w.heap.size < w2.heap.size := by have := hb2.size; have : wr.heap.size ≤ w2.heap.size := this; omega
            clear hb2
            go_wp2
            go_quiet (fail)
            have hz3 : Hid ((w2.drewN nq).cell? ⟨w.heap.size, 1, none⟩ = some (.func (.func 100) #[] #[])) := Lib.hid hz2
            go_wp2
            go_roundg (n - (p + m))
            case measure => omega
            case rel =>
              refine ⟨p + m, K - 1, 100, isMore, rfl, rfl, Lib.hid (.inr rfl), by omega, rfl, by omega, Lib.hid ?_, Lib.hid HS.out.2, Lib.hid (below_drewN' HB2.out), hs2, hz3⟩
              have := endL_yes fc isMore (K - 1) _ r m HD.out HR.out
              rw [show K - 1 + 1 = K by omega, List.drop_drop] at this
              rw [HE.out, this]
              omega
      · obtain rfl : p = n := by omega
        go_wp2
        go_ret
        refine ⟨?_, HB.out⟩
        rw [HE.out, List.drop_of_length_le (by rw [hln.out]; exact Nat.le_refl _), endL_none _ _ _ _ (by rfl)]
        rfl
/-- What is read of a name at a place. -/
def nameOut (l : List UInt8) (at_ : Nat) : List UInt8 × Nat × Nat :=
  let k := endL isStart isMore l.length (l.drop at_)
  if k = 0 then ([], 0, 7) else if 1024 < k then ([], 0, 11) else ((l.drop at_).take k, at_ + k, 0)
set_option maxRecDepth 100000 in
set_option maxHeartbeats 2000000 in
theorem readA_c (A : Option Addr) (n cap : Nat) (l : List UInt8) (at_ : Nat) (w : World) (h : Byt w w.heap.size A n cap l) (hF : Forms w) (hm : n ≤ 100000) (hat : at_ ≤ n)(hT : TabN w) :
    Calls Tryd.prog 76 #[namesV, .slice A n cap, .int .i64 at_] w fun e w' => e = .returned (outV (nameOut l at_)) ∧ Below w.heap.size w w' := by
  have hb : Below w.heap.size w (w.alloc (.cells #[.func (.func 99) #[] #[], .func (.func 100) #[] #[]] 122)) := Below.alloc (Below.refl w.heap.size w) (Nat.le_refl _) _
  have hln := h.length
  have hend := endA_c A n cap l at_ _ ((h.below hb).more hb.size) (hF.below hb hF.lt) hm hat (hT.below hb (hT.low hF))
  have hkl : at_ + endL isStart isMore n (l.drop at_) ≤ n := by
    have := endL_le n isStart isMore (l.drop at_)
    rw [List.length_drop, hln] at this
    omega
  have HB := Lib.hid (And.intro h hb)
  have f0 := hp_new w (.cells #[.func (.func 99) #[] #[], .func (.func 100) #[] #[]] 122)
  have hi : (Tryd.prog.info? 122).map (·.size) = some 2 := by kernel_rfl
  obtain ⟨d, hu⟩ := isStruct_of (P := Tryd.prog) (t := 122) (by kernel_rfl)
  have hld := run_loadVar_row _ _ _ _ _ _ _ f0 hu rfl hi
  have HE : Hid (endL isStart isMore l.length (l.drop at_) = endL isStart isMore n (l.drop at_)) := Lib.hid (by rw [hln])
  clear h hF hT hb f0 hu hi hln
  unfold namesV at *
  unfold nameOut
  simp only [HE.out]
  generalize endL isStart isMore n (l.drop at_) = k at *
  have hat' : ¬ (n : Int) < (at_ : Int) := by omega
  have HM := Lib.hid (And.intro hm hat)
  have HN := Lib.hid hend
  clear hm hend
  generalize hres : (if k = 0 then ([], 0, 7) else if 1024 < k then ([], 0, 11) else ((l.drop at_).take k, at_ + k, 0)) = res
  have HR := Lib.hid hres
  clear hres
  go_enter Tryd.func76, Tryd.ntmps76
  go_wp2_with fail
  refine HN.out.mono ?_
  rintro e w1 ⟨rfl, hb1⟩
  have HB1 := Lib.hid ((HB.out.2).trans (hb1.mono HB.out.2.size))
  clear hb1 hld
  rcases (show k = 0 ∨ 1024 < k ∨ (0 < k ∧ k ≤ 1024) by omega) with h0 | h0 | h0
  · subst h0
    have hre := HR.out
    simp only [if_true] at hre
    subst hre
    have hn := Int.natCast_nonneg at_
    go_wp2
    go_ret3
    exact ⟨rfl, HB1.out⟩
  · have hre := HR.out
    rw [if_neg (by omega), if_pos h0] at hre
    subst hre
    have hne : (((at_ + k : Nat) : Int) == (at_ : Int)) = false := by simp; omega
    have hne2 : ((at_ : Int) + (k : Int) == (at_ : Int)) = false := by simp; omega
    have h0' : (1024 : Int) < (k : Int) := by omega
    have hsb : ((at_ : Int) + (k : Int)) - (at_ : Int) = (k : Int) := by omega
    have hw : IntKind.i64.wrap (k : Int) = (k : Int) := by rw [IntKind.wrap_i64]; have := HM.out; omega
    go_wp2
    go_ret3
    exact ⟨rfl, HB1.out⟩
  · have hre := HR.out
    rw [if_neg (by omega), if_neg (by omega)] at hre
    subst hre
    have hne : (((at_ + k : Nat) : Int) == (at_ : Int)) = false := by simp; omega
    have hne2 : ((at_ : Int) + (k : Int) == (at_ : Int)) = false := by simp; omega
    have h0' : ¬ (1024 : Int) < (k : Int) := by omega
    have hsb : ((at_ : Int) + (k : Int)) - (at_ : Int) = (k : Int) := by omega
    have hw : IntKind.i64.wrap (k : Int) = (k : Int) := by rw [IntKind.wrap_i64]; have := HM.out; omega
    have hy := ((HB.out.1.below HB1.out).drop hat).take (k := k) (by omega)
    have hstr := hy.str
    have hcap := HB.out.1.le
    have hrf : ∀ w2 : World, (Instr.slice 22 (.slice A n cap) (some (.int .i64 (at_ : Int))) (some (.int .i64 ((at_ : Int) + (k : Int)))) none).run Tryd.prog w2 = .ok (.slice (cutA A cap at_) k (cap - at_)) w2 := fun w2 => by
      have := run_fromTo (w := w2) A n cap at_ (at_ + k) (by omega) (by omega)
      rw [show at_ + k - at_ = k by omega, show ((at_ + k : Nat) : Int) = (at_ : Int) + (k : Int) by omega] at this
      exact this
    have HY := Lib.hid hy
    clear hy hcap h0
    go_wp2
    go_ret3
    exact ⟨rfl, HB1.out⟩
set_option maxHeartbeats 2000000 in
theorem name_c (A : Option Addr) (n cap : Nat) (l : List UInt8) (at_ : Nat) (w : World) (h : Byt w w.heap.size A n cap l) (hF : Forms w) (hT : TabN w) (hm : n ≤ 100000) (hat : at_ ≤ n) :
    Calls Tryd.prog 51 #[.slice A n cap, .int .i64 at_] w fun e w' => e = .returned (outV (nameOut l at_)) ∧ Below w.heap.size w w' := by
  have hp := names_c w
  have hL := hT.low hF
  have HH := Lib.hid (And.intro h (And.intro hF (And.intro hm (And.intro hat (And.intro hT hL)))))
  clear h hF hT hm hat hL
  go_enter Tryd.func51, Tryd.ntmps51
  go_wp2_with fail
  refine hp.mono ?_
  rintro e w1 ⟨rfl, hb⟩
  have hr := readA_c A n cap l at_ w1 ((HH.out.1.below hb).more hb.size) (HH.out.2.1.below hb HH.out.2.1.lt) HH.out.2.2.1 HH.out.2.2.2.1 (HH.out.2.2.2.2.1.below hb HH.out.2.2.2.2.2)
  have HB := Lib.hid hb
  clear hb hp
  unfold outV at *
  go_wp2_with fail
  refine hr.mono ?_
  rintro e w2 ⟨rfl, hb2⟩
  have HB2 := Lib.hid (HB.out.trans (hb2.mono HB.out.size))
  clear hr hb2
  go_wp2
  go_ret3
  exact ⟨rfl, HB2.out⟩
theorem name_range (A : Option Addr) (n cap : Nat) (at_ : Int) (w : World) (ha : at_ < 0 ∨ (n : Int) < at_) :
    Calls Tryd.prog 51 #[.slice A n cap, .int .i64 at_] w fun e w' => e = .returned (outV ([], 0, 3)) ∧ Below w.heap.size w w' := by
  have hp := names_c w
  have HH := Lib.hid ha
  clear ha
  go_enter Tryd.func51, Tryd.ntmps51
  go_wp2_with fail
  refine hp.mono ?_
  rintro e w1 ⟨rfl, hb⟩
  have hr := readN_range namesV _ _ rfl A n cap at_ w1 HH.out
  have HB := Lib.hid hb
  clear hb hp
  unfold outV at *
  go_wp2_with fail
  refine hr.mono ?_
  rintro e w2 ⟨rfl, hb2⟩
  have HB2 := Lib.hid (HB.out.trans (hb2.mono HB.out.size))
  clear hr hb2
  go_wp2
  go_ret3
  exact ⟨rfl, HB2.out⟩
theorem plain_range (A : Option Addr) (n cap : Nat) (at_ : Int) (w : World) (hT : TabN w) (hF : Forms w) (ha : at_ < 0 ∨ (n : Int) < at_) :
    Calls Tryd.prog 127 #[.slice A n cap, .int .i64 at_] w fun e w' => e = .returned (outV ([], 0, 3)) ∧ Below w.heap.size w w' := by
  have hp := plains_c w hT (hT.low hF)
  have HH := Lib.hid ha
  clear ha hT hF
  go_enter Tryd.func127, Tryd.ntmps127
  go_wp2_with fail
  refine hp.mono ?_
  rintro e w1 ⟨a, b, rfl, hb, hf, hg⟩
  have hr := readN_range (plainsV a b) _ _ rfl A n cap at_ w1 HH.out
  have HB := Lib.hid hb
  clear hb hp hf hg
  unfold outV at *
  go_wp2_with fail
  refine hr.mono ?_
  rintro e w2 ⟨rfl, hb2⟩
  have HB2 := Lib.hid (HB.out.trans (hb2.mono HB.out.size))
  clear hr hb2
  go_wp2
  go_ret3
  exact ⟨rfl, HB2.out⟩
end Go.Proofs.YtpblphddpcogcaaDoor
