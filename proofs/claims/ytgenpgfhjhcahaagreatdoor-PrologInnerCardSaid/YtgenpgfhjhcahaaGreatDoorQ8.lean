/- Texts of ours, joined: Fold2, NameA, Dig2, CChar, CChar2, Build, Esc, Lit1, Lit2, RefC, Lit3, Lit4. -/
import Derived.Test.YtgenpgfhjhcahaaGreatDoorRows
import Derived.WalkKit
import Derived.ProofKit
import Derived.OpenShut
import Derived.ShutString
import Derived.ChangeOld
import Derived.Below
import Derived.BigQuiet
import Derived.Deep.QuietTactic
import Derived.Lib.Hide
import Derived.Deep.RegionHeld3
import Derived.Lib.SlBytesConst
import Derived.Laws.CopyOwn
import Derived.Laws.CopyRow
import Derived.Lib.Bytes
import Derived.Deep.LoopGhost
import Derived.Deep.DeepFit
import Derived.Deep.DeepMust
import Derived.WalkSpells
import Derived.WalkLawsBesides
import Derived.Lib.Fold
import Derived.Test.YtgenpgfhjhcahaaGreatDoorQ1
import Derived.Test.YtgenpgfhjhcahaaGreatDoorQ7
import Derived.Test.YtgenpgfhjhcahaaGreatDoorQ2
import Derived.Laws.EntriesVeiled
import Derived.Laws.Rows
import Derived.Test.YtgenpgfhjhcahaaGreatDoorQ3
import Derived.Test.YtgenpgfhjhcahaaGreatDoorQ4
import Derived.Test.YtgenpgfhjhcahaaGreatDoorQ5
import Derived.Lib.Builder
import Derived.Lib.AppendStr
import Derived.Lib.UnsafeStr
import Derived.Laws.Externs
import Derived.Lib.ConvBytes
import Derived.Lib.AtoiErrMem
/- strings.EqualFold of texts of one length, of ASCII letters. -/
namespace Go.Proofs.YtgenpgfhjhcahaaGreatDoor
open Go.ChangeShapes Go.WideShapes Go.ChangeAt Go.RowKit
set_option linter.unusedVariables false
theorem equalFold_c (s t : List UInt8) (w : World) (hs : s.length = t.length) (hs1 : s.length ≤ 1000) (ht : ∀ c ∈ t, ∃ f, (c.toNat, f) ∈ foldPairs ∧ (f, c.toNat) ∈ foldPairs) (hT : FoldT w) :
    Calls Tryz.prog 68 #[.string ⟨s.toArray⟩, .string ⟨t.toArray⟩] w fun e w' => e = .returned (.bool (Lib.equalFold s t)) ∧ Below w.heap.size w w' := by
  have ht1 : ∀ (j : Nat) b, t[j]? = some b → b.toNat < 128 := fun j b hb => by
    obtain ⟨f, h1, _⟩ := ht b (List.mem_of_getElem? hb)
    exact (foldPairs_lt _ h1).1
  by_cases hall : ∀ (j : Nat) b, s[j]? = some b → b.toNat < 128
  · exact (Tryz.strings_EqualFold ⟨s.toArray⟩ ⟨t.toArray⟩ w (by simp [ByteArray.size]; omega) hall ht1).mono fun e w' ⟨he, hw⟩ => ⟨he, by rw [hw]; exact Below.refl _ _⟩
  · have hex : ∃ (i0 : Nat) (x : UInt8), s[i0]? = some x ∧ 128 ≤ x.toNat ∧ ∀ (j : Nat) (b : UInt8), j < i0 → s[j]? = some b → b.toNat < 128 := by
      have : ∃ n : Nat, ∃ x : UInt8, s[n]? = some x ∧ 128 ≤ x.toNat := by
        refine Classical.byContradiction fun hc => hall fun j b hb => ?_
        refine Classical.byContradiction fun h2 => hc ⟨j, b, hb, by omega⟩
      obtain ⟨n, hn⟩ := this
      induction n using Nat.strongRecOn with
      | _ n ih =>
        by_cases hlow : ∀ (j : Nat) (b : UInt8), j < n → s[j]? = some b → b.toNat < 128
        · obtain ⟨x, h1, h2⟩ := hn
          exact ⟨n, x, h1, h2, hlow⟩
        · have : ∃ m, m < n ∧ ∃ x : UInt8, s[m]? = some x ∧ 128 ≤ x.toNat := by
            refine Classical.byContradiction fun hc => hlow fun j b hj hb => ?_
            refine Classical.byContradiction fun h2 => hc ⟨j, hj, b, hb, by omega⟩
          obtain ⟨m, hm, hm2⟩ := this
          exact ih m hm hm2
    obtain ⟨i0, x, hx, hx1, hlo⟩ := hex
    have hi0 : i0 < t.length := by rw [← hs]; exact (List.getElem?_eq_some_iff.1 hx).1
    obtain ⟨f, hp1, hp2⟩ := ht t[i0] (List.getElem_mem hi0)
    rw [equalFold_hi s t i0 x (fun c hc => by
      obtain ⟨j, hj⟩ := List.mem_iff_getElem?.1 hc
      exact ht1 j c hj) hx hx1]
    exact equalFold_high s t i0 x t[i0] f w hs hs1 ht1 hlo hx hx1 (List.getElem?_eq_getElem hi0) hp1 hp2 hT
theorem xmlFold : ∀ c ∈ ([120, 109, 108] : List UInt8), ∃ f, (c.toNat, f) ∈ foldPairs ∧ (f, c.toNat) ∈ foldPairs := by
  intro c hc
  simp at hc
  rcases hc with rfl | rfl | rfl
  · exact ⟨88, by decide, by decide⟩
  · exact ⟨77, by decide, by decide⟩
  · exact ⟨76, by decide, by decide⟩
theorem utf8Fold : ∀ c ∈ ([117, 116, 102, 45, 56] : List UInt8), ∃ f, (c.toNat, f) ∈ foldPairs ∧ (f, c.toNat) ∈ foldPairs := by
  intro c hc
  simp at hc
  rcases hc with rfl | rfl | rfl | rfl | rfl
  · exact ⟨85, by decide, by decide⟩
  · exact ⟨84, by decide, by decide⟩
  · exact ⟨70, by decide, by decide⟩
  · exact ⟨45, by decide, by decide⟩
  · exact ⟨56, by decide, by decide⟩
end Go.Proofs.YtgenpgfhjhcahaaGreatDoor
/- Names, colons too. -/
namespace Go.Proofs.YtgenpgfhjhcahaaGreatDoor
open Go.ChangeShapes Go.WideShapes Go.ChangeAt Go.RowKit
set_option linter.unusedVariables false
/-- The sort of names, as its two functions. -/
def namesV : Value := .agg #[.func (.func 149) #[] #[], .func (.func 150) #[] #[]]
set_option maxHeartbeats 2000000 in
theorem names_c (w : World) : Calls Tryz.prog 103 #[] w fun e w' => e = .returned namesV ∧ Below w.heap.size w w' := by
  have hF := Lib.hid (hp_new w (.cells #[.func (.func 149) #[] #[], .func (.func 150) #[] #[]] 210))
  have hb := Lib.hid (Below.alloc (Below.refl w.heap.size w) (Nat.le_refl _) (.cells #[.func (.func 149) #[] #[], .func (.func 150) #[] #[]] 210))
  go_enter Tryz.func103, Tryz.ntmps103
  go_wp2
  have hi : (Tryz.prog.info? 210).map (·.size) = some 2 := by kernel_rfl
  obtain ⟨d, hu⟩ := isStruct_of (P := Tryz.prog) (t := 210) (by kernel_rfl)
  (try simp only [Exit.inBlock, Exit.then])
  refine bodyPost_ret (results_cell_row rfl _ _ w.heap.size _ _ _ _ rfl hF.out hu rfl hi) rfl ⟨rfl, hb.out⟩
set_option maxRecDepth 100000 in
set_option maxHeartbeats 4000000 in
theorem endA_c (A : Option Addr) (n cap : Nat) (l : List UInt8) (at_ : Nat) (w : World) (h : Byt w w.heap.size A n cap l) (hF : Forms w) (hm : n ≤ 100000) (hat : at_ ≤ n)(hT : TabN w) :
    Calls Tryz.prog 151 #[namesV, .slice A n cap, .int .i64 at_] w fun e w' => e = .returned (.int .i64 ((at_ + endL isStart isMore n (l.drop at_) : Nat))) ∧ Below w.heap.size w w' := by
  have HB0 := Lib.hid (And.intro h (And.intro hF hF.lt))
  have HS : Hid (Says 149 #[] w.heap.size w isStart ∧ Says 150 #[] w.heap.size w isMore) := Lib.hid ⟨fun w1 r hb => nameStart_c r w1 (hT.below hb (hT.low hF)), fun w1 r hb => nameChar_c r w1 (hT.below hb (hT.low hF)) (by have := hb.size; have := hT.low hF; unfold LowN at *; omega)⟩
  have hln := Lib.hid h.length
  clear h hF hT
  unfold namesV
  go_enter Tryz.func151, Tryz.ntmps151
  have f0 := hp_new w (.cells #[.func (.func 149) #[] #[], .func (.func 150) #[] #[]] 210)
  have z0 := cell_of 0 f0
  have z1 := cell_of 1 f0
  have hb0 : Hid (Below w.heap.size w (w.alloc (.cells #[.func (.func 149) #[] #[], .func (.func 150) #[] #[]] 210))) := Lib.hid (Below.alloc (Below.refl _ _) (Nat.le_refl _) _)
  have hsz : (w.alloc (.cells #[.func (.func 149) #[] #[], .func (.func 150) #[] #[]] 210)).heap.size = w.heap.size + 1 := by simp
  have z1' : Hid ((w.alloc (.cells #[.func (.func 149) #[] #[], .func (.func 150) #[] #[]] 210)).cell? ⟨w.heap.size, 1, none⟩ = some (.func (.func 150) #[] #[])) := Lib.hid z1
  clear f0 z1
  go_wp2
  generalize hw0 : w.alloc (.cells #[.func (.func 149) #[] #[], .func (.func 150) #[] #[]] 210) = w0 at *
  clear hw0 z0
  go_loopg [2, 7] (n - at_) (fun kx s2 s7 wr => ∃ (p K fid : Nat) (fc : Int → Bool), s2 = .int .i64 p ∧ s7 = .func (.func fid) #[] #[] ∧ Hid (fid = 149 ∨ fid = 150) ∧ p ≤ n ∧ kx = n - p ∧ n - p ≤ K ∧
    Hid (at_ + endL isStart isMore n (l.drop at_) = p + endL fc isMore K (l.drop p)) ∧ Hid (Says fid #[] w.heap.size w fc) ∧ Hid (Below w.heap.size w wr) ∧ w.heap.size < wr.heap.size ∧
    Hid (wr.cell? ⟨w.heap.size, 1, none⟩ = some (.func (.func 150) #[] #[])))
  case atStart => exact ⟨at_, n, 149, isStart, rfl, rfl, Lib.hid (.inl rfl), hat, rfl, by omega, Lib.hid rfl, Lib.hid HS.out.1, hb0, by omega, z1'⟩
  case round =>
    obtain ⟨p, K, fid, fc, rfl, rfl, HFID, hp, hk, hK, HE, HC, HB, hsr, HZ⟩ := hrel
    have hfid := HFID.out
    clear HFID
    rcases hfid with rfl | rfl
    all_goals
      by_cases hlt : p < n
      · have hlt' : (p : Int) < (n : Int) := by omega
        have hd := decode_c A n cap l p wr w.heap.size (HB0.out.1.below HB.out) (HB0.out.2.1.below HB.out HB0.out.2.2) hlt (by omega)
        cases hdec : dec (l.drop p) with
        | none =>
          rw [hdec] at hd
          have HD := Lib.hid hdec
          clear hdec
          go_wp2_with fail
          refine hd.mono ?_
          rintro e w1 ⟨rfl, q, rfl⟩
          simp only [decOut]
          go_wp2
          go_ret
          exact ⟨by rw [HE.out, endL_none _ _ _ _ HD.out]; rfl, below_drewN' HB.out⟩
        | some v =>
          obtain ⟨r, m⟩ := v
          rw [hdec] at hd
          have HD := Lib.hid hdec
          have hle := dec_le _ r m hdec
          rw [List.length_drop, hln.out] at hle
          have hcall := HC.out (wr.drewN 0) r (below_drewN' HB.out)
          clear hdec
          have HX := Lib.hid HC.out
          clear hcall
          cases hfr : fc r with
          | false =>
            go_wp2_with fail
            refine hd.mono ?_
            rintro e w1 ⟨rfl, q, rfl⟩
            simp only [decOut]
            have hcall := HC.out (wr.drewN q) r (below_drewN' HB.out)
            rw [hfr] at hcall
            have HR := Lib.hid hfr
            clear hfr
            go_wp2_with fail
            refine hcall.mono ?_
            rintro e w2 ⟨rfl, hb2⟩
            go_wp2
            go_ret
            exact ⟨by rw [HE.out, endL_no _ _ _ _ _ _ HD.out HR.out]; rfl, (below_drewN' HB.out).trans (hb2.mono (by show w.heap.size ≤ wr.heap.size; omega))⟩
          | true =>
            go_wp2_with fail
            refine hd.mono ?_
            rintro e w1 ⟨rfl, q, rfl⟩
            simp only [decOut]
            have hcall := HC.out (wr.drewN q) r (below_drewN' HB.out)
            rw [hfr] at hcall
            have HR := Lib.hid hfr
            clear hfr
            go_wp2_with fail
            refine hcall.mono ?_
            rintro e w2 ⟨rfl, hb2⟩
            have hz2 : w2.cell? ⟨w.heap.size, 1, none⟩ = some (.func (.func 150) #[] #[]) := by rw [hb2.cell (by show w.heap.size < wr.heap.size; omega)]; exact HZ.out
            have HB2 := Lib.hid ((below_drewN' (n := q) HB.out).trans (hb2.mono (by show w.heap.size ≤ wr.heap.size; omega)))
            have hs2 : w.heap.size < w2.heap.size := by have := hb2.size; have : wr.heap.size ≤ w2.heap.size := this; omega
            clear hb2
            go_wp2
            go_quiet (fail)
            have hz3 : Hid ((w2.drewN nq).cell? ⟨w.heap.size, 1, none⟩ = some (.func (.func 150) #[] #[])) := Lib.hid hz2
            go_wp2
            go_roundg (n - (p + m))
            case measure => omega
            case rel =>
              refine ⟨p + m, K - 1, 150, isMore, rfl, rfl, Lib.hid (.inr rfl), by omega, rfl, by omega, Lib.hid ?_, Lib.hid HS.out.2, Lib.hid (below_drewN' HB2.out), hs2, hz3⟩
              have := endL_yes fc isMore (K - 1) _ r m HD.out HR.out
              rw [show K - 1 + 1 = K by omega, List.drop_drop] at this
              rw [HE.out, this]
              omega
      · obtain rfl : p = n := by omega
        go_wp2
        go_ret
        refine ⟨?_, HB.out⟩
        rw [HE.out, List.drop_of_length_le (by rw [hln.out]; exact Nat.le_refl _), endL_none _ _ _ _ (by rfl)]
        rfl
/-- What is read of a name at a place. -/
def nameOut (l : List UInt8) (at_ : Nat) : List UInt8 × Nat × Nat :=
  let k := endL isStart isMore l.length (l.drop at_)
  if k = 0 then ([], 0, 7) else if 1024 < k then ([], 0, 11) else ((l.drop at_).take k, at_ + k, 0)
set_option maxRecDepth 100000 in
set_option maxHeartbeats 2000000 in
theorem readA_c (A : Option Addr) (n cap : Nat) (l : List UInt8) (at_ : Nat) (w : World) (h : Byt w w.heap.size A n cap l) (hF : Forms w) (hm : n ≤ 100000) (hat : at_ ≤ n)(hT : TabN w) :
    Calls Tryz.prog 104 #[namesV, .slice A n cap, .int .i64 at_] w fun e w' => e = .returned (outV (nameOut l at_)) ∧ Below w.heap.size w w' := by
  have hb : Below w.heap.size w (w.alloc (.cells #[.func (.func 149) #[] #[], .func (.func 150) #[] #[]] 210)) := Below.alloc (Below.refl w.heap.size w) (Nat.le_refl _) _
  have hln := h.length
  have hend := endA_c A n cap l at_ _ ((h.below hb).more hb.size) (hF.below hb hF.lt) hm hat (hT.below hb (hT.low hF))
  have hkl : at_ + endL isStart isMore n (l.drop at_) ≤ n := by
    have := endL_le n isStart isMore (l.drop at_)
    rw [List.length_drop, hln] at this
    omega
  have HB := Lib.hid (And.intro h hb)
  have f0 := hp_new w (.cells #[.func (.func 149) #[] #[], .func (.func 150) #[] #[]] 210)
  have hi : (Tryz.prog.info? 210).map (·.size) = some 2 := by kernel_rfl
  obtain ⟨d, hu⟩ := isStruct_of (P := Tryz.prog) (t := 210) (by kernel_rfl)
  have hld := run_loadVar_row _ _ _ _ _ _ _ f0 hu rfl hi
  have HE : Hid (endL isStart isMore l.length (l.drop at_) = endL isStart isMore n (l.drop at_)) := Lib.hid (by rw [hln])
  clear h hF hT hb f0 hu hi hln
  unfold namesV at *
  unfold nameOut
  simp only [HE.out]
  generalize endL isStart isMore n (l.drop at_) = k at *
  have hat' : ¬ (n : Int) < (at_ : Int) := by omega
  have HM := Lib.hid (And.intro hm hat)
  have HN := Lib.hid hend
  clear hm hend
  generalize hres : (if k = 0 then ([], 0, 7) else if 1024 < k then ([], 0, 11) else ((l.drop at_).take k, at_ + k, 0)) = res
  have HR := Lib.hid hres
  clear hres
  go_enter Tryz.func104, Tryz.ntmps104
  go_wp2_with fail
  refine HN.out.mono ?_
  rintro e w1 ⟨rfl, hb1⟩
  have HB1 := Lib.hid ((HB.out.2).trans (hb1.mono HB.out.2.size))
  clear hb1 hld
  rcases (show k = 0 ∨ 1024 < k ∨ (0 < k ∧ k ≤ 1024) by omega) with h0 | h0 | h0
  · subst h0
    have hre := HR.out
    simp only [if_true] at hre
    subst hre
    have hn := Int.natCast_nonneg at_
    go_wp2
    go_ret3
    exact ⟨rfl, HB1.out⟩
  · have hre := HR.out
    rw [if_neg (by omega), if_pos h0] at hre
    subst hre
    have hne : (((at_ + k : Nat) : Int) == (at_ : Int)) = false := by simp; omega
    have hne2 : ((at_ : Int) + (k : Int) == (at_ : Int)) = false := by simp; omega
    have h0' : (1024 : Int) < (k : Int) := by omega
    have hsb : ((at_ : Int) + (k : Int)) - (at_ : Int) = (k : Int) := by omega
    have hw : IntKind.i64.wrap (k : Int) = (k : Int) := by rw [IntKind.wrap_i64]; have := HM.out; omega
    go_wp2
    go_ret3
    exact ⟨rfl, HB1.out⟩
  · have hre := HR.out
    rw [if_neg (by omega), if_neg (by omega)] at hre
    subst hre
    have hne : (((at_ + k : Nat) : Int) == (at_ : Int)) = false := by simp; omega
    have hne2 : ((at_ : Int) + (k : Int) == (at_ : Int)) = false := by simp; omega
    have h0' : ¬ (1024 : Int) < (k : Int) := by omega
    have hsb : ((at_ : Int) + (k : Int)) - (at_ : Int) = (k : Int) := by omega
    have hw : IntKind.i64.wrap (k : Int) = (k : Int) := by rw [IntKind.wrap_i64]; have := HM.out; omega
    have hy := ((HB.out.1.below HB1.out).drop hat).take (k := k) (by omega)
    have hstr := hy.str
    have hcap := HB.out.1.le
    have hrf : ∀ w2 : World, (Instr.slice 22 (.slice A n cap) (some (.int .i64 (at_ : Int))) (some (.int .i64 ((at_ : Int) + (k : Int)))) none).run Tryz.prog w2 = .ok (.slice (cutA A cap at_) k (cap - at_)) w2 := fun w2 => by
      have := run_fromTo (w := w2) A n cap at_ (at_ + k) (by omega) (by omega)
      rw [show at_ + k - at_ = k by omega, show ((at_ + k : Nat) : Int) = (at_ : Int) + (k : Int) by omega] at this
      exact this
    have HY := Lib.hid hy
    clear hy hcap h0
    go_wp2
    go_ret3
    exact ⟨rfl, HB1.out⟩
set_option maxHeartbeats 2000000 in
theorem name_c (A : Option Addr) (n cap : Nat) (l : List UInt8) (at_ : Nat) (w : World) (h : Byt w w.heap.size A n cap l) (hF : Forms w) (hT : TabN w) (hm : n ≤ 100000) (hat : at_ ≤ n) :
    Calls Tryz.prog 70 #[.slice A n cap, .int .i64 at_] w fun e w' => e = .returned (outV (nameOut l at_)) ∧ Below w.heap.size w w' := by
  have hp := names_c w
  have hL := hT.low hF
  have HH := Lib.hid (And.intro h (And.intro hF (And.intro hm (And.intro hat (And.intro hT hL)))))
  clear h hF hT hm hat hL
  go_enter Tryz.func70, Tryz.ntmps70
  go_wp2_with fail
  refine hp.mono ?_
  rintro e w1 ⟨rfl, hb⟩
  have hr := readA_c A n cap l at_ w1 ((HH.out.1.below hb).more hb.size) (HH.out.2.1.below hb HH.out.2.1.lt) HH.out.2.2.1 HH.out.2.2.2.1 (HH.out.2.2.2.2.1.below hb HH.out.2.2.2.2.2)
  have HB := Lib.hid hb
  clear hb hp
  unfold outV at *
  go_wp2_with fail
  refine hr.mono ?_
  rintro e w2 ⟨rfl, hb2⟩
  have HB2 := Lib.hid (HB.out.trans (hb2.mono HB.out.size))
  clear hr hb2
  go_wp2
  go_ret3
  exact ⟨rfl, HB2.out⟩
end Go.Proofs.YtgenpgfhjhcahaaGreatDoor
/- The document's digits. -/
namespace Go.Proofs.YtgenpgfhjhcahaaGreatDoor
open Go.ChangeShapes Go.WideShapes Go.ChangeAt Go.RowKit
set_option linter.unusedVariables false
end Go.Proofs.YtgenpgfhjhcahaaGreatDoor
/- cref.Char. -/
namespace Go.Proofs.YtgenpgfhjhcahaaGreatDoor
open Go.ChangeShapes Go.WideShapes Go.ChangeAt Go.RowKit
set_option linter.unusedVariables false
end Go.Proofs.YtgenpgfhjhcahaaGreatDoor
/- cref.Char. -/
namespace Go.Proofs.YtgenpgfhjhcahaaGreatDoor
open Go.ChangeShapes Go.WideShapes Go.ChangeAt Go.RowKit
set_option linter.unusedVariables false
theorem ne_byte' (c n : UInt8) (z : Int) (hz : z = (n.toNat : Int)) (h : ¬ c = n) : ((c.toNat : Int) == z) = false := by rw [hz, toNat_eq]; simp [h]
end Go.Proofs.YtgenpgfhjhcahaaGreatDoor
/- strings.Builder: what its methods do to a builder that the call has made. -/
namespace Go.Proofs.YtgenpgfhjhcahaaGreatDoor
open Go.ChangeShapes Go.WideShapes Go.ChangeAt Go.RowKit
set_option linter.unusedVariables false
/-- A strings.Builder that the call has made, in block b, that holds the bytes l; its row of bytes lies at R or behind; p: what 'addr' holds. -/
def BldP (p : Value) (R b : Nat) (l : List UInt8) (w : World) : Prop :=
  b < R ∧ ∃ v, w.heap[b]? = some (.cells #[p, v] 283 (0, 0)) ∧ w.ownsRow R 5 1 v l.length (Lib.byteCells l)
/-- .. fresh or used. -/
def Bld (R b : Nat) (l : List UInt8) (w : World) : Prop := BldP (.pointer none) R b l w ∨ BldP (.pointer (some ⟨b, 0, none⟩)) R b l w
/-- Below R every block but b stands. -/
structure Fr (R b : Nat) (w w' : World) : Prop where
  os : w'.os = w.os
  tape : w'.tape = w.tape
  output : w'.output = w.output
  size : w.heap.size ≤ w'.heap.size
  block : ∀ k, k < R → k ≠ b → w'.heap[k]? = w.heap[k]?
theorem Fr.refl (R b : Nat) (w : World) : Fr R b w w := ⟨rfl, rfl, rfl, Nat.le_refl _, fun _ _ _ => rfl⟩
theorem Fr.trans {R b : Nat} {x y z : World} (h : Fr R b x y) (k : Fr R b y z) : Fr R b x z :=
  ⟨k.os.trans h.os, k.tape.trans h.tape, k.output.trans h.output, Nat.le_trans h.size k.size, fun i hi hb => (k.block i hi hb).trans (h.block i hi hb)⟩
theorem Fr.below {R b B : Nat} {w w' : World} (h : Fr R b w w') (hR : B ≤ R) (hb : B ≤ b) : Below B w w' := ⟨h.os, h.tape, h.output, h.size, fun k hk => h.block k (by omega) (by omega)⟩
theorem Fr.mono {R R' b : Nat} {w w' : World} (h : Fr R b w w') (hR : R' ≤ R) : Fr R' b w w' := ⟨h.os, h.tape, h.output, h.size, fun k hk hb => h.block k (by omega) hb⟩
theorem Fr.ofBelow {R b : Nat} {w w' : World} (h : Below R w w') : Fr R b w w' := ⟨h.os, h.tape, h.output, h.size, fun k hk _ => h.block k hk⟩
theorem Fr.set {R b : Nat} {w w' : World} (h : Fr R b w w') (i : Nat) (v : Value) : Fr R b w (w'.setCell ⟨b, i, none⟩ v) :=
  ⟨h.os, h.tape, h.output, by have := h.size; simpa [World.setCell] using this, fun k hk hb => by rw [hp_other hb]; exact h.block k hk hb⟩
theorem ownsRow_base {w : World} {B B' : Nat} {e : TypeId} {c : Nat} {v : Value} {n : Nat} {xs : List Value} (h : w.ownsRow B e c v n xs) (hB : B' ≤ B) : w.ownsRow B' e c v n xs := by
  obtain ⟨hl, h2 | ⟨g, cap, cur, hv, hg, r⟩⟩ := h
  · exact ⟨hl, Or.inl h2⟩
  · exact ⟨hl, Or.inr ⟨g, cap, cur, hv, by omega, r⟩⟩
theorem Bld.p {R b : Nat} {l : List UInt8} {w : World} (h : Bld R b l w) : ∃ p, BldP p R b l w := by
  rcases h with h | h
  · exact ⟨_, h⟩
  · exact ⟨_, h⟩
theorem Bld.lt {R b : Nat} {l : List UInt8} {w : World} (h : Bld R b l w) : b < w.heap.size := by
  obtain ⟨p, hb, v, hh, ho⟩ := h.p
  exact lt_of hh
theorem BldP.alloc {p : Value} {R b : Nat} {l : List UInt8} {w : World} (h : BldP p R b l w) (o : Obj) : BldP p R b l (w.alloc o) := by
  obtain ⟨hb, v, hh, ho⟩ := h
  exact ⟨hb, v, hp_old hh, ho.alloc _⟩
theorem Bld.alloc {R b : Nat} {l : List UInt8} {w : World} (h : Bld R b l w) (o : Obj) : Bld R b l (w.alloc o) := by
  rcases h with h | h
  · exact Or.inl (h.alloc o)
  · exact Or.inr (h.alloc o)
theorem Bld.drewN {R b : Nat} {l : List UInt8} {w : World} (h : Bld R b l w) (n : Nat) : Bld R b l (w.drewN n) := h
/-- Below the heap's size every block stands: so does the builder. -/
theorem BldP.kept {p : Value} {R b : Nat} {l : List UInt8} {w w' : World} (h : BldP p R b l w) (hb : Below w.heap.size w w') : BldP p R b l w' := by
  obtain ⟨hb', v, hh, ho⟩ := h
  refine ⟨hb', v, (hb.block b (lt_of hh)).trans hh, ho.kept (row := none) (hb.gr none) ?_⟩
  cases hv : v.ownBlock with
  | none => exact Or.inl rfl
  | some k => exact Or.inr (by simp)
theorem Bld.kept {R b : Nat} {l : List UInt8} {w w' : World} (h : Bld R b l w) (hb : Below w.heap.size w w') : Bld R b l w' := by
  rcases h with h | h
  · exact Or.inl (h.kept hb)
  · exact Or.inr (h.kept hb)
theorem Bld.fresh (R : Nat) (w : World) (hR : w.heap.size < R) : Bld R w.heap.size [] (w.alloc (.cells #[.pointer none, .slice none 0 0] 283)) :=
  Or.inl ⟨hR, .slice none 0 0, hp_new w _, World.ownsRow_nil _ _ _ _⟩
theorem Bld.is {R b : Nat} {l : List UInt8} {w : World} (h : Bld R b l w) : Lib.IsBuilder 283 5 b b (Lib.byteCells l) w := by
  have aux : ∀ p, BldP p R b l w → Lib.BuilderAt 283 5 b b p (Lib.byteCells l) w := by
    rintro p ⟨hb, v, hh, ho⟩
    refine ⟨Nat.le_refl _, v, hh, ?_, ?_⟩
    · rw [Lib.byteCells_length]; exact ownsRow_base ho (by omega)
    · intro e
      have := (ho.lt b e).1
      omega
  rcases h with h | h
  · exact Or.inl (aux _ h)
  · exact Or.inr (aux _ h)
end Go.Proofs.YtgenpgfhjhcahaaGreatDoor
/- cref.Escape. -/
namespace Go.Proofs.YtgenpgfhjhcahaaGreatDoor
open Go.ChangeShapes Go.WideShapes Go.ChangeAt Go.RowKit
set_option linter.unusedVariables false
theorem ne_byte (c n : UInt8) (z : Int) (hz : z = (n.toNat : Int)) (h : ¬ c = n) : ((c.toNat : Int) == z) = false := by rw [hz, toNat_eq]; simp [h]
end Go.Proofs.YtgenpgfhjhcahaaGreatDoor
/- lit.Quoted. -/
namespace Go.Proofs.YtgenpgfhjhcahaaGreatDoor
open Go.ChangeShapes Go.WideShapes Go.ChangeAt Go.RowKit
set_option linter.unusedVariables false
theorem indexByte_c (A : Option Addr) (n cap : Nat) (l : List UInt8) (c : UInt8) (w : World) (B : Nat) (h : Byt w B A n cap l) :
    Calls Tryz.prog 126 #[.slice A n cap, .int .u8 c.toNat] w fun e w' => e = .returned (.int .i64 (Lib.indexByte l c)) ∧ w' = w := by
  have hcc : ((c.toNat : Int).toNat.toUInt8) = c := by simp
  cases A with
  | none =>
    have hc := h.nil rfl
    have hn := h.le
    have hl := h.length
    obtain rfl : cap = 0 := hc
    obtain rfl : n = 0 := by omega
    obtain rfl : l = [] := List.length_eq_zero_iff.1 hl
    exact (Tryz.bytes_IndexByte_nil (c.toNat : Int) w)
  | some a =>
    refine (Tryz.bytes_IndexByte_at a n cap (nums l) (c.toNat : Int) w (by rw [nums_length, h.length]) fun i hi => ?_).mono fun e w' ⟨he, hw⟩ => ⟨by rw [he, bytesOf_nums, hcc], hw⟩
    obtain ⟨b, o, e, hc⟩ := h.cells (by have := h.le; omega)
    cases e
    have := hc i hi
    unfold Addr.add
    split
    · rename_i h0; subst h0; rw [Nat.add_zero] at this; exact this
    · exact this
set_option maxRecDepth 100000 in
set_option maxHeartbeats 2000000 in
theorem quoted_range (A : Option Addr) (n cap : Nat) (at_ : Int) (w : World) (ha : at_ < 0 ∨ (n : Int) < at_) :
    Calls Tryz.prog 141 #[.slice A n cap, .int .i64 at_] w fun e w' => e = .returned (outV ([], 0, 3)) ∧ w = w' := by
  by_cases h0 : at_ < 0
  · have hd : decide (at_ < 0) = true := by simpa using h0
    clear ha
    go_enter Tryz.func141, Tryz.ntmps141
    go_wp2
    go_ret3
    exact ⟨rfl, rfl⟩
  · have h1 : (n : Int) < at_ := by omega
    clear ha
    go_enter Tryz.func141, Tryz.ntmps141
    go_wp2
    go_ret3
    exact ⟨rfl, rfl⟩
set_option maxRecDepth 100000 in
set_option maxHeartbeats 2000000 in
theorem quoted_no (A : Option Addr) (n cap : Nat) (l : List UInt8) (k : Nat) (w : World) (B : Nat) (h : Byt w B A n cap l) (hm : n ≤ 50000) (hk : k ≤ n) (hq : ∀ q, l[k]? = some q → ¬ (q = 34 ∨ q = 39)) :
    Calls Tryz.prog 141 #[.slice A n cap, .int .i64 k] w fun e w' => e = .returned (outV ([], 0, 7)) ∧ w = w' := by
  have hat' : ¬ (n : Int) < (k : Int) := by omega
  by_cases hkn : k = n
  · have hkn' : ((k : Int) == (n : Int)) = true := by simp; omega
    clear hq h hm hk hkn
    go_enter Tryz.func141, Tryz.ntmps141
    go_wp2
    go_ret3
    exact ⟨rfl, rfl⟩
  · have hkn' : ((k : Int) == (n : Int)) = false := by simp; omega
    obtain ⟨b, o, c, rfl, hb, hc, hcell⟩ := h.cell (i := k) (by omega)
    have hli : (k : Int) < (n : Int) := by omega
    have hq' := not_or.1 (hq c hc)
    have e1 : ((c.toNat : Int) != 34) = true := by have := ne_byte' c 34 34 rfl hq'.1; simp [bne, this]
    have e2 : ((c.toNat : Int) != 39) = true := by have := ne_byte' c 39 39 rfl hq'.2; simp [bne, this]
    clear hq hq' h hm hk hkn hc
    generalize (c.toNat : Int) = cn at *
    go_enter Tryz.func141, Tryz.ntmps141
    go_wp2
    go_ret3
    exact ⟨rfl, rfl⟩
set_option maxRecDepth 100000 in
set_option maxHeartbeats 2000000 in
theorem quoted_34 (A : Option Addr) (n cap : Nat) (l : List UInt8) (k : Nat) (w : World) (B : Nat) (h : Byt w B A n cap l) (hm : n ≤ 50000) (hq : l[k]? = some 34) :
    Calls Tryz.prog 141 #[.slice A n cap, .int .i64 k] w fun e w' => e = .returned (outV (quotedQ 34 l k)) ∧ ∃ m, w' = w.drewN m := by
  have hl := h.length
  have hkn : k < n := by
    rcases Nat.lt_or_ge k l.length with g | g
    · omega
    · rw [List.getElem?_eq_none g] at hq; cases hq
  have hat' : ¬ (n : Int) < (k : Int) := by omega
  have hne : ((k : Int) == (n : Int)) = false := by simp; omega
  obtain ⟨b, o, c, rfl, hb, hc, hcell⟩ := h.cell (i := k) hkn
  have hcq : c = 34 := by rw [hq] at hc; exact (Option.some.inj hc).symm
  have hcell' : w.cell? ⟨b, o + k, none⟩ = some (.int .u8 34) := by rw [hcell, hcq]; rfl
  have hli : (k : Int) < (n : Int) := by omega
  have hk0 : (0 : Int) ≤ (k : Int) := by omega
  have hk1 : (k : Int) ≤ 50000 := by omega
  have hk2 : (0 : Int) ≤ (k : Int) + 1 := by omega
  have hk3 : (k : Int) + 1 ≤ (n : Int) := by omega
  have hap : IntKind.i64.wrap ((k : Int) + 1) = (k : Int) + 1 := by rw [IntKind.wrap_i64]; omega
  have hrf : ∀ w2 : World, (Instr.slice 22 (.slice (some ⟨b, o, none⟩) n cap) (some (.int .i64 ((k : Int) + 1))) none none).run Tryz.prog w2 = .ok (.slice (cutA (some ⟨b, o, none⟩) cap (k + 1)) (n - (k + 1)) (cap - (k + 1))) w2 := fun w2 => run_from (w := w2) (some ⟨b, o, none⟩) n cap (k + 1) (by omega)
  have hdr := h.drop (k := k + 1) (by omega)
  have HI : Hid (∀ m, Calls Tryz.prog 126 #[.slice (cutA (some ⟨b, o, none⟩) cap (k + 1)) (n - (k + 1)) (cap - (k + 1)), .int .u8 34] (w.drewN m) fun e w' => e = .returned (.int .i64 (Lib.indexByte (l.drop (k + 1)) 34)) ∧ w' = w.drewN m) := Lib.hid fun m => indexByte_c _ _ _ (l.drop (k + 1)) 34 (w.drewN m) _ hdr.drewN
  have hlo := ix_lo 34 (l.drop (k + 1))
  rw [List.length_drop, hl] at hlo
  have hcap := h.le
  have HQ : Hid (quotedQ 34 l k = if Lib.indexByte (l.drop (k + 1)) 34 < 0 then ([], 0, 7) else ((l.drop (k + 1)).take (Lib.indexByte (l.drop (k + 1)) 34).toNat, k + (Lib.indexByte (l.drop (k + 1)) 34).toNat + 2, 0)) := Lib.hid rfl
  have HB : Hid (∀ j m, j ≤ n - (k + 1) → (convert 22 9 (.slice (cutA (some ⟨b, o, none⟩) cap (k + 1)) j (cap - (k + 1)))).run Tryz.prog (w.drewN m) = .ok (.string ⟨((l.drop (k + 1)).take j).toArray⟩) (w.drewN m)) := Lib.hid fun j m hj => (hdr.drewN.take hj).str
  have hlo1 := hlo.1
  have hlo2 := hlo.2
  clear h hc hcell hcq hdr hq hl hlo
  generalize Lib.indexByte (l.drop (k + 1)) 34 = ix at *
  generalize quotedQ 34 l k = res at *
  have hcut : ∀ j : Nat, j ≤ n - (k + 1) → ∀ w2 : World, (Instr.slice 22 (.slice (some ⟨b, o, none⟩) n cap) (some (.int .i64 ((k : Int) + 1))) (some (.int .i64 ((k : Int) + 1 + (j : Int)))) none).run Tryz.prog w2 = .ok (.slice (cutA (some ⟨b, o, none⟩) cap (k + 1)) j (cap - (k + 1))) w2 := fun j hj w2 => by
    have := run_fromTo (w := w2) (some ⟨b, o, none⟩) n cap (k + 1) (k + 1 + j) (by omega) (by omega)
    rw [show k + 1 + j - (k + 1) = j by omega, show ((k + 1 + j : Nat) : Int) = (k : Int) + 1 + (j : Int) by omega] at this
    exact this
  have HCUT := Lib.hid hcut
  clear hcut hcap
  go_enter Tryz.func141, Tryz.ntmps141
  go_wp2
  go_quiet ((go_at_call 126; exact Calls.quiet_of_same (HI.out _)))
  clear HI
  generalize hwq : w.drewN nq = wq at *
  have HWQ := Lib.hid hwq
  clear hwq
  by_cases hx : ix < 0
  · have hd : decide (ix < 0) = true := by simpa using hx
    have HRES : Hid (res = ([], 0, 7)) := Lib.hid (by rw [HQ.out, if_pos hx])
    go_wp2
    go_ret3
    rw [HRES.out]
    exact ⟨rfl, _, HWQ.out.symm⟩
  · obtain ⟨j, rfl⟩ : ∃ j : Nat, ix = (j : Int) := ⟨ix.toNat, by omega⟩
    have hd : decide ((j : Int) < 0) = false := by simp
    have hjn : j ≤ n - (k + 1) := by omega
    have HRES : Hid (res = ((l.drop (k + 1)).take j, k + j + 2, 0)) := Lib.hid (by rw [HQ.out, if_neg hx, Int.toNat_natCast])
    have hct := HCUT.out j hjn
    have hst : (convert 22 9 (.slice (cutA (some ⟨b, o, none⟩) cap (k + 1)) j (cap - (k + 1)))).run Tryz.prog wq = .ok (.string ⟨((l.drop (k + 1)).take j).toArray⟩) wq := by rw [← HWQ.out]; exact HB.out j _ hjn
    have hjb : (j : Int) ≤ 50000 := by omega
    generalize (l.drop (k + 1)).take j = T at *
    have hw1 : IntKind.i64.wrap ((k : Int) + 1 + (j : Int)) = (k : Int) + 1 + (j : Int) := by rw [IntKind.wrap_i64]; omega
    have hw2 : IntKind.i64.wrap ((k : Int) + (j : Int)) = (k : Int) + (j : Int) := by rw [IntKind.wrap_i64]; omega
    have hw3 : IntKind.i64.wrap ((k : Int) + (j : Int) + 2) = (k : Int) + (j : Int) + 2 := by rw [IntKind.wrap_i64]; omega
    clear hx hlo1 hlo2
    go_wp2
    go_ret3
    rw [HRES.out]
    exact ⟨rfl, _, HWQ.out.symm⟩
set_option maxRecDepth 100000 in
set_option maxHeartbeats 2000000 in
theorem quoted_39 (A : Option Addr) (n cap : Nat) (l : List UInt8) (k : Nat) (w : World) (B : Nat) (h : Byt w B A n cap l) (hm : n ≤ 50000) (hq : l[k]? = some 39) :
    Calls Tryz.prog 141 #[.slice A n cap, .int .i64 k] w fun e w' => e = .returned (outV (quotedQ 39 l k)) ∧ ∃ m, w' = w.drewN m := by
  have hl := h.length
  have hkn : k < n := by
    rcases Nat.lt_or_ge k l.length with g | g
    · omega
    · rw [List.getElem?_eq_none g] at hq; cases hq
  have hat' : ¬ (n : Int) < (k : Int) := by omega
  have hne : ((k : Int) == (n : Int)) = false := by simp; omega
  obtain ⟨b, o, c, rfl, hb, hc, hcell⟩ := h.cell (i := k) hkn
  have hcq : c = 39 := by rw [hq] at hc; exact (Option.some.inj hc).symm
  have hcell' : w.cell? ⟨b, o + k, none⟩ = some (.int .u8 39) := by rw [hcell, hcq]; rfl
  have hli : (k : Int) < (n : Int) := by omega
  have hk0 : (0 : Int) ≤ (k : Int) := by omega
  have hk1 : (k : Int) ≤ 50000 := by omega
  have hk2 : (0 : Int) ≤ (k : Int) + 1 := by omega
  have hk3 : (k : Int) + 1 ≤ (n : Int) := by omega
  have hap : IntKind.i64.wrap ((k : Int) + 1) = (k : Int) + 1 := by rw [IntKind.wrap_i64]; omega
  have hrf : ∀ w2 : World, (Instr.slice 22 (.slice (some ⟨b, o, none⟩) n cap) (some (.int .i64 ((k : Int) + 1))) none none).run Tryz.prog w2 = .ok (.slice (cutA (some ⟨b, o, none⟩) cap (k + 1)) (n - (k + 1)) (cap - (k + 1))) w2 := fun w2 => run_from (w := w2) (some ⟨b, o, none⟩) n cap (k + 1) (by omega)
  have hdr := h.drop (k := k + 1) (by omega)
  have HI : Hid (∀ m, Calls Tryz.prog 126 #[.slice (cutA (some ⟨b, o, none⟩) cap (k + 1)) (n - (k + 1)) (cap - (k + 1)), .int .u8 39] (w.drewN m) fun e w' => e = .returned (.int .i64 (Lib.indexByte (l.drop (k + 1)) 39)) ∧ w' = w.drewN m) := Lib.hid fun m => indexByte_c _ _ _ (l.drop (k + 1)) 39 (w.drewN m) _ hdr.drewN
  have hlo := ix_lo 39 (l.drop (k + 1))
  rw [List.length_drop, hl] at hlo
  have hcap := h.le
  have HQ : Hid (quotedQ 39 l k = if Lib.indexByte (l.drop (k + 1)) 39 < 0 then ([], 0, 7) else ((l.drop (k + 1)).take (Lib.indexByte (l.drop (k + 1)) 39).toNat, k + (Lib.indexByte (l.drop (k + 1)) 39).toNat + 2, 0)) := Lib.hid rfl
  have HB : Hid (∀ j m, j ≤ n - (k + 1) → (convert 22 9 (.slice (cutA (some ⟨b, o, none⟩) cap (k + 1)) j (cap - (k + 1)))).run Tryz.prog (w.drewN m) = .ok (.string ⟨((l.drop (k + 1)).take j).toArray⟩) (w.drewN m)) := Lib.hid fun j m hj => (hdr.drewN.take hj).str
  have hlo1 := hlo.1
  have hlo2 := hlo.2
  clear h hc hcell hcq hdr hq hl hlo
  generalize Lib.indexByte (l.drop (k + 1)) 39 = ix at *
  generalize quotedQ 39 l k = res at *
  have hcut : ∀ j : Nat, j ≤ n - (k + 1) → ∀ w2 : World, (Instr.slice 22 (.slice (some ⟨b, o, none⟩) n cap) (some (.int .i64 ((k : Int) + 1))) (some (.int .i64 ((k : Int) + 1 + (j : Int)))) none).run Tryz.prog w2 = .ok (.slice (cutA (some ⟨b, o, none⟩) cap (k + 1)) j (cap - (k + 1))) w2 := fun j hj w2 => by
    have := run_fromTo (w := w2) (some ⟨b, o, none⟩) n cap (k + 1) (k + 1 + j) (by omega) (by omega)
    rw [show k + 1 + j - (k + 1) = j by omega, show ((k + 1 + j : Nat) : Int) = (k : Int) + 1 + (j : Int) by omega] at this
    exact this
  have HCUT := Lib.hid hcut
  clear hcut hcap
  go_enter Tryz.func141, Tryz.ntmps141
  go_wp2
  go_quiet ((go_at_call 126; exact Calls.quiet_of_same (HI.out _)))
  clear HI
  generalize hwq : w.drewN nq = wq at *
  have HWQ := Lib.hid hwq
  clear hwq
  by_cases hx : ix < 0
  · have hd : decide (ix < 0) = true := by simpa using hx
    have HRES : Hid (res = ([], 0, 7)) := Lib.hid (by rw [HQ.out, if_pos hx])
    go_wp2
    go_ret3
    rw [HRES.out]
    exact ⟨rfl, _, HWQ.out.symm⟩
  · obtain ⟨j, rfl⟩ : ∃ j : Nat, ix = (j : Int) := ⟨ix.toNat, by omega⟩
    have hd : decide ((j : Int) < 0) = false := by simp
    have hjn : j ≤ n - (k + 1) := by omega
    have HRES : Hid (res = ((l.drop (k + 1)).take j, k + j + 2, 0)) := Lib.hid (by rw [HQ.out, if_neg hx, Int.toNat_natCast])
    have hct := HCUT.out j hjn
    have hst : (convert 22 9 (.slice (cutA (some ⟨b, o, none⟩) cap (k + 1)) j (cap - (k + 1)))).run Tryz.prog wq = .ok (.string ⟨((l.drop (k + 1)).take j).toArray⟩) wq := by rw [← HWQ.out]; exact HB.out j _ hjn
    have hjb : (j : Int) ≤ 50000 := by omega
    generalize (l.drop (k + 1)).take j = T at *
    have hw1 : IntKind.i64.wrap ((k : Int) + 1 + (j : Int)) = (k : Int) + 1 + (j : Int) := by rw [IntKind.wrap_i64]; omega
    have hw2 : IntKind.i64.wrap ((k : Int) + (j : Int)) = (k : Int) + (j : Int) := by rw [IntKind.wrap_i64]; omega
    have hw3 : IntKind.i64.wrap ((k : Int) + (j : Int) + 2) = (k : Int) + (j : Int) + 2 := by rw [IntKind.wrap_i64]; omega
    clear hx hlo1 hlo2
    go_wp2
    go_ret3
    rw [HRES.out]
    exact ⟨rfl, _, HWQ.out.symm⟩
/-- lit.Quoted. -/
theorem quoted_c (A : Option Addr) (n cap : Nat) (l : List UInt8) (at_ : Int) (w : World) (B : Nat) (h : Byt w B A n cap l) (hm : n ≤ 50000) :
    Calls Tryz.prog 141 #[.slice A n cap, .int .i64 at_] w fun e w' => e = .returned (outV (quotedAt l at_)) ∧ ∃ m, w' = w.drewN m := by
  have hl := h.length
  unfold quotedAt
  rw [hl]
  by_cases ha : at_ < 0 ∨ (n : Int) < at_
  · rw [if_pos ha]; exact (quoted_range A n cap at_ w ha).mono fun e w' ⟨he, hw⟩ => ⟨he, 0, hw.symm⟩
  · rw [if_neg ha]
    obtain ⟨k, rfl⟩ : ∃ k : Nat, at_ = (k : Int) := ⟨at_.toNat, by omega⟩
    rw [Int.toNat_natCast]
    unfold quotedOut
    cases hq : l[k]? with
    | none => exact (quoted_no A n cap l k w B h hm (by omega) (fun q e => by rw [hq] at e; cases e)).mono fun e w' ⟨he, hw⟩ => ⟨he, 0, hw.symm⟩
    | some q =>
      simp only
      by_cases hqq : q = 34 ∨ q = 39
      · rw [if_pos hqq]
        rcases hqq with rfl | rfl
        · exact quoted_34 A n cap l k w B h hm hq
        · exact quoted_39 A n cap l k w B h hm hq
      · rw [if_neg hqq]; exact (quoted_no A n cap l k w B h hm (by omega) (fun q' e => by rw [hq] at e; cases e; exact hqq)).mono fun e w' ⟨he, hw⟩ => ⟨he, 0, hw.symm⟩
end Go.Proofs.YtgenpgfhjhcahaaGreatDoor
/- lit.Refs. -/
namespace Go.Proofs.YtgenpgfhjhcahaaGreatDoor
open Go.ChangeShapes Go.WideShapes Go.ChangeAt Go.RowKit
set_option linter.unusedVariables false
end Go.Proofs.YtgenpgfhjhcahaaGreatDoor
/- narthexref06.Char. -/
namespace Go.Proofs.YtgenpgfhjhcahaaGreatDoor
open Go.ChangeShapes Go.WideShapes Go.ChangeAt Go.RowKit
set_option linter.unusedVariables false
end Go.Proofs.YtgenpgfhjhcahaaGreatDoor
/- narthexref07.Refs. -/
namespace Go.Proofs.YtgenpgfhjhcahaaGreatDoor
open Go.ChangeShapes Go.WideShapes Go.ChangeAt Go.RowKit
set_option linter.unusedVariables false
end Go.Proofs.YtgenpgfhjhcahaaGreatDoor
/- lit.read, Value. -/
namespace Go.Proofs.YtgenpgfhjhcahaaGreatDoor
open Go.ChangeShapes Go.WideShapes Go.ChangeAt Go.RowKit
set_option linter.unusedVariables false
end Go.Proofs.YtgenpgfhjhcahaaGreatDoor
