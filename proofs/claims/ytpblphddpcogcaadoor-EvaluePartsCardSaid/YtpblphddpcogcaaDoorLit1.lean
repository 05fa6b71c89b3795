/- lit.Quoted. -/
import Derived.Test.YtpblphddpcogcaaDoorRows
import Derived.WalkKit
import Derived.ProofKit
import Derived.OpenShut
import Derived.ShutString
import Derived.ChangeOld
import Derived.Below
import Derived.BigQuiet
import Derived.Deep.QuietTactic
import Derived.Lib.Hide
import Derived.Deep.RegionHeld3
import Derived.Lib.SlBytesConst
import Derived.Laws.CopyOwn
import Derived.Laws.CopyRow
import Derived.Lib.Bytes
import Derived.Deep.LoopGhost
import Derived.Deep.DeepFit
import Derived.Deep.DeepMust
import Derived.WalkSpells
import Derived.WalkLawsBesides
import Derived.Test.YtpblphddpcogcaaDoorBase
import Derived.Test.YtpblphddpcogcaaDoorShelf
import Derived.Test.YtpblphddpcogcaaDoorShelf2
import Derived.Test.YtpblphddpcogcaaDoorCharPlain
import Derived.Test.YtpblphddpcogcaaDoorUtf1
import Derived.Test.YtpblphddpcogcaaDoorUtf2
import Derived.Test.YtpblphddpcogcaaDoorUtf3
import Derived.Test.YtpblphddpcogcaaDoorChars1
import Derived.Test.YtpblphddpcogcaaDoorName1
import Derived.Test.YtpblphddpcogcaaDoorName2
import Derived.Test.YtpblphddpcogcaaDoorName3
import Derived.Test.YtpblphddpcogcaaDoorCref1
import Derived.Test.YtpblphddpcogcaaDoorCref2
import Derived.Test.YtpblphddpcogcaaDoorDig
import Derived.Test.YtpblphddpcogcaaDoorDig2
import Derived.Test.YtpblphddpcogcaaDoorRef1
import Derived.Test.YtpblphddpcogcaaDoorNum
import Derived.Test.YtpblphddpcogcaaDoorCChar
import Derived.Test.YtpblphddpcogcaaDoorCChar2
import Derived.Test.YtpblphddpcogcaaDoorLitP
namespace Go.Proofs.YtpblphddpcogcaaDoor
open Go.ChangeShapes Go.WideShapes Go.ChangeAt Go.RowKit
set_option linter.unusedVariables false
theorem indexByte_c (A : Option Addr) (n cap : Nat) (l : List UInt8) (c : UInt8) (w : World) (B : Nat) (h : Byt w B A n cap l) :
    Calls Tryd.prog 94 #[.slice A n cap, .int .u8 c.toNat] w fun e w' => e = .returned (.int .i64 (Lib.indexByte l c)) ∧ w' = w := by
  have hcc : ((c.toNat : Int).toNat.toUInt8) = c := by simp
  cases A with
  | none =>
    have hc := h.nil rfl
    have hn := h.le
    have hl := h.length
    obtain rfl : cap = 0 := hc
    obtain rfl : n = 0 := by omega
    obtain rfl : l = [] := List.length_eq_zero_iff.1 hl
    exact (Tryd.bytes_IndexByte_nil (c.toNat : Int) w)
  | some a =>
    refine (Tryd.bytes_IndexByte_at a n cap (nums l) (c.toNat : Int) w (by rw [nums_length, h.length]) fun i hi => ?_).mono fun e w' ⟨he, hw⟩ => ⟨by rw [he, bytesOf_nums, hcc], hw⟩
    obtain ⟨b, o, e, hc⟩ := h.cells (by have := h.le; omega)
    cases e
    have := hc i hi
    unfold Addr.add
    split
    · rename_i h0; subst h0; rw [Nat.add_zero] at this; exact this
    · exact this
set_option maxRecDepth 100000 in
set_option maxHeartbeats 2000000 in
theorem quoted_range (A : Option Addr) (n cap : Nat) (at_ : Int) (w : World) (ha : at_ < 0 ∨ (n : Int) < at_) :
    Calls Tryd.prog 117 #[.slice A n cap, .int .i64 at_] w fun e w' => e = .returned (outV ([], 0, 3)) ∧ w = w' := by
  by_cases h0 : at_ < 0
  · have hd : decide (at_ < 0) = true := by simpa using h0
    clear ha
    go_enter Tryd.func117, Tryd.ntmps117
    go_wp2
    go_ret3
    exact ⟨rfl, rfl⟩
  · have h1 : (n : Int) < at_ := by omega
    clear ha
    go_enter Tryd.func117, Tryd.ntmps117
    go_wp2
    go_ret3
    exact ⟨rfl, rfl⟩
set_option maxRecDepth 100000 in
set_option maxHeartbeats 2000000 in
theorem quoted_no (A : Option Addr) (n cap : Nat) (l : List UInt8) (k : Nat) (w : World) (B : Nat) (h : Byt w B A n cap l) (hm : n ≤ 50000) (hk : k ≤ n) (hq : ∀ q, l[k]? = some q → ¬ (q = 34 ∨ q = 39)) :
    Calls Tryd.prog 117 #[.slice A n cap, .int .i64 k] w fun e w' => e = .returned (outV ([], 0, 7)) ∧ w = w' := by
  have hat' : ¬ (n : Int) < (k : Int) := by omega
  by_cases hkn : k = n
  · have hkn' : ((k : Int) == (n : Int)) = true := by simp; omega
    clear hq h hm hk hkn
    go_enter Tryd.func117, Tryd.ntmps117
    go_wp2
    go_ret3
    exact ⟨rfl, rfl⟩
  · have hkn' : ((k : Int) == (n : Int)) = false := by simp; omega
    obtain ⟨b, o, c, rfl, hb, hc, hcell⟩ := h.cell (i := k) (by omega)
    have hli : (k : Int) < (n : Int) := by omega
    have hq' := not_or.1 (hq c hc)
    have e1 : ((c.toNat : Int) != 34) = true := by have := ne_byte' c 34 34 rfl hq'.1; simp [bne, this]
    have e2 : ((c.toNat : Int) != 39) = true := by have := ne_byte' c 39 39 rfl hq'.2; simp [bne, this]
    clear hq hq' h hm hk hkn hc
    generalize (c.toNat : Int) = cn at *
    go_enter Tryd.func117, Tryd.ntmps117
    go_wp2
    go_ret3
    exact ⟨rfl, rfl⟩
set_option maxRecDepth 100000 in
set_option maxHeartbeats 2000000 in
theorem quoted_34 (A : Option Addr) (n cap : Nat) (l : List UInt8) (k : Nat) (w : World) (B : Nat) (h : Byt w B A n cap l) (hm : n ≤ 50000) (hq : l[k]? = some 34) :
    Calls Tryd.prog 117 #[.slice A n cap, .int .i64 k] w fun e w' => e = .returned (outV (quotedQ 34 l k)) ∧ ∃ m, w' = w.drewN m := by
  have hl := h.length
  have hkn : k < n := by
    rcases Nat.lt_or_ge k l.length with g | g
    · omega
    · rw [List.getElem?_eq_none g] at hq; cases hq
  have hat' : ¬ (n : Int) < (k : Int) := by omega
  have hne : ((k : Int) == (n : Int)) = false := by simp; omega
  obtain ⟨b, o, c, rfl, hb, hc, hcell⟩ := h.cell (i := k) hkn
  have hcq : c = 34 := by rw [hq] at hc; exact (Option.some.inj hc).symm
  have hcell' : w.cell? ⟨b, o + k, none⟩ = some (.int .u8 34) := by rw [hcell, hcq]; rfl
  have hli : (k : Int) < (n : Int) := by omega
  have hk0 : (0 : Int) ≤ (k : Int) := by omega
  have hk1 : (k : Int) ≤ 50000 := by omega
  have hk2 : (0 : Int) ≤ (k : Int) + 1 := by omega
  have hk3 : (k : Int) + 1 ≤ (n : Int) := by omega
  have hap : IntKind.i64.wrap ((k : Int) + 1) = (k : Int) + 1 := by rw [IntKind.wrap_i64]; omega
  have hrf : ∀ w2 : World, (Instr.slice 22 (.slice (some ⟨b, o, none⟩) n cap) (some (.int .i64 ((k : Int) + 1))) none none).run Tryd.prog w2 = .ok (.slice (cutA (some ⟨b, o, none⟩) cap (k + 1)) (n - (k + 1)) (cap - (k + 1))) w2 := fun w2 => run_from (w := w2) (some ⟨b, o, none⟩) n cap (k + 1) (by omega)
  have hdr := h.drop (k := k + 1) (by omega)
  have HI : Hid (∀ m, Calls Tryd.prog 94 #[.slice (cutA (some ⟨b, o, none⟩) cap (k + 1)) (n - (k + 1)) (cap - (k + 1)), .int .u8 34] (w.drewN m) fun e w' => e = .returned (.int .i64 (Lib.indexByte (l.drop (k + 1)) 34)) ∧ w' = w.drewN m) := Lib.hid fun m => indexByte_c _ _ _ (l.drop (k + 1)) 34 (w.drewN m) _ hdr.drewN
  have hlo := ix_lo 34 (l.drop (k + 1))
  rw [List.length_drop, hl] at hlo
  have hcap := h.le
  have HQ : Hid (quotedQ 34 l k = if Lib.indexByte (l.drop (k + 1)) 34 < 0 then ([], 0, 7) else ((l.drop (k + 1)).take (Lib.indexByte (l.drop (k + 1)) 34).toNat, k + (Lib.indexByte (l.drop (k + 1)) 34).toNat + 2, 0)) := Lib.hid rfl
  have HB : Hid (∀ j m, j ≤ n - (k + 1) → (convert 22 9 (.slice (cutA (some ⟨b, o, none⟩) cap (k + 1)) j (cap - (k + 1)))).run Tryd.prog (w.drewN m) = .ok (.string ⟨((l.drop (k + 1)).take j).toArray⟩) (w.drewN m)) := Lib.hid fun j m hj => (hdr.drewN.take hj).str
  have hlo1 := hlo.1
  have hlo2 := hlo.2
  clear h hc hcell hcq hdr hq hl hlo
  generalize Lib.indexByte (l.drop (k + 1)) 34 = ix at *
  generalize quotedQ 34 l k = res at *
  have hcut : ∀ j : Nat, j ≤ n - (k + 1) → ∀ w2 : World, (Instr.slice 22 (.slice (some ⟨b, o, none⟩) n cap) (some (.int .i64 ((k : Int) + 1))) (some (.int .i64 ((k : Int) + 1 + (j : Int)))) none).run Tryd.prog w2 = .ok (.slice (cutA (some ⟨b, o, none⟩) cap (k + 1)) j (cap - (k + 1))) w2 := fun j hj w2 => by
    have := run_fromTo (w := w2) (some ⟨b, o, none⟩) n cap (k + 1) (k + 1 + j) (by omega) (by omega)
    rw [show k + 1 + j - (k + 1) = j by omega, show ((k + 1 + j : Nat) : Int) = (k : Int) + 1 + (j : Int) by omega] at this
    exact this
  have HCUT := Lib.hid hcut
  clear hcut hcap
  go_enter Tryd.func117, Tryd.ntmps117
  go_wp2
  go_quiet ((go_at_call 94; exact Calls.quiet_of_same (HI.out _)))
  clear HI
  generalize hwq : w.drewN nq = wq at *
  have HWQ := Lib.hid hwq
  clear hwq
  by_cases hx : ix < 0
  · have hd : decide (ix < 0) = true := by simpa using hx
    have HRES : Hid (res = ([], 0, 7)) := Lib.hid (by rw [HQ.out, if_pos hx])
    go_wp2
    go_ret3
    rw [HRES.out]
    exact ⟨rfl, _, HWQ.out.symm⟩
  · obtain ⟨j, rfl⟩ : ∃ j : Nat, ix = (j : Int) := ⟨ix.toNat, by omega⟩
    have hd : decide ((j : Int) < 0) = false := by simp
    have hjn : j ≤ n - (k + 1) := by omega
    have HRES : Hid (res = ((l.drop (k + 1)).take j, k + j + 2, 0)) := Lib.hid (by rw [HQ.out, if_neg hx, Int.toNat_natCast])
    have hct := HCUT.out j hjn
    have hst : (convert 22 9 (.slice (cutA (some ⟨b, o, none⟩) cap (k + 1)) j (cap - (k + 1)))).run Tryd.prog wq = .ok (.string ⟨((l.drop (k + 1)).take j).toArray⟩) wq := by rw [← HWQ.out]; exact HB.out j _ hjn
    have hjb : (j : Int) ≤ 50000 := by omega
    generalize (l.drop (k + 1)).take j = T at *
    have hw1 : IntKind.i64.wrap ((k : Int) + 1 + (j : Int)) = (k : Int) + 1 + (j : Int) := by rw [IntKind.wrap_i64]; omega
    have hw2 : IntKind.i64.wrap ((k : Int) + (j : Int)) = (k : Int) + (j : Int) := by rw [IntKind.wrap_i64]; omega
    have hw3 : IntKind.i64.wrap ((k : Int) + (j : Int) + 2) = (k : Int) + (j : Int) + 2 := by rw [IntKind.wrap_i64]; omega
    clear hx hlo1 hlo2
    go_wp2
    go_ret3
    rw [HRES.out]
    exact ⟨rfl, _, HWQ.out.symm⟩
set_option maxRecDepth 100000 in
set_option maxHeartbeats 2000000 in
theorem quoted_39 (A : Option Addr) (n cap : Nat) (l : List UInt8) (k : Nat) (w : World) (B : Nat) (h : Byt w B A n cap l) (hm : n ≤ 50000) (hq : l[k]? = some 39) :
    Calls Tryd.prog 117 #[.slice A n cap, .int .i64 k] w fun e w' => e = .returned (outV (quotedQ 39 l k)) ∧ ∃ m, w' = w.drewN m := by
  have hl := h.length
  have hkn : k < n := by
    rcases Nat.lt_or_ge k l.length with g | g
    · omega
    · rw [List.getElem?_eq_none g] at hq; cases hq
  have hat' : ¬ (n : Int) < (k : Int) := by omega
  have hne : ((k : Int) == (n : Int)) = false := by simp; omega
  obtain ⟨b, o, c, rfl, hb, hc, hcell⟩ := h.cell (i := k) hkn
  have hcq : c = 39 := by rw [hq] at hc; exact (Option.some.inj hc).symm
  have hcell' : w.cell? ⟨b, o + k, none⟩ = some (.int .u8 39) := by rw [hcell, hcq]; rfl
  have hli : (k : Int) < (n : Int) := by omega
  have hk0 : (0 : Int) ≤ (k : Int) := by omega
  have hk1 : (k : Int) ≤ 50000 := by omega
  have hk2 : (0 : Int) ≤ (k : Int) + 1 := by omega
  have hk3 : (k : Int) + 1 ≤ (n : Int) := by omega
  have hap : IntKind.i64.wrap ((k : Int) + 1) = (k : Int) + 1 := by rw [IntKind.wrap_i64]; omega
  have hrf : ∀ w2 : World, (Instr.slice 22 (.slice (some ⟨b, o, none⟩) n cap) (some (.int .i64 ((k : Int) + 1))) none none).run Tryd.prog w2 = .ok (.slice (cutA (some ⟨b, o, none⟩) cap (k + 1)) (n - (k + 1)) (cap - (k + 1))) w2 := fun w2 => run_from (w := w2) (some ⟨b, o, none⟩) n cap (k + 1) (by omega)
  have hdr := h.drop (k := k + 1) (by omega)
  have HI : Hid (∀ m, Calls Tryd.prog 94 #[.slice (cutA (some ⟨b, o, none⟩) cap (k + 1)) (n - (k + 1)) (cap - (k + 1)), .int .u8 39] (w.drewN m) fun e w' => e = .returned (.int .i64 (Lib.indexByte (l.drop (k + 1)) 39)) ∧ w' = w.drewN m) := Lib.hid fun m => indexByte_c _ _ _ (l.drop (k + 1)) 39 (w.drewN m) _ hdr.drewN
  have hlo := ix_lo 39 (l.drop (k + 1))
  rw [List.length_drop, hl] at hlo
  have hcap := h.le
  have HQ : Hid (quotedQ 39 l k = if Lib.indexByte (l.drop (k + 1)) 39 < 0 then ([], 0, 7) else ((l.drop (k + 1)).take (Lib.indexByte (l.drop (k + 1)) 39).toNat, k + (Lib.indexByte (l.drop (k + 1)) 39).toNat + 2, 0)) := Lib.hid rfl
  have HB : Hid (∀ j m, j ≤ n - (k + 1) → (convert 22 9 (.slice (cutA (some ⟨b, o, none⟩) cap (k + 1)) j (cap - (k + 1)))).run Tryd.prog (w.drewN m) = .ok (.string ⟨((l.drop (k + 1)).take j).toArray⟩) (w.drewN m)) := Lib.hid fun j m hj => (hdr.drewN.take hj).str
  have hlo1 := hlo.1
  have hlo2 := hlo.2
  clear h hc hcell hcq hdr hq hl hlo
  generalize Lib.indexByte (l.drop (k + 1)) 39 = ix at *
  generalize quotedQ 39 l k = res at *
  have hcut : ∀ j : Nat, j ≤ n - (k + 1) → ∀ w2 : World, (Instr.slice 22 (.slice (some ⟨b, o, none⟩) n cap) (some (.int .i64 ((k : Int) + 1))) (some (.int .i64 ((k : Int) + 1 + (j : Int)))) none).run Tryd.prog w2 = .ok (.slice (cutA (some ⟨b, o, none⟩) cap (k + 1)) j (cap - (k + 1))) w2 := fun j hj w2 => by
    have := run_fromTo (w := w2) (some ⟨b, o, none⟩) n cap (k + 1) (k + 1 + j) (by omega) (by omega)
    rw [show k + 1 + j - (k + 1) = j by omega, show ((k + 1 + j : Nat) : Int) = (k : Int) + 1 + (j : Int) by omega] at this
    exact this
  have HCUT := Lib.hid hcut
  clear hcut hcap
  go_enter Tryd.func117, Tryd.ntmps117
  go_wp2
  go_quiet ((go_at_call 94; exact Calls.quiet_of_same (HI.out _)))
  clear HI
  generalize hwq : w.drewN nq = wq at *
  have HWQ := Lib.hid hwq
  clear hwq
  by_cases hx : ix < 0
  · have hd : decide (ix < 0) = true := by simpa using hx
    have HRES : Hid (res = ([], 0, 7)) := Lib.hid (by rw [HQ.out, if_pos hx])
    go_wp2
    go_ret3
    rw [HRES.out]
    exact ⟨rfl, _, HWQ.out.symm⟩
  · obtain ⟨j, rfl⟩ : ∃ j : Nat, ix = (j : Int) := ⟨ix.toNat, by omega⟩
    have hd : decide ((j : Int) < 0) = false := by simp
    have hjn : j ≤ n - (k + 1) := by omega
    have HRES : Hid (res = ((l.drop (k + 1)).take j, k + j + 2, 0)) := Lib.hid (by rw [HQ.out, if_neg hx, Int.toNat_natCast])
    have hct := HCUT.out j hjn
    have hst : (convert 22 9 (.slice (cutA (some ⟨b, o, none⟩) cap (k + 1)) j (cap - (k + 1)))).run Tryd.prog wq = .ok (.string ⟨((l.drop (k + 1)).take j).toArray⟩) wq := by rw [← HWQ.out]; exact HB.out j _ hjn
    have hjb : (j : Int) ≤ 50000 := by omega
    generalize (l.drop (k + 1)).take j = T at *
    have hw1 : IntKind.i64.wrap ((k : Int) + 1 + (j : Int)) = (k : Int) + 1 + (j : Int) := by rw [IntKind.wrap_i64]; omega
    have hw2 : IntKind.i64.wrap ((k : Int) + (j : Int)) = (k : Int) + (j : Int) := by rw [IntKind.wrap_i64]; omega
    have hw3 : IntKind.i64.wrap ((k : Int) + (j : Int) + 2) = (k : Int) + (j : Int) + 2 := by rw [IntKind.wrap_i64]; omega
    clear hx hlo1 hlo2
    go_wp2
    go_ret3
    rw [HRES.out]
    exact ⟨rfl, _, HWQ.out.symm⟩
/-- lit.Quoted. -/
theorem quoted_c (A : Option Addr) (n cap : Nat) (l : List UInt8) (at_ : Int) (w : World) (B : Nat) (h : Byt w B A n cap l) (hm : n ≤ 50000) :
    Calls Tryd.prog 117 #[.slice A n cap, .int .i64 at_] w fun e w' => e = .returned (outV (quotedAt l at_)) ∧ ∃ m, w' = w.drewN m := by
  have hl := h.length
  unfold quotedAt
  rw [hl]
  by_cases ha : at_ < 0 ∨ (n : Int) < at_
  · rw [if_pos ha]; exact (quoted_range A n cap at_ w ha).mono fun e w' ⟨he, hw⟩ => ⟨he, 0, hw.symm⟩
  · rw [if_neg ha]
    obtain ⟨k, rfl⟩ : ∃ k : Nat, at_ = (k : Int) := ⟨at_.toNat, by omega⟩
    rw [Int.toNat_natCast]
    unfold quotedOut
    cases hq : l[k]? with
    | none => exact (quoted_no A n cap l k w B h hm (by omega) (fun q e => by rw [hq] at e; cases e)).mono fun e w' ⟨he, hw⟩ => ⟨he, 0, hw.symm⟩
    | some q =>
      simp only
      by_cases hqq : q = 34 ∨ q = 39
      · rw [if_pos hqq]
        rcases hqq with rfl | rfl
        · exact quoted_34 A n cap l k w B h hm hq
        · exact quoted_39 A n cap l k w B h hm hq
      · rw [if_neg hqq]; exact (quoted_no A n cap l k w B h hm (by omega) (fun q' e => by rw [hq] at e; cases e; exact hqq)).mono fun e w' ⟨he, hw⟩ => ⟨he, 0, hw.symm⟩
end Go.Proofs.YtpblphddpcogcaaDoor
