/- narthexref07.Quoted, Has, Strict; lit.Entity. -/
import Derived.Test.YtcpljjajobfkkaaDoorRows
import Derived.WalkKit
import Derived.ProofKit
import Derived.OpenShut
import Derived.ShutString
import Derived.ChangeOld
import Derived.Below
import Derived.BigQuiet
import Derived.Deep.QuietTactic
import Derived.Lib.Hide
import Derived.Deep.RegionHeld3
import Derived.Lib.SlBytesConst
import Derived.Laws.CopyOwn
import Derived.Laws.CopyRow
import Derived.Lib.Bytes
import Derived.Deep.LoopGhost
import Derived.Deep.DeepFit
import Derived.Deep.DeepMust
import Derived.WalkSpells
import Derived.WalkLawsBesides
import Derived.Laws.EntriesVeiled
import Derived.Laws.Rows
import Derived.Test.YtcpljjajobfkkaaDoorBase
import Derived.Test.YtcpljjajobfkkaaDoorShelf
import Derived.Test.YtcpljjajobfkkaaDoorCharPlain
import Derived.Test.YtcpljjajobfkkaaDoorUtf1
import Derived.Test.YtcpljjajobfkkaaDoorUtf2
import Derived.Test.YtcpljjajobfkkaaDoorUtf3
import Derived.Test.YtcpljjajobfkkaaDoorChars1
import Derived.Test.YtcpljjajobfkkaaDoorName1
import Derived.Test.YtcpljjajobfkkaaDoorName2
import Derived.Test.YtcpljjajobfkkaaDoorName3
import Derived.Test.YtcpljjajobfkkaaDoorCref1
import Derived.Test.YtcpljjajobfkkaaDoorCref2
import Derived.Test.YtcpljjajobfkkaaDoorDig
import Derived.Test.YtcpljjajobfkkaaDoorDig2
import Derived.Test.YtcpljjajobfkkaaDoorRef1
import Derived.Test.YtcpljjajobfkkaaDoorRef9
import Derived.Test.YtcpljjajobfkkaaDoorNum
import Derived.Test.YtcpljjajobfkkaaDoorCChar
import Derived.Test.YtcpljjajobfkkaaDoorCChar2
import Derived.Test.YtcpljjajobfkkaaDoorRefC
import Derived.Test.YtcpljjajobfkkaaDoorBuild
import Derived.Test.YtcpljjajobfkkaaDoorEsc
import Derived.Test.YtcpljjajobfkkaaDoorStr
import Derived.Test.YtcpljjajobfkkaaDoorLitP
import Derived.Test.YtcpljjajobfkkaaDoorLit1
import Derived.Test.YtcpljjajobfkkaaDoorLit2
import Derived.Test.YtcpljjajobfkkaaDoorLit3
import Derived.Test.YtcpljjajobfkkaaDoorLit4
namespace Go.Proofs.YtcpljjajobfkkaaDoor
open Go.ChangeShapes Go.WideShapes Go.ChangeAt Go.RowKit
set_option linter.unusedVariables false
set_option maxRecDepth 100000 in
set_option maxHeartbeats 2000000 in
theorem refQuoted_range (A : Option Addr) (n cap : Nat) (at_ : Int) (w : World) (ha : at_ < 0 ∨ (n : Int) < at_) :
    Calls Tryd.prog 58 #[.slice A n cap, .int .i64 at_] w fun e w' => e = .returned (outV ([], 0, 3)) ∧ w = w' := by
  by_cases h0 : at_ < 0
  · have hd : decide (at_ < 0) = true := by simpa using h0
    clear ha
    go_enter Tryd.func58, Tryd.ntmps58
    go_wp2
    go_ret3
    exact ⟨rfl, rfl⟩
  · have h1 : (n : Int) < at_ := by omega
    clear ha
    go_enter Tryd.func58, Tryd.ntmps58
    go_wp2
    go_ret3
    exact ⟨rfl, rfl⟩
set_option maxRecDepth 100000 in
set_option maxHeartbeats 2000000 in
theorem refQuoted_no (A : Option Addr) (n cap : Nat) (l : List UInt8) (k : Nat) (w : World) (B : Nat) (h : Byt w B A n cap l) (hm : n ≤ 50000) (hk : k ≤ n) (hq : ∀ q, l[k]? = some q → ¬ (q = 34 ∨ q = 39)) :
    Calls Tryd.prog 58 #[.slice A n cap, .int .i64 k] w fun e w' => e = .returned (outV ([], 0, 7)) ∧ w = w' := by
  have hat' : ¬ (n : Int) < (k : Int) := by omega
  by_cases hkn : k = n
  · have hkn' : ((k : Int) == (n : Int)) = true := by simp; omega
    clear hq h hm hk hkn
    go_enter Tryd.func58, Tryd.ntmps58
    go_wp2
    go_ret3
    exact ⟨rfl, rfl⟩
  · have hkn' : ((k : Int) == (n : Int)) = false := by simp; omega
    obtain ⟨b, o, c, rfl, hb, hc, hcell⟩ := h.cell (i := k) (by omega)
    have hli : (k : Int) < (n : Int) := by omega
    have hq' := not_or.1 (hq c hc)
    have e1 : ((c.toNat : Int) != 34) = true := by have := ne_byte' c 34 34 rfl hq'.1; simp [bne, this]
    have e2 : ((c.toNat : Int) != 39) = true := by have := ne_byte' c 39 39 rfl hq'.2; simp [bne, this]
    clear hq hq' h hm hk hkn hc
    generalize (c.toNat : Int) = cn at *
    go_enter Tryd.func58, Tryd.ntmps58
    go_wp2
    go_ret3
    exact ⟨rfl, rfl⟩
set_option maxRecDepth 100000 in
set_option maxHeartbeats 2000000 in
theorem refQuoted_34 (A : Option Addr) (n cap : Nat) (l : List UInt8) (k : Nat) (w : World) (B : Nat) (h : Byt w B A n cap l) (hm : n ≤ 50000) (hq : l[k]? = some 34) :
    Calls Tryd.prog 58 #[.slice A n cap, .int .i64 k] w fun e w' => e = .returned (outV (quotedQ 34 l k)) ∧ ∃ m, w' = w.drewN m := by
  have hl := h.length
  have hkn : k < n := by
    rcases Nat.lt_or_ge k l.length with g | g
    · omega
    · rw [List.getElem?_eq_none g] at hq; cases hq
  have hat' : ¬ (n : Int) < (k : Int) := by omega
  have hne : ((k : Int) == (n : Int)) = false := by simp; omega
  obtain ⟨b, o, c, rfl, hb, hc, hcell⟩ := h.cell (i := k) hkn
  have hcq : c = 34 := by rw [hq] at hc; exact (Option.some.inj hc).symm
  have hcell' : w.cell? ⟨b, o + k, none⟩ = some (.int .u8 34) := by rw [hcell, hcq]; rfl
  have hli : (k : Int) < (n : Int) := by omega
  have hk0 : (0 : Int) ≤ (k : Int) := by omega
  have hk1 : (k : Int) ≤ 50000 := by omega
  have hap : IntKind.i64.wrap ((k : Int) + 1) = (k : Int) + 1 := by rw [IntKind.wrap_i64]; omega
  have hdr := h.drop (k := k + 1) (by omega)
  have hlo := ix_lo 34 (l.drop (k + 1))
  rw [List.length_drop, hl] at hlo
  have hcap := h.le
  have HQ : Hid (quotedQ 34 l k = if Lib.indexByte (l.drop (k + 1)) 34 < 0 then ([], 0, 7) else ((l.drop (k + 1)).take (Lib.indexByte (l.drop (k + 1)) 34).toNat, k + (Lib.indexByte (l.drop (k + 1)) 34).toNat + 2, 0)) := Lib.hid rfl
  have HB : Hid (∀ j w1, (∃ m, w1 = w.drewN m) → j ≤ n - (k + 1) → (convert 22 9 (.slice (cutA (some ⟨b, o, none⟩) cap (k + 1)) j (cap - (k + 1)))).run Tryd.prog w1 = .ok (.string ⟨((l.drop (k + 1)).take j).toArray⟩) w1) := Lib.hid (by
    rintro j w1 ⟨m, rfl⟩ hj
    exact (hdr.drewN.take hj).str)
  have HCELL : Hid (∀ i, i < n → ∀ w1, (∃ m, w1 = w.drewN m) → w1.cell? ⟨b, o + i, none⟩ = some (.int .u8 (UInt8.toNat (l.getD i 0) : Int))) := Lib.hid (by
    rintro i hi w1 ⟨m, rfl⟩
    obtain ⟨b', o', c', e, hb', hc', hcl⟩ := h.cell hi
    cases e
    show w.cell? _ = _
    rw [hcl, List.getD_eq_getElem?_getD, hc']
    rfl)
  have hcut : ∀ j : Nat, j ≤ n - (k + 1) → ∀ w2 : World, (Instr.slice 22 (.slice (some ⟨b, o, none⟩) n cap) (some (.int .i64 ((k : Int) + 1))) (some (.int .i64 ((k + 1 + j : Nat) : Int))) none).run Tryd.prog w2 = .ok (.slice (cutA (some ⟨b, o, none⟩) cap (k + 1)) j (cap - (k + 1))) w2 := fun j hj w2 => by
    have := run_fromTo (w := w2) (some ⟨b, o, none⟩) n cap (k + 1) (k + 1 + j) (by omega) (by omega)
    rw [show k + 1 + j - (k + 1) = j by omega] at this
    exact this
  have HCUT := Lib.hid hcut
  have HC0 : Hid (∀ w1, (∃ m, w1 = w.drewN m) → w1.cell? ⟨b, o + k, none⟩ = some (.int .u8 34)) := Lib.hid (by
    rintro w1 ⟨m, rfl⟩
    exact hcell')
  have HL := Lib.hid hl
  clear hc hcell hcq hdr hlo hcap hcut h hq hl
  generalize quotedQ 34 l k = res at *
  go_enter Tryd.func58, Tryd.ntmps58
  go_wp2
  clear hcell'
  go_loopg [7] (n - (k + 1)) (fun g i wr => ∃ t : Nat, k + 1 ≤ t ∧ t ≤ n ∧ Hid (g + t = n) ∧ i = .int .i64 (t : Int) ∧ Hid (∃ m, wr = w.drewN m) ∧ Hid (∀ j < t - (k + 1), (l.drop (k + 1))[j]? ≠ some 34))
  case atStart => exact ⟨k + 1, Nat.le_refl _, by omega, Lib.hid (by omega), rfl, Lib.hid ⟨0, rfl⟩, Lib.hid (fun j hj => absurd hj (by omega))⟩
  case round =>
    obtain ⟨t, ht1, ht2, hg, rfl, HW, HN⟩ := hrel
    have ht0 : (0 : Int) ≤ (t : Int) := by omega
    have htb : (t : Int) ≤ 50000 := by omega
    by_cases htn : t < n
    · have htni : (t : Int) < (n : Int) := by omega
      have h1 := HCELL.out t htn wr HW.out
      have h2 := HC0.out wr HW.out
      have hdt : (l.drop (k + 1))[t - (k + 1)]? = some (l.getD t 0) := by
        rw [List.getElem?_drop, show k + 1 + (t - (k + 1)) = t by omega, List.getElem?_eq_getElem (by rw [HL.out]; exact htn)]
        simp [HL.out ▸ htn]
      have HDT := Lib.hid hdt
      clear hdt
      generalize l.getD t 0 = d at *
      have hd0 : (0 : Int) ≤ (d.toNat : Int) := by omega
      have hd1 : (d.toNat : Int) ≤ 255 := by have := d.toNat_lt; omega
      by_cases hdq : d = 34
      · subst hdq
        have hix : Lib.indexByte (l.drop (k + 1)) 34 = ((t - (k + 1) : Nat) : Int) := ix_eq 34 _ _ HDT.out HN.out
        have HRES : Hid (res = ((l.drop (k + 1)).take (t - (k + 1)), t + 1, 0)) := Lib.hid (by
          rw [HQ.out, hix, if_neg (by omega), Int.toNat_natCast]
          congr 2
          omega)
        have hct := HCUT.out (t - (k + 1)) (by omega)
        rw [show k + 1 + (t - (k + 1)) = t by omega] at hct
        have hw1 : IntKind.i64.wrap ((t : Int) + 1) = (t : Int) + 1 := by rw [IntKind.wrap_i64]; omega
        clear hix hd0 hd1
        go_wp2
        go_quiet (fail)
        have HW2 : Hid (∃ m, wr.drewN nq = w.drewN m) := Lib.hid (by
          obtain ⟨m, rfl⟩ := HW.out
          exact ⟨m + nq, by rw [World.drewN_drewN]⟩)
        generalize wr.drewN nq = wq at *
        have hst := HB.out (t - (k + 1)) wq HW2.out (by omega)
        generalize (l.drop (k + 1)).take (t - (k + 1)) = T at *
        go_wp2
        go_ret3
        rw [HRES.out]
        exact ⟨rfl, HW2.out⟩
      · have e1 : ((d.toNat : Int) == 34) = false := ne_byte' d 34 34 rfl hdq
        have HN2 : Hid (∀ j < t + 1 - (k + 1), (l.drop (k + 1))[j]? ≠ some 34) := Lib.hid (fun j hj => by
          rcases (show j < t - (k + 1) ∨ j = t - (k + 1) by omega) with h | rfl
          · exact HN.out j h
          · rw [HDT.out]; simpa using hdq)
        clear hdq
        generalize (d.toNat : Int) = dn at *
        go_wp2
        go_quiet (fail)
        have HW2 : Hid (∃ m, wr.drewN nq = w.drewN m) := Lib.hid (by
          obtain ⟨m, rfl⟩ := HW.out
          exact ⟨m + nq, by rw [World.drewN_drewN]⟩)
        generalize wr.drewN nq = wq at *
        go_wp2
        go_roundg (n - (t + 1))
        case measure => have := hg.out; omega
        case rel => exact ⟨t + 1, by omega, by omega, Lib.hid (by omega), by go_num, HW2, HN2⟩
    · have htni : ¬ (t : Int) < (n : Int) := by omega
      have hix : Lib.indexByte (l.drop (k + 1)) 34 = -1 := ix_eq_none 34 _ (fun j => by
        rcases Nat.lt_or_ge j (t - (k + 1)) with h | h
        · exact HN.out j h
        · rw [List.getElem?_eq_none (by rw [List.length_drop, HL.out]; omega)]; simp)
      have HRES : Hid (res = ([], 0, 7)) := Lib.hid (by rw [HQ.out, hix, if_pos (by omega)])
      clear hix
      go_wp2
      go_ret3
      rw [HRES.out]
      exact ⟨rfl, HW.out⟩
set_option maxRecDepth 100000 in
set_option maxHeartbeats 2000000 in
theorem refQuoted_39 (A : Option Addr) (n cap : Nat) (l : List UInt8) (k : Nat) (w : World) (B : Nat) (h : Byt w B A n cap l) (hm : n ≤ 50000) (hq : l[k]? = some 39) :
    Calls Tryd.prog 58 #[.slice A n cap, .int .i64 k] w fun e w' => e = .returned (outV (quotedQ 39 l k)) ∧ ∃ m, w' = w.drewN m := by
  have hl := h.length
  have hkn : k < n := by
    rcases Nat.lt_or_ge k l.length with g | g
    · omega
    · rw [List.getElem?_eq_none g] at hq; cases hq
  have hat' : ¬ (n : Int) < (k : Int) := by omega
  have hne : ((k : Int) == (n : Int)) = false := by simp; omega
  obtain ⟨b, o, c, rfl, hb, hc, hcell⟩ := h.cell (i := k) hkn
  have hcq : c = 39 := by rw [hq] at hc; exact (Option.some.inj hc).symm
  have hcell' : w.cell? ⟨b, o + k, none⟩ = some (.int .u8 39) := by rw [hcell, hcq]; rfl
  have hli : (k : Int) < (n : Int) := by omega
  have hk0 : (0 : Int) ≤ (k : Int) := by omega
  have hk1 : (k : Int) ≤ 50000 := by omega
  have hap : IntKind.i64.wrap ((k : Int) + 1) = (k : Int) + 1 := by rw [IntKind.wrap_i64]; omega
  have hdr := h.drop (k := k + 1) (by omega)
  have hlo := ix_lo 39 (l.drop (k + 1))
  rw [List.length_drop, hl] at hlo
  have hcap := h.le
  have HQ : Hid (quotedQ 39 l k = if Lib.indexByte (l.drop (k + 1)) 39 < 0 then ([], 0, 7) else ((l.drop (k + 1)).take (Lib.indexByte (l.drop (k + 1)) 39).toNat, k + (Lib.indexByte (l.drop (k + 1)) 39).toNat + 2, 0)) := Lib.hid rfl
  have HB : Hid (∀ j w1, (∃ m, w1 = w.drewN m) → j ≤ n - (k + 1) → (convert 22 9 (.slice (cutA (some ⟨b, o, none⟩) cap (k + 1)) j (cap - (k + 1)))).run Tryd.prog w1 = .ok (.string ⟨((l.drop (k + 1)).take j).toArray⟩) w1) := Lib.hid (by
    rintro j w1 ⟨m, rfl⟩ hj
    exact (hdr.drewN.take hj).str)
  have HCELL : Hid (∀ i, i < n → ∀ w1, (∃ m, w1 = w.drewN m) → w1.cell? ⟨b, o + i, none⟩ = some (.int .u8 (UInt8.toNat (l.getD i 0) : Int))) := Lib.hid (by
    rintro i hi w1 ⟨m, rfl⟩
    obtain ⟨b', o', c', e, hb', hc', hcl⟩ := h.cell hi
    cases e
    show w.cell? _ = _
    rw [hcl, List.getD_eq_getElem?_getD, hc']
    rfl)
  have hcut : ∀ j : Nat, j ≤ n - (k + 1) → ∀ w2 : World, (Instr.slice 22 (.slice (some ⟨b, o, none⟩) n cap) (some (.int .i64 ((k : Int) + 1))) (some (.int .i64 ((k + 1 + j : Nat) : Int))) none).run Tryd.prog w2 = .ok (.slice (cutA (some ⟨b, o, none⟩) cap (k + 1)) j (cap - (k + 1))) w2 := fun j hj w2 => by
    have := run_fromTo (w := w2) (some ⟨b, o, none⟩) n cap (k + 1) (k + 1 + j) (by omega) (by omega)
    rw [show k + 1 + j - (k + 1) = j by omega] at this
    exact this
  have HCUT := Lib.hid hcut
  have HC0 : Hid (∀ w1, (∃ m, w1 = w.drewN m) → w1.cell? ⟨b, o + k, none⟩ = some (.int .u8 39)) := Lib.hid (by
    rintro w1 ⟨m, rfl⟩
    exact hcell')
  have HL := Lib.hid hl
  clear hc hcell hcq hdr hlo hcap hcut h hq hl
  generalize quotedQ 39 l k = res at *
  go_enter Tryd.func58, Tryd.ntmps58
  go_wp2
  clear hcell'
  go_loopg [7] (n - (k + 1)) (fun g i wr => ∃ t : Nat, k + 1 ≤ t ∧ t ≤ n ∧ Hid (g + t = n) ∧ i = .int .i64 (t : Int) ∧ Hid (∃ m, wr = w.drewN m) ∧ Hid (∀ j < t - (k + 1), (l.drop (k + 1))[j]? ≠ some 39))
  case atStart => exact ⟨k + 1, Nat.le_refl _, by omega, Lib.hid (by omega), rfl, Lib.hid ⟨0, rfl⟩, Lib.hid (fun j hj => absurd hj (by omega))⟩
  case round =>
    obtain ⟨t, ht1, ht2, hg, rfl, HW, HN⟩ := hrel
    have ht0 : (0 : Int) ≤ (t : Int) := by omega
    have htb : (t : Int) ≤ 50000 := by omega
    by_cases htn : t < n
    · have htni : (t : Int) < (n : Int) := by omega
      have h1 := HCELL.out t htn wr HW.out
      have h2 := HC0.out wr HW.out
      have hdt : (l.drop (k + 1))[t - (k + 1)]? = some (l.getD t 0) := by
        rw [List.getElem?_drop, show k + 1 + (t - (k + 1)) = t by omega, List.getElem?_eq_getElem (by rw [HL.out]; exact htn)]
        simp [HL.out ▸ htn]
      have HDT := Lib.hid hdt
      clear hdt
      generalize l.getD t 0 = d at *
      have hd0 : (0 : Int) ≤ (d.toNat : Int) := by omega
      have hd1 : (d.toNat : Int) ≤ 255 := by have := d.toNat_lt; omega
      by_cases hdq : d = 39
      · subst hdq
        have hix : Lib.indexByte (l.drop (k + 1)) 39 = ((t - (k + 1) : Nat) : Int) := ix_eq 39 _ _ HDT.out HN.out
        have HRES : Hid (res = ((l.drop (k + 1)).take (t - (k + 1)), t + 1, 0)) := Lib.hid (by
          rw [HQ.out, hix, if_neg (by omega), Int.toNat_natCast]
          congr 2
          omega)
        have hct := HCUT.out (t - (k + 1)) (by omega)
        rw [show k + 1 + (t - (k + 1)) = t by omega] at hct
        have hw1 : IntKind.i64.wrap ((t : Int) + 1) = (t : Int) + 1 := by rw [IntKind.wrap_i64]; omega
        clear hix hd0 hd1
        go_wp2
        go_quiet (fail)
        have HW2 : Hid (∃ m, wr.drewN nq = w.drewN m) := Lib.hid (by
          obtain ⟨m, rfl⟩ := HW.out
          exact ⟨m + nq, by rw [World.drewN_drewN]⟩)
        generalize wr.drewN nq = wq at *
        have hst := HB.out (t - (k + 1)) wq HW2.out (by omega)
        generalize (l.drop (k + 1)).take (t - (k + 1)) = T at *
        go_wp2
        go_ret3
        rw [HRES.out]
        exact ⟨rfl, HW2.out⟩
      · have e1 : ((d.toNat : Int) == 39) = false := ne_byte' d 39 39 rfl hdq
        have HN2 : Hid (∀ j < t + 1 - (k + 1), (l.drop (k + 1))[j]? ≠ some 39) := Lib.hid (fun j hj => by
          rcases (show j < t - (k + 1) ∨ j = t - (k + 1) by omega) with h | rfl
          · exact HN.out j h
          · rw [HDT.out]; simpa using hdq)
        clear hdq
        generalize (d.toNat : Int) = dn at *
        go_wp2
        go_quiet (fail)
        have HW2 : Hid (∃ m, wr.drewN nq = w.drewN m) := Lib.hid (by
          obtain ⟨m, rfl⟩ := HW.out
          exact ⟨m + nq, by rw [World.drewN_drewN]⟩)
        generalize wr.drewN nq = wq at *
        go_wp2
        go_roundg (n - (t + 1))
        case measure => have := hg.out; omega
        case rel => exact ⟨t + 1, by omega, by omega, Lib.hid (by omega), by go_num, HW2, HN2⟩
    · have htni : ¬ (t : Int) < (n : Int) := by omega
      have hix : Lib.indexByte (l.drop (k + 1)) 39 = -1 := ix_eq_none 39 _ (fun j => by
        rcases Nat.lt_or_ge j (t - (k + 1)) with h | h
        · exact HN.out j h
        · rw [List.getElem?_eq_none (by rw [List.length_drop, HL.out]; omega)]; simp)
      have HRES : Hid (res = ([], 0, 7)) := Lib.hid (by rw [HQ.out, hix, if_pos (by omega)])
      clear hix
      go_wp2
      go_ret3
      rw [HRES.out]
      exact ⟨rfl, HW.out⟩
/-- narthexref07.Quoted. -/
theorem refQuoted_c (A : Option Addr) (n cap : Nat) (l : List UInt8) (at_ : Int) (w : World) (B : Nat) (h : Byt w B A n cap l) (hm : n ≤ 50000) :
    Calls Tryd.prog 58 #[.slice A n cap, .int .i64 at_] w fun e w' => e = .returned (outV (quotedAt l at_)) ∧ ∃ m, w' = w.drewN m := by
  have hl := h.length
  unfold quotedAt
  rw [hl]
  by_cases ha : at_ < 0 ∨ (n : Int) < at_
  · rw [if_pos ha]; exact (refQuoted_range A n cap at_ w ha).mono fun e w' ⟨he, hw⟩ => ⟨he, 0, hw.symm⟩
  · rw [if_neg ha]
    obtain ⟨k, rfl⟩ : ∃ k : Nat, at_ = (k : Int) := ⟨at_.toNat, by omega⟩
    rw [Int.toNat_natCast]
    unfold quotedOut
    cases hq : l[k]? with
    | none => exact (refQuoted_no A n cap l k w B h hm (by omega) (fun q e => by rw [hq] at e; cases e)).mono fun e w' ⟨he, hw⟩ => ⟨he, 0, hw.symm⟩
    | some q =>
      simp only
      by_cases hqq : q = 34 ∨ q = 39
      · rw [if_pos hqq]
        rcases hqq with rfl | rfl
        · exact refQuoted_34 A n cap l k w B h hm hq
        · exact refQuoted_39 A n cap l k w B h hm hq
      · rw [if_neg hqq]; exact (refQuoted_no A n cap l k w B h hm (by omega) (fun q' e => by rw [hq] at e; cases e; exact hqq)).mono fun e w' ⟨he, hw⟩ => ⟨he, 0, hw.symm⟩
set_option maxRecDepth 100000 in
set_option maxHeartbeats 2000000 in
theorem has_c (l : List UInt8) (c : UInt8) (w : World) (hm : l.length ≤ 1000000) :
    Calls Tryd.prog 45 #[.string ⟨l.toArray⟩, .int .u8 c.toNat] w fun e w' => e = .returned (.bool (decide (0 ≤ Lib.indexByte l c))) ∧ w = w' := by
  have hsz : (⟨l.toArray⟩ : ByteArray).size = l.length := by simp [ByteArray.size]
  have hc0 : (0 : Int) ≤ (c.toNat : Int) := by omega
  go_enter Tryd.func45, Tryd.ntmps45
  go_wp2
  go_loopg [5] (l.length) (fun g i wr => ∃ t : Nat, t ≤ l.length ∧ Hid (g + t = l.length) ∧ i = .int .i64 (t : Int) ∧ w = wr ∧ Hid (∀ j < t, l[j]? ≠ some c))
  case atStart => exact ⟨0, Nat.zero_le _, Lib.hid rfl, rfl, rfl, Lib.hid (fun j hj => absurd hj (Nat.not_lt_zero _))⟩
  case round =>
    obtain ⟨t, ht, hg, rfl, rfl, HN⟩ := hrel
    have ht0 : (0 : Int) ≤ (t : Int) := by omega
    have htb : (t : Int) ≤ 1000000 := by omega
    by_cases htn : t < l.length
    · have htni : (t : Int) < (l.length : Int) := by omega
      have hix := run_strIndex l t htn w
      have HD : Hid (l[t]? = some (l.getD t 0)) := Lib.hid (by rw [List.getElem?_eq_getElem htn]; simp [htn])
      generalize l.getD t 0 = d at *
      by_cases hdc : d = c
      · have HE : Hid (decide (0 ≤ Lib.indexByte l c) = true) := Lib.hid (by
          rw [ix_eq c l t (by rw [HD.out, hdc]) HN.out]; simp)
        subst hdc
        go_wp2
        go_ret
        rw [HE.out]
        exact ⟨rfl, rfl⟩
      · have e1 : ((d.toNat : Int) == (c.toNat : Int)) = false := ne_byte' d c _ rfl hdc
        have HN2 : Hid (∀ j < t + 1, l[j]? ≠ some c) := Lib.hid (fun j hj => by
          rcases (show j < t ∨ j = t by omega) with h | rfl
          · exact HN.out j h
          · rw [HD.out]; simpa using hdc)
        clear hdc
        go_wp2
        go_roundg (l.length - (t + 1))
        case measure => have := hg.out; omega
        case rel => exact ⟨t + 1, by omega, Lib.hid (by omega), by go_num, rfl, HN2⟩
    · have HE : Hid (decide (0 ≤ Lib.indexByte l c) = false) := Lib.hid (by
        rw [ix_eq_none c l (fun j => by
          rcases Nat.lt_or_ge j t with h | h
          · exact HN.out j h
          · rw [List.getElem?_eq_none (by omega)]; simp)]
        simp)
      go_wp2
      go_ret
      rw [HE.out]
      exact ⟨rfl, rfl⟩
set_option maxRecDepth 100000 in
set_option maxHeartbeats 4000000 in
theorem refStrict_c (A : Option Addr) (n cap : Nat) (l : List UInt8) (at_ : Int) (but : UInt8) (w : World) (h : Byt w w.heap.size A n cap l) (hm : n ≤ 40000) :
    Calls Tryd.prog 36 #[.slice A n cap, .int .i64 at_, .int .u8 but.toNat] w fun e w' => e = .returned (outV (strictAt but l at_)) ∧ Below w.heap.size w w' := by
  have HQ := Lib.hid (refQuoted_c A n cap l at_ w _ h (by omega))
  have hql := quotedAt_le l at_
  rw [h.length] at hql
  have HS : Hid (strictAt but l at_ = if (quotedAt l at_).2.2 ≠ 0 then ([], 0, (quotedAt l at_).2.2) else if 0 ≤ Lib.indexByte (quotedAt l at_).1 but then ([], 0, 7) else if (refsOut (quotedAt l at_).1).2 ≠ 0 then ([], 0, (refsOut (quotedAt l at_).1).2) else ((quotedAt l at_).1, (quotedAt l at_).2.1, 0)) := Lib.hid rfl
  have HW : Hid (∀ w1, Calls Tryd.prog 45 #[.string ⟨(quotedAt l at_).1.toArray⟩, .int .u8 but.toNat] w1 fun e w' => e = .returned (.bool (decide (0 ≤ Lib.indexByte (quotedAt l at_).1 but))) ∧ w1 = w') := Lib.hid fun w1 => has_c _ but w1 (by omega)
  have HR : Hid (∀ w1, Calls Tryd.prog 44 #[.string ⟨(quotedAt l at_).1.toArray⟩] w1 fun e w' => e = .returned (.tuple #[.int .i64 (refsOut (quotedAt l at_).1).1, .int .i64 (refsOut (quotedAt l at_).1).2]) ∧ Below w1.heap.size w1 w') := Lib.hid fun w1 => refRefs_c _ w1 (by omega)
  clear h hql hm
  generalize strictAt but l at_ = res at *
  generalize quotedAt l at_ = q at *
  obtain ⟨s, k, f⟩ := q
  simp only at HS HW HR
  unfold outV at HQ
  generalize (but.toNat : Int) = bn at *
  by_cases hf : f = 0
  · subst hf
    by_cases hb : 0 ≤ Lib.indexByte s but
    · have HE : Hid (res = ([], 0, 7)) := Lib.hid (by rw [HS.out, if_neg (by simp), if_pos hb])
      have hdb : decide (0 ≤ Lib.indexByte s but) = true := by simpa using hb
      rw [hdb] at HW
      clear hb hdb
      go_enter Tryd.func36, Tryd.ntmps36
      go_wp2_with fail
      refine HQ.out.mono ?_
      rintro e w1 ⟨rfl, m, hw1⟩
      have B1 : Hid (Below w.heap.size w w1) := Lib.hid (by rw [hw1]; exact below_drewN' (Below.refl _ _))
      clear hw1
      go_wp2_with fail
      refine (HW.out w1).mono ?_
      rintro e w2 ⟨rfl, rfl⟩
      go_wp2
      go_ret3
      rw [HE.out]
      exact ⟨rfl, B1.out⟩
    · have hdb : decide (0 ≤ Lib.indexByte s but) = false := by simpa using hb
      rw [hdb] at HW
      generalize refsOut s = r at *
      obtain ⟨r1, r⟩ := r
      by_cases hr : r = 0
      · have HE : Hid (res = (s, k, 0)) := Lib.hid (by rw [HS.out, if_neg (by simp), if_neg hb, if_neg (by simpa using hr)])
        subst hr
        clear hb hdb
        go_enter Tryd.func36, Tryd.ntmps36
        go_wp2_with fail
        refine HQ.out.mono ?_
        rintro e w1 ⟨rfl, m, hw1⟩
        have B1 : Hid (Below w.heap.size w w1) := Lib.hid (by rw [hw1]; exact below_drewN' (Below.refl _ _))
        clear hw1
        go_wp2_with fail
        refine (HW.out w1).mono ?_
        rintro e w2 ⟨rfl, rfl⟩
        go_wp2_with fail
        refine (HR.out w1).mono ?_
        rintro e w2 ⟨rfl, hb⟩
        have B2 : Hid (Below w.heap.size w w2) := Lib.hid (B1.out.trans (hb.mono B1.out.size))
        clear hb
        go_wp2
        go_ret3
        rw [HE.out]
        exact ⟨rfl, B2.out⟩
      · have HE : Hid (res = ([], 0, r)) := Lib.hid (by rw [HS.out, if_neg (by simp), if_neg hb, if_pos (by simpa using hr)])
        have hrz : ((r : Int) != 0) = true := by simp; omega
        clear hb hdb hr
        go_enter Tryd.func36, Tryd.ntmps36
        go_wp2_with fail
        refine HQ.out.mono ?_
        rintro e w1 ⟨rfl, m, hw1⟩
        have B1 : Hid (Below w.heap.size w w1) := Lib.hid (by rw [hw1]; exact below_drewN' (Below.refl _ _))
        clear hw1
        go_wp2_with fail
        refine (HW.out w1).mono ?_
        rintro e w2 ⟨rfl, rfl⟩
        go_wp2_with fail
        refine (HR.out w1).mono ?_
        rintro e w2 ⟨rfl, hb⟩
        have B2 : Hid (Below w.heap.size w w2) := Lib.hid (B1.out.trans (hb.mono B1.out.size))
        clear hb
        go_wp2
        go_ret3
        rw [HE.out]
        exact ⟨rfl, B2.out⟩
  · have HE : Hid (res = ([], 0, f)) := Lib.hid (by rw [HS.out, if_pos hf])
    have hfz : ((f : Int) != 0) = true := by simp; omega
    clear hf
    go_enter Tryd.func36, Tryd.ntmps36
    go_wp2_with fail
    refine HQ.out.mono ?_
    rintro e w1 ⟨rfl, m, hw1⟩
    have B1 : Hid (Below w.heap.size w w1) := Lib.hid (by rw [hw1]; exact below_drewN' (Below.refl _ _))
    clear hw1
    go_wp2
    go_ret3
    rw [HE.out]
    exact ⟨rfl, B1.out⟩
end Go.Proofs.YtcpljjajobfkkaaDoor
