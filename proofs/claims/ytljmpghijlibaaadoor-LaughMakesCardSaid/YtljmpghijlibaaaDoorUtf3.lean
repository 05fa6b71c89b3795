/- utf.Decode whole. -/
import Derived.Test.YtljmpghijlibaaaDoorRows
import Derived.WalkKit
import Derived.ProofKit
import Derived.OpenShut
import Derived.ShutString
import Derived.ChangeOld
import Derived.Below
import Derived.BigQuiet
import Derived.Deep.QuietTactic
import Derived.Lib.Hide
import Derived.Deep.RegionHeld3
import Derived.Lib.SlBytesConst
import Derived.Laws.CopyOwn
import Derived.Laws.CopyRow
import Derived.Lib.Bytes
import Derived.Deep.LoopGhost
import Derived.Deep.DeepFit
import Derived.Deep.DeepMust
import Derived.WalkSpells
import Derived.WalkLawsBesides
import Derived.Test.YtljmpghijlibaaaDoorBase
import Derived.Test.YtljmpghijlibaaaDoorShelf
import Derived.Test.YtljmpghijlibaaaDoorCharPlain
import Derived.Test.YtljmpghijlibaaaDoorUtf1
import Derived.Test.YtljmpghijlibaaaDoorUtf2
namespace Go.Proofs.YtljmpghijlibaaaDoor
open Go.ChangeShapes Go.WideShapes Go.ChangeAt Go.RowKit
set_option linter.unusedVariables false
theorem decode_short (A : Option Addr) (n cap : Nat) (l : List UInt8) (k : Nat) (w : World) (B : Nat) (h : Byt w B A n cap l) (hF : Forms w) (hk : k < n) (hm : n ≤ 1100000) (c : UInt8) (hc : l[k]? = some c) (hl : lenB c.toNat = 0 ∨ n < k + lenB c.toNat) :
    Calls Tryd.prog 116 #[.slice A n cap, .int .i64 k] w fun e w' => e = .returned (decOut k none) ∧ ∃ q, w' = w.drewN q := by
  obtain ⟨b, o, c', rfl, hb, hc', hcell⟩ := h.cell hk
  obtain rfl : c' = c := by rw [hc] at hc'; exact (Option.some.inj hc').symm
  have hkn : (k : Int) < (n : Int) := by omega
  have hl4 := lenB_le c'.toNat
  clear hc hc' hF
  by_cases h0 : lenB c'.toNat = 0
  · have hL := Lib.hid h0
    clear hl h0 hl4
    go_enter Tryd.func116, Tryd.ntmps116
    go_wp2_with fail
    refine (length_c c' w).mono ?_
    rintro e w1 ⟨rfl, rfl⟩
    rw [hL.out]
    go_wp2
    go_ret3
    exact ⟨rfl, 0, rfl⟩
  · have hlt : n < k + lenB c'.toNat := by omega
    have hh : (n : Int) - (k : Int) < (lenB c'.toNat : Int) := by omega
    have h0' : ¬ ((lenB c'.toNat : Nat) : Int) = 0 := by omega
    have hz : (((lenB c'.toNat : Nat) : Int) == 0) = false := by simpa using h0'
    clear hl hlt
    go_enter Tryd.func116, Tryd.ntmps116
    go_wp2_with fail
    refine (length_c c' w).mono ?_
    rintro e w1 ⟨rfl, rfl⟩
    generalize lenB c'.toNat = L at *
    go_wp2
    go_ret3
    exact ⟨rfl, 0, rfl⟩
theorem dec_none (l : List UInt8) (k : Nat) (c : UInt8) (hc : l[k]? = some c) (hl : lenB c.toNat = 0 ∨ l.length < k + lenB c.toNat) : dec (l.drop k) = none := by
  have hk : k < l.length := by
    rcases Nat.lt_or_ge k l.length with h | h
    · exact h
    · rw [List.getElem?_eq_none h] at hc; cases hc
  rw [List.getElem?_eq_getElem hk] at hc
  rw [List.drop_eq_getElem_cons hk, Option.some.inj hc]
  simp only [dec]
  rw [if_pos]
  rcases hl with h | h
  · exact Or.inl h
  · exact Or.inr (by simp; omega)
/-- utf.Decode at a place of the bytes. -/
theorem decode_c (A : Option Addr) (n cap : Nat) (l : List UInt8) (k : Nat) (w : World) (B : Nat) (h : Byt w B A n cap l) (hF : Forms w) (hk : k < n) (hm : n ≤ 1100000) :
    Calls Tryd.prog 116 #[.slice A n cap, .int .i64 k] w fun e w' => e = .returned (decOut k (dec (l.drop k))) ∧ ∃ q, w' = w.drewN q := by
  have hlen := h.length
  have hkl : k < l.length := by omega
  obtain ⟨c, hc⟩ : ∃ c, l[k]? = some c := ⟨_, List.getElem?_eq_getElem hkl⟩
  by_cases hs : lenB c.toNat = 0 ∨ n < k + lenB c.toNat
  · rw [dec_none l k c hc (by rw [hlen]; exact hs)]
    exact decode_short A n cap l k w B h hF hk hm c hc hs
  · simp only [not_or] at hs
    have h4 := lenB_le c.toNat
    rcases (show lenB c.toNat = 1 ∨ lenB c.toNat = 2 ∨ lenB c.toNat = 3 ∨ lenB c.toNat = 4 by omega) with e | e | e | e
    · exact decode_1 A n cap l k w B h hF hk hm c hc e (by omega)
    · exact decode_2 A n cap l k w B h hF hk hm c hc e (by omega)
    · exact decode_3 A n cap l k w B h hF hk hm c hc e (by omega)
    · exact decode_4 A n cap l k w B h hF hk hm c hc e (by omega)
end Go.Proofs.YtljmpghijlibaaaDoor
