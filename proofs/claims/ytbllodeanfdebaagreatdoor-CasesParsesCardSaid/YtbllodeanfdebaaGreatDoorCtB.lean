/- The document: the first line, the bars. -/
import Derived.Test.YtbllodeanfdebaaGreatDoorRows
import Derived.WalkKit
import Derived.ProofKit
import Derived.OpenShut
import Derived.ShutString
import Derived.ChangeOld
import Derived.Below
import Derived.BigQuiet
import Derived.Deep.QuietTactic
import Derived.Lib.Hide
import Derived.Deep.RegionHeld3
import Derived.Lib.SlBytesConst
import Derived.Laws.CopyOwn
import Derived.Laws.CopyRow
import Derived.Lib.Bytes
import Derived.Deep.LoopGhost
import Derived.Deep.DeepFit
import Derived.Deep.DeepMust
import Derived.WalkSpells
import Derived.WalkLawsBesides
import Derived.Laws.EntriesVeiled
import Derived.Lib.IndexBytes
import Derived.Deep.RegionWith
import Derived.Tactics2
import Derived.Laws.Rows
import Derived.Lib.Replace
import Derived.Lib.Split
import Derived.Lib.ItoaNum
import Derived.Lib.AtoiAllCases
import Derived.Lib.AtoiErrMem
import Derived.Lib.AppendIntMem
import Derived.Maps.OwnOps
import Derived.Maps.OwnSet
import Derived.Maps.Views
import Derived.Maps.AppendAt
import Derived.Deep.AppendLies
import Derived.Defers
import Derived.Recover
import Derived.Laws.Pointers
import Derived.Test.YtbllodeanfdebaaGreatDoorShelf
import Derived.Test.YtbllodeanfdebaaGreatDoorBase
import Derived.Test.YtbllodeanfdebaaGreatDoorCsP
import Derived.Test.YtbllodeanfdebaaGreatDoorCsK
import Derived.Test.YtbllodeanfdebaaGreatDoorCsN
import Derived.Test.YtbllodeanfdebaaGreatDoorCsA
import Derived.Test.YtbllodeanfdebaaGreatDoorCsD
import Derived.Test.YtbllodeanfdebaaGreatDoorCsE
import Derived.Test.YtbllodeanfdebaaGreatDoorCsG
import Derived.Test.YtbllodeanfdebaaGreatDoorCsH
import Derived.Test.YtbllodeanfdebaaGreatDoorCsI
import Derived.Test.YtbllodeanfdebaaGreatDoorCsJ
import Derived.Test.YtbllodeanfdebaaGreatDoorCalm
import Derived.Test.YtbllodeanfdebaaGreatDoorCsL
import Derived.Test.YtbllodeanfdebaaGreatDoorRowS
import Derived.Test.YtbllodeanfdebaaGreatDoorRowG
import Derived.Test.YtbllodeanfdebaaGreatDoorCsO
import Derived.Test.YtbllodeanfdebaaGreatDoorCsM
import Derived.Test.YtbllodeanfdebaaGreatDoorCsN2
import Derived.Test.YtbllodeanfdebaaGreatDoorStL
import Derived.Test.YtbllodeanfdebaaGreatDoorCsO2
import Derived.Test.YtbllodeanfdebaaGreatDoorCsQ
import Derived.Test.YtbllodeanfdebaaGreatDoorStr
import Derived.Test.YtbllodeanfdebaaGreatDoorCsR
import Derived.Test.YtbllodeanfdebaaGreatDoorCsS
import Derived.Test.YtbllodeanfdebaaGreatDoorCsT
import Derived.Test.YtbllodeanfdebaaGreatDoorCsU
import Derived.Test.YtbllodeanfdebaaGreatDoorCsV
import Derived.Test.YtbllodeanfdebaaGreatDoorCsW
import Derived.Test.YtbllodeanfdebaaGreatDoorCsY
import Derived.Test.YtbllodeanfdebaaGreatDoorCsZ
import Derived.Test.YtbllodeanfdebaaGreatDoorCsPa
import Derived.Test.YtbllodeanfdebaaGreatDoorRpC
import Derived.Test.YtbllodeanfdebaaGreatDoorCtA
namespace Go.Proofs.YtbllodeanfdebaaGreatDoor
open Go.ChangeShapes Go.WideShapes Go.ChangeAt Go.RowKit
set_option linter.unusedVariables false
def cI (n : Nat) : List Value := [.int .i64 (n : Nat)]
def six6 : Option (List Nat) → Option (List Nat)
  | some l => if l.length = 6 then some l else none
  | none => none
theorem lt8_of (c : UInt8) : ((c.toNat : Nat) : Int) ≤ 255 := by have := c.toNat_lt; omega
theorem scan_nil (n : Nat) (ds : List UInt8) (out : List Nat) : scanD [] n ds out = if ds = [] ∨ Lib.decDigits n ≠ ds then none else some (out ++ [n]) := rfl
theorem scan_digit {c : UInt8} {r ds : List UInt8} {n : Nat} {out : List Nat} (h : 48 ≤ c.toNat ∧ c.toNat ≤ 57) : scanD (c :: r) n ds out = if 1099511627776 < 10 * n + (c.toNat - 48) then none else scanD r (10 * n + (c.toNat - 48)) (ds ++ [c]) out := by
  rw [scanD, if_pos h]
theorem scan_other {c : UInt8} {r ds : List UInt8} {n : Nat} {out : List Nat} (h : ¬ (48 ≤ c.toNat ∧ c.toNat ≤ 57)) : scanD (c :: r) n ds out = if c ≠ 32 ∨ ds = [] ∨ Lib.decDigits n ≠ ds then none else scanD r 0 [] (out ++ [n]) := by
  rw [scanD, if_neg h]
def numPost (s : List UInt8) (w : World) (e : Ending) (w' : World) : Prop :=
  Below w.heap.size w w' ∧ ((∃ l v, firstD s = some l ∧ e = .returned (.tuple #[v, .bool true]) ∧ OwnC cI 1 3 w' w.heap.size v l) ∨ (firstD s = none ∧ ∃ v, e = .returned (.tuple #[v, .bool false])))
theorem six_yes {l : List Nat} (h : l.length = 6) : six6 (some l) = some l := if_pos h
theorem six_no {l : List Nat} (h : ¬ l.length = 6) : six6 (some l) = none := if_neg h
theorem drop_cons {s : List UInt8} {k : Nat} {c : UInt8} (h : s[k]? = some c) : s.drop k = c :: s.drop (k + 1) := by
  obtain ⟨hk, e⟩ := List.getElem?_eq_some_iff.1 h
  rw [List.drop_eq_getElem_cons hk, e]
set_option linter.unusedSimpArgs false in
set_option maxRecDepth 100000 in
set_option maxHeartbeats 16000000 in
theorem refNumbers_c (s : List UInt8) (w : World) (hm : s.length ≤ 1500) : Calls Tryz.prog 25 #[.string ⟨s.toArray⟩] w fun e w' => Hid (numPost s w e w') := by
  have hm1 : (s.length : Int) ≤ 1500 := by omega
  have HM := Lib.hid hm
  have BC := Lib.hid (begins_c s wLim w (by omega) (by decide))
  cases hb : beginsL wLim s with
  | false =>
    rw [hb] at BC
    have hf : firstD s = none := by unfold firstD; rw [hb]; rfl
    go_enter Tryz.func25, Tryz.ntmps25
    go_wp2_with fail
    refine BC.out.mono ?_
    rintro e w1 ⟨rfl, rfl⟩
    go_wp2
    go_ret2
    exact Lib.hid ⟨Below.refl _ _, .inr ⟨hf, _, rfl⟩⟩
  | true =>
    rw [hb] at BC
    have hlt : 7 < s.length := by unfold beginsL at hb; rw [Bool.and_eq_true, decide_eq_true_eq] at hb; exact hb.2
    obtain ⟨X, hX⟩ : ∃ X, scanD (s.drop 7) 0 [] [] = X := ⟨_, rfl⟩
    have hfX : firstD s = six6 X := by unfold firstD; rw [hb, if_pos rfl, hX]; cases X <;> rfl
    have HFX := Lib.hid hfX
    have HX := Lib.hid hX
    have HLT := Lib.hid hlt
    clear hfX hX hlt hm
    go_enter Tryz.func25, Tryz.ntmps25
    go_wp2_with fail
    refine BC.out.mono ?_
    rintro e w1 ⟨rfl, rfl⟩
    clear BC
    go_wp2_with fail
    go_loopg [4, 5, 6, 7] (s.length + 1) (fun g o x d i wr => ∃ (k n : Nat) (zn : Int) (ds : List UInt8) (out : List Nat) (v : Value), v = o ∧ x = .int .i64 zn ∧ d = .string ⟨ds.toArray⟩ ∧ i = .int .i64 (k : Int) ∧ Hid (g + k = s.length + 8) ∧ 7 ≤ k ∧ k ≤ s.length + 1 ∧ Hid (zn = (n : Int) ∧ n ≤ 1099511627776 ∧ ds.length ≤ k ∧ out.length ≤ k) ∧ Hid (if k ≤ s.length then X = scanD (s.drop k) n ds out else X = some out) ∧ Hid (OwnC cI 1 3 wr w.heap.size v out ∧ Below w.heap.size w wr))
    case atStart => exact ⟨7, 0, 0, [], [], _, rfl, rfl, rfl, rfl, Lib.hid rfl, Nat.le_refl _, by have := HLT.out; omega, Lib.hid ⟨rfl, by omega, by simp, by simp⟩, Lib.hid (by rw [if_pos (by have := HLT.out; omega)]; exact HX.out.symm), Lib.hid ⟨OwnC.start _ _ _ _ _, Below.refl _ _⟩⟩
    case round =>
      obtain ⟨k, n, zn, ds, out, v, rfl, rfl, rfl, rfl, hg, hk7, hkl, HZ, HS, HO⟩ := hrel
      have hz : zn = (n : Int) := HZ.out.1
      have hz0 : 0 ≤ zn := by omega
      have hz1 : zn ≤ 1099511627776 := by have := HZ.out.2.1; omega
      have hk9 : (k : Int) ≤ 1501 := by have := HM.out; omega
      by_cases hkk : k ≤ s.length
      · have hk1 : (k : Int) ≤ (s.length : Int) := by omega
        have hSS := HS.out
        rw [if_pos hkk] at hSS
        by_cases hkn : k < s.length
        · have hk2 : (k : Int) < (s.length : Int) := by omega
          obtain ⟨c, hc⟩ : ∃ c, s[k]? = some c := ⟨_, List.getElem?_eq_getElem hkn⟩
          have hix := fun W => run_strIndex s k hkn W
          rw [List.getD_eq_getElem?_getD, hc, Option.getD_some] at hix
          rw [drop_cons hc] at hSS
          have hl8 := lt8_of c
          by_cases hd : 48 ≤ c.toNat ∧ c.toNat ≤ 57
          · rw [scan_digit hd] at hSS
            have hz48 : (48 : Int) ≤ ((c.toNat : Nat) : Int) := by omega
            have hz57 : ((c.toNat : Nat) : Int) ≤ 57 := by omega
            have hsl := fun W => run_strSlice s k (k + 1) (by omega) (by omega) W
            rw [show ((k + 1 : Nat) : Int) = (k : Int) + 1 by omega, show (s.drop k).take (k + 1 - k) = [c] by rw [drop_cons hc, show k + 1 - k = 1 by omega]; rfl] at hsl
            have hdl : ds.length ≤ 1501 := by have := HZ.out.2.2.1; omega
            have hop := fun W => run_sop (w := W) ds [c] (by simp; omega)
            have hop2 := fun W => run_catC (w := W) ds [c] (by simp; omega)
            have hzz : zn * 10 + (((c.toNat : Nat) : Int) - 48) = ((10 * n + (c.toNat - 48) : Nat) : Int) := by rw [hz]; omega
            have HD := Lib.hid (And.intro hd hSS)
            have HZZ := Lib.hid hzz
            by_cases hbig : 1099511627776 < 10 * n + (c.toNat - 48)
            · rw [if_pos hbig] at hSS
              have hbg : (1099511627776 : Int) < 10 * zn + (((c.toNat : Nat) : Int) - 48) := by omega
              have HXN := Lib.hid hSS
              clear hc hd hSS hzz hz hbig HD
              generalize ((c.toNat : Nat) : Int) = z at *
              go_wp2
              go_ret2
              exact Lib.hid ⟨HO.out.2, .inr ⟨by rw [HFX.out, HXN.out]; rfl, _, rfl⟩⟩
            · rw [if_neg hbig] at hSS
              have hbg : ¬ (1099511627776 : Int) < 10 * zn + (((c.toNat : Nat) : Int) - 48) := by omega
              have HXN := Lib.hid hSS
              have HNB : Hid (10 * n + (c.toNat - 48) ≤ 1099511627776) := Lib.hid (by omega)
              have HZ2 : Hid (10 * zn + (((c.toNat : Nat) : Int) - 48) = ((10 * n + (c.toNat - 48) : Nat) : Int)) := Lib.hid (by omega)
              clear hc hd hSS hzz hz hbig HD HZZ
              generalize ((c.toNat : Nat) : Int) = z at *
              go_wp2
              go_roundg (s.length + 8 - (k + 1))
              case measure => have := hg.out; omega
              case rel => exact ⟨k + 1, _, _, ds ++ [c], out, _, rfl, rfl, rfl, by go_num, Lib.hid (by omega), by omega, by omega, Lib.hid ⟨HZ2.out, HNB.out, by have := HZ.out.2.2.1; rw [List.length_append]; simp; omega, by have := HZ.out.2.2.2; omega⟩, Lib.hid (by rw [if_pos (by omega)]; exact HXN.out), HO⟩
          · rw [scan_other hd] at hSS
            by_cases hlo : c.toNat < 48
            · have hz48 : ¬ (48 : Int) ≤ ((c.toNat : Nat) : Int) := by omega
              clear hlo hd
              by_cases hc32 : c = 32
              · subst hc32
                have hz32 : ((UInt8.toNat 32 : Nat) : Int) = 32 := rfl
                rw [hz32] at hix hz48
                clear hz32 hl8
                have DG := Lib.hid (refDigitsAll_c n (by have := HZ.out.2.1; omega) wr)
                rw [← hz] at DG
                by_cases hds : ds = []
                · rw [if_pos (.inr (.inl hds))] at hSS
                  have HXN := Lib.hid hSS
                  clear hc hSS hz
                  subst hds
                  have hse := str_beqC []
                  skip
                  go_wp2
                  go_ret2
                  exact Lib.hid ⟨HO.out.2, .inr ⟨by rw [HFX.out, HXN.out]; rfl, _, rfl⟩⟩
                · by_cases hdn : Lib.decDigits n = ds
                  · have hie : ds.isEmpty = false := by simpa using hds
                    have hsn := str_bneC hds
                    rw [if_neg (fun h => h.elim (fun e => e rfl) (fun h => h.elim hds (fun e => e hdn)))] at hSS
                    rw [hdn] at DG
                    have hse := str_beqC ds
                    have HXN := Lib.hid hSS
                    have hown : wr.ownsRow w.heap.size 3 1 v out.length (out.flatMap cI) := HO.out.1
                    have hpl : out.length ≤ 1000000000 := by have := HZ.out.2.2.2; have := HM.out; omega
                    have hba : w.heap.size ≤ wr.heap.size := HO.out.2.size
                    have HCI : Hid (cI n = [.int .i64 zn]) := Lib.hid (by unfold cI; rw [hz])
                    clear hc hSS hz hds hdn
                    skip
                    go_wp2_with fail
                    refine DG.out.mono ?_
                    rintro e wq ⟨rfl, rfl⟩
                    go_wp2_with (at_builtin; refine wpList_appK rfl (.tmp 70) (.tmp 72) 66 3 rfl (.int .i64 0) 1 8 Tryz.underlying66 infoC_int rfl (by decide) _ _ _ _ rfl hown [.int .i64 zn] _ rfl rfl rfl (by simp [Value.oneCell']) hpl (by decide) hba ?_)
                    intro v7 w7 hown7 hg7 hat7
                    have hge : ∀ b, v.ownBlock = some b → b < wr.heap.size ∧ w.heap.size ≤ b := fun b hb => OwnC.ge HO.out.1 hb
                    have HO7 : Hid (OwnC cI 1 3 w7 w.heap.size v7 (out ++ [n]) ∧ Below w.heap.size w w7) := Lib.hid ⟨OwnC.snoc (by rw [HCI.out]; exact hown7), (HO.out.2.trans ((Below.refl w.heap.size wr).alloc hba _)).grown hg7 (by rw [World.size_alloc]; omega) fun q e => (hge q e).2⟩
                    clear hown7 hg7 hat7 hown hba hge
                    go_wp2
                    go_roundg (s.length + 8 - (k + 1))
                    case measure => have := hg.out; omega
                    case rel => exact ⟨k + 1, 0, 0, [], out ++ [n], _, rfl, rfl, rfl, by go_num, Lib.hid (by omega), by omega, by omega, Lib.hid ⟨rfl, by omega, by simp, by have := HZ.out.2.2.2; rw [List.length_append]; simp; omega⟩, Lib.hid (by rw [if_pos (by omega)]; exact HXN.out), HO7⟩
                  · have hie : ds.isEmpty = false := by simpa using hds
                    have hsn := str_bneC hds
                    rw [if_pos (.inr (.inr hdn))] at hSS
                    have HXN := Lib.hid hSS
                    have hse := str_bneC hdn
                    have hbe : (Lib.decDigits n == ds) = false := by simpa using hdn
                    generalize Lib.decDigits n = D at *
                    clear hc hSS hz hds
                    skip
                    go_wp2_with fail
                    refine DG.out.mono ?_
                    rintro e wq ⟨rfl, rfl⟩
                    go_wp2
                    go_ret2
                    exact Lib.hid ⟨HO.out.2, .inr ⟨by rw [HFX.out, HXN.out]; rfl, _, rfl⟩⟩
              · rw [if_pos (.inl hc32)] at hSS
                have HXN := Lib.hid hSS
                have hz32 : ¬ ((c.toNat : Nat) : Int) = 32 := fun e => hc32 (UInt8.toNat_inj.1 (by show c.toNat = 32; omega))
                clear hc hSS hz hc32
                generalize ((c.toNat : Nat) : Int) = z at *
                go_wp2
                go_ret2
                exact Lib.hid ⟨HO.out.2, .inr ⟨by rw [HFX.out, HXN.out]; rfl, _, rfl⟩⟩
            · have hz48 : (48 : Int) ≤ ((c.toNat : Nat) : Int) := by omega
              have hz57 : ¬ ((c.toNat : Nat) : Int) ≤ 57 := by omega
              have hc32 : c ≠ 32 := by rintro rfl; exact absurd hz48 (by decide)
              clear hlo hd
              rw [if_pos (.inl hc32)] at hSS
              have HXN := Lib.hid hSS
              have hz32 : ¬ ((c.toNat : Nat) : Int) = 32 := fun e => hc32 (UInt8.toNat_inj.1 (by show c.toNat = 32; omega))
              clear hc hSS hz hc32
              generalize ((c.toNat : Nat) : Int) = z at *
              go_wp2
              go_ret2
              exact Lib.hid ⟨HO.out.2, .inr ⟨by rw [HFX.out, HXN.out]; rfl, _, rfl⟩⟩
        · have hk2 : ¬ (k : Int) < (s.length : Int) := by omega
          rw [List.drop_of_length_le (by omega), scan_nil] at hSS
          have DG := Lib.hid (refDigitsAll_c n (by have := HZ.out.2.1; omega) wr)
          rw [← hz] at DG
          by_cases hds : ds = []
          · rw [if_pos (.inl hds)] at hSS
            have HXN := Lib.hid hSS
            clear hSS hz
            subst hds
            have hse := str_beqC []
            go_wp2
            go_ret2
            exact Lib.hid ⟨HO.out.2, .inr ⟨by rw [HFX.out, HXN.out]; rfl, _, rfl⟩⟩
          · by_cases hdn : Lib.decDigits n = ds
            · have hie : ds.isEmpty = false := by simpa using hds
              have hsn := str_bneC hds
              rw [if_neg (fun h => h.elim hds (fun e => e hdn))] at hSS
              rw [hdn] at DG
              have hse := str_beqC ds
              have HXN := Lib.hid hSS
              have hown : wr.ownsRow w.heap.size 3 1 v out.length (out.flatMap cI) := HO.out.1
              have hpl : out.length ≤ 1000000000 := by have := HZ.out.2.2.2; have := HM.out; omega
              have hba : w.heap.size ≤ wr.heap.size := HO.out.2.size
              have HCI : Hid (cI n = [.int .i64 zn]) := Lib.hid (by unfold cI; rw [hz])
              clear hSS hz hds hdn
              go_wp2_with fail
              refine DG.out.mono ?_
              rintro e wq ⟨rfl, rfl⟩
              go_wp2_with (at_builtin; refine wpList_appK rfl (.tmp 70) (.tmp 72) 66 3 rfl (.int .i64 0) 1 8 Tryz.underlying66 infoC_int rfl (by decide) _ _ _ _ rfl hown [.int .i64 zn] _ rfl rfl rfl (by simp [Value.oneCell']) hpl (by decide) hba ?_)
              intro v7 w7 hown7 hg7 hat7
              have hge : ∀ b, v.ownBlock = some b → b < wr.heap.size ∧ w.heap.size ≤ b := fun b hb => OwnC.ge HO.out.1 hb
              have HO7 : Hid (OwnC cI 1 3 w7 w.heap.size v7 (out ++ [n]) ∧ Below w.heap.size w w7) := Lib.hid ⟨OwnC.snoc (by rw [HCI.out]; exact hown7), (HO.out.2.trans ((Below.refl w.heap.size wr).alloc hba _)).grown hg7 (by rw [World.size_alloc]; omega) fun q e => (hge q e).2⟩
              clear hown7 hg7 hat7 hown hba hge
              go_wp2
              go_roundg (s.length + 8 - (k + 1))
              case measure => have := hg.out; omega
              case rel => exact ⟨k + 1, 0, 0, [], out ++ [n], _, rfl, rfl, rfl, by go_num, Lib.hid (by omega), by omega, by omega, Lib.hid ⟨rfl, by omega, by simp, by have := HZ.out.2.2.2; rw [List.length_append]; simp; omega⟩, Lib.hid (by rw [if_neg (by omega)]; exact HXN.out), HO7⟩
            · have hie : ds.isEmpty = false := by simpa using hds
              have hsn := str_bneC hds
              rw [if_pos (.inr hdn)] at hSS
              have HXN := Lib.hid hSS
              have hse := str_bneC hdn
              have hbe : (Lib.decDigits n == ds) = false := by simpa using hdn
              generalize Lib.decDigits n = D at *
              clear hSS hz hds
              go_wp2_with fail
              refine DG.out.mono ?_
              rintro e wq ⟨rfl, rfl⟩
              go_wp2
              go_ret2
              exact Lib.hid ⟨HO.out.2, .inr ⟨by rw [HFX.out, HXN.out]; rfl, _, rfl⟩⟩
      · have hk1 : ¬ (k : Int) ≤ (s.length : Int) := by omega
        have hSS := HS.out
        rw [if_neg hkk] at hSS
        obtain ⟨A, cp, rfl⟩ := OwnC.form HO.out.1
        have HXN := Lib.hid hSS
        clear hSS hz
        by_cases h6 : out.length = 6
        · have h6i : (out.length : Int) = 6 := by omega
          go_wp2
          go_ret2
          refine Lib.hid ⟨HO.out.2, .inl ⟨out, .slice A out.length cp, by rw [HFX.out, HXN.out, six_yes h6], ?_, HO.out.1⟩⟩
          simp [h6]
        · have h6i : ¬ (out.length : Int) = 6 := by omega
          go_wp2
          go_ret2
          refine Lib.hid ⟨HO.out.2, .inr ⟨by rw [HFX.out, HXN.out, six_no h6], .slice A out.length cp, ?_⟩⟩
          simp [h6]
          exact h6i
end Go.Proofs.YtbllodeanfdebaaGreatDoor
