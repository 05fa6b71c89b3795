/- Texts of ours, joined: RefC. -/
import Derived.Test.YtfemfgkcgboopaaGreatDoorRows
import Derived.WalkKit
import Derived.ProofKit
import Derived.OpenShut
import Derived.ShutString
import Derived.ChangeOld
import Derived.Below
import Derived.BigQuiet
import Derived.Deep.QuietTactic
import Derived.Lib.Hide
import Derived.Deep.RegionHeld3
import Derived.Lib.SlBytesConst
import Derived.Laws.CopyOwn
import Derived.Laws.CopyRow
import Derived.Lib.Bytes
import Derived.Deep.LoopGhost
import Derived.Deep.DeepFit
import Derived.Deep.DeepMust
import Derived.WalkSpells
import Derived.WalkLawsBesides
import Derived.Laws.EntriesVeiled
import Derived.Laws.Rows
import Derived.Test.YtfemfgkcgboopaaGreatDoorQ1
import Derived.Test.YtfemfgkcgboopaaGreatDoorQ2
import Derived.Test.YtfemfgkcgboopaaGreatDoorQ3
import Derived.Test.YtfemfgkcgboopaaGreatDoorQ4
import Derived.Test.YtfemfgkcgboopaaGreatDoorQ9
import Derived.Test.YtfemfgkcgboopaaGreatDoorQ11
import Derived.Test.YtfemfgkcgboopaaGreatDoorQ12
/- narthexref06.Char. -/
namespace Go.Proofs.YtfemfgkcgboopaaGreatDoor
open Go.ChangeShapes Go.WideShapes Go.ChangeAt Go.RowKit
set_option linter.unusedVariables false
set_option maxRecDepth 100000 in
set_option maxHeartbeats 2000000 in
theorem refCharR_range (A : Option Addr) (n cap : Nat) (at_ : Int) (w : World) (ha : at_ < 0 ∨ (n : Int) < at_) :
    Calls Tryz.prog 52 #[.slice A n cap, .int .i64 at_] w fun e w' => e = .returned (numV (0, 0, 3)) ∧ w = w' := by
  by_cases h0 : at_ < 0
  · have hd : decide (at_ < 0) = true := by simpa using h0
    clear ha
    go_enter Tryz.func52, Tryz.ntmps52
    go_wp2
    go_ret3
    exact ⟨rfl, rfl⟩
  · have h1 : (n : Int) < at_ := by omega
    clear ha
    go_enter Tryz.func52, Tryz.ntmps52
    go_wp2
    go_ret3
    exact ⟨rfl, rfl⟩
set_option maxRecDepth 100000 in
set_option maxHeartbeats 2000000 in
theorem refCharR_short (A : Option Addr) (n cap : Nat) (at_ : Nat) (w : World) (hm : n ≤ 50000) (hat : at_ ≤ n) (hs : n < at_ + 3) :
    Calls Tryz.prog 52 #[.slice A n cap, .int .i64 at_] w fun e w' => e = .returned (numV (0, 0, 7)) ∧ w = w' := by
  have hat' : ¬ (n : Int) < (at_ : Int) := by omega
  have hap : IntKind.i64.wrap ((at_ : Int) + 2) = (at_ : Int) + 2 := by rw [IntKind.wrap_i64]; omega
  have hsb : IntKind.i64.wrap ((n : Int) - (at_ : Int)) = (n : Int) - (at_ : Int) := by rw [IntKind.wrap_i64]; omega
  have hd : decide ((n : Int) - (at_ : Int) < 3) = true := by simp; omega
  clear hm hat hs
  go_enter Tryz.func52, Tryz.ntmps52
  go_wp2
  go_ret3
  exact ⟨rfl, rfl⟩
set_option maxRecDepth 100000 in
set_option maxHeartbeats 2000000 in
theorem refCharR_no (b o : Nat) (n cap : Nat) (l : List UInt8) (at_ : Nat) (w : World) (B : Nat) (h : Byt w B (some ⟨b, o, none⟩) n cap l) (hm : n ≤ 50000) (hs : at_ + 3 ≤ n) (hno : ¬ (l[at_]? = some 38 ∧ l[at_ + 1]? = some 35)) :
    Calls Tryz.prog 52 #[.slice (some ⟨b, o, none⟩) n cap, .int .i64 at_] w fun e w' => e = .returned (numV (0, 0, 7)) ∧ w = w' := by
  have hat' : ¬ (n : Int) < (at_ : Int) := by omega
  have hap : IntKind.i64.wrap ((at_ : Int) + 2) = (at_ : Int) + 2 := by rw [IntKind.wrap_i64]; omega
  have hap1 : IntKind.i64.wrap ((at_ : Int) + 1) = (at_ : Int) + 1 := by rw [IntKind.wrap_i64]; omega
  have hsb : IntKind.i64.wrap ((n : Int) - (at_ : Int)) = (n : Int) - (at_ : Int) := by rw [IntKind.wrap_i64]; omega
  have hd : decide ((n : Int) - (at_ : Int) < 3) = false := by simp; omega
  obtain ⟨b', o', c0, e, hb, hc0, hcell0⟩ := h.cell (i := at_) (by omega)
  cases e
  obtain ⟨b', o', c1, e, hb', hc1, hcell1⟩ := h.cell (i := at_ + 1) (by omega)
  cases e
  have hli : (at_ : Int) < (n : Int) := by omega
  have hli1 : (at_ : Int) + 1 < (n : Int) := by omega
  have hp1 : (0 : Int) ≤ (at_ : Int) + 1 := by omega
  have htn : ((at_ : Int) + 1).toNat = at_ + 1 := by omega
  rw [hc0, hc1] at hno
  by_cases h38 : c0 = 38
  · have h35 : ¬ c1 = 35 := fun e => hno ⟨by rw [h38], by rw [e]⟩
    have e1 : ((c1.toNat : Int) != 35) = true := by have := ne_byte' c1 35 35 rfl h35; simp [bne, this]
    have hcell0' : w.cell? ⟨b, o + at_, none⟩ = some (.int .u8 38) := by rw [hcell0, h38]; rfl
    clear hno h38 h35 hcell0 hc0 hc1 h hm hs
    generalize (c1.toNat : Int) = d1 at *
    go_enter Tryz.func52, Tryz.ntmps52
    go_wp2
    go_ret3
    exact ⟨rfl, rfl⟩
  · have e1 : ((c0.toNat : Int) != 38) = true := by have := ne_byte' c0 38 38 rfl h38; simp [bne, this]
    clear hno h38 hc0 hc1 h hm hs hcell1
    generalize (c0.toNat : Int) = d1 at *
    go_enter Tryz.func52, Tryz.ntmps52
    go_wp2
    go_ret3
    exact ⟨rfl, rfl⟩
set_option maxRecDepth 100000 in
set_option maxHeartbeats 2000000 in
theorem refCharR_16 (b o : Nat) (n cap : Nat) (l : List UInt8) (at_ : Nat) (w : World) (B : Nat) (h : Byt w B (some ⟨b, o, none⟩) n cap l) (hm : n ≤ 50000) (hs : at_ + 3 ≤ n) (h0 : l[at_]? = some 38) (h1 : l[at_ + 1]? = some 35) (h2 : l[at_ + 2]? = some 120) :
    Calls Tryz.prog 52 #[.slice (some ⟨b, o, none⟩) n cap, .int .i64 at_] w fun e w' => e = .returned (numV (charBody 16 2000000 l (at_ + 3))) ∧ w = w' := by
  have hln := h.length
  have hat' : ¬ (n : Int) < (at_ : Int) := by omega
  have hap : IntKind.i64.wrap ((at_ : Int) + 2) = (at_ : Int) + 2 := by rw [IntKind.wrap_i64]; omega
  have hap1 : IntKind.i64.wrap ((at_ : Int) + 1) = (at_ : Int) + 1 := by rw [IntKind.wrap_i64]; omega
  have hap3 : IntKind.i64.wrap ((at_ : Int) + 3) = (at_ : Int) + 3 := by rw [IntKind.wrap_i64]; omega
  have hsb : IntKind.i64.wrap ((n : Int) - (at_ : Int)) = (n : Int) - (at_ : Int) := by rw [IntKind.wrap_i64]; omega
  have hd : decide ((n : Int) - (at_ : Int) < 3) = false := by simp; omega
  obtain ⟨b', o', c0, e, hb, hc0, hcell0⟩ := h.cell (i := at_) (by omega)
  cases e
  obtain ⟨b', o', c1, e, hb', hc1, hcell1⟩ := h.cell (i := at_ + 1) (by omega)
  cases e
  obtain ⟨b', o', c2, e, hb', hc2, hcell2⟩ := h.cell (i := at_ + 2) (by omega)
  cases e
  have hli : (at_ : Int) < (n : Int) := by omega
  have hli1 : (at_ : Int) + 1 < (n : Int) := by omega
  have hp1 : (0 : Int) ≤ (at_ : Int) + 1 := by omega
  have htn : ((at_ : Int) + 1).toNat = at_ + 1 := by omega
  have hli2 : (at_ : Int) + 2 < (n : Int) := by omega
  have hp2 : (0 : Int) ≤ (at_ : Int) + 2 := by omega
  have htn2 : ((at_ : Int) + 2).toNat = at_ + 2 := by omega
  have hcell0' : w.cell? ⟨b, o + at_, none⟩ = some (.int .u8 38) := by rw [hcell0, show c0 = 38 by rw [hc0] at h0; exact Option.some.inj h0]; rfl
  have hcell1' : w.cell? ⟨b, o + (at_ + 1), none⟩ = some (.int .u8 35) := by rw [hcell1, show c1 = 35 by rw [hc1] at h1; exact Option.some.inj h1]; rfl
  clear hcell0 hcell1
  have hcell2' : w.cell? ⟨b, o + (at_ + 2), none⟩ = some (.int .u8 120) := by rw [hcell2, show c2 = 120 by rw [hc2] at h2; exact Option.some.inj h2]; rfl
  clear hcell2
  clear h0 h1 h2 hc0 hc1 hc2
  have hds := digs_le 16 (l.drop (at_ + 3))
  have hda := digs_at 16 (l.drop (at_ + 3))
  have hdt := digs_take 16 (l.drop (at_ + 3))
  have hdm := digs_mem 16 (l.drop (at_ + 3))
  rw [List.length_drop, hln] at hds
  have HC : Hid (charBody 16 2000000 l (at_ + 3) = if (digs 16 (l.drop (at_ + 3))).length = 0 ∨ l[(at_ + 3) + (digs 16 (l.drop (at_ + 3))).length]? ≠ some 59 then (0, 0, 7) else if isDoc (numC 16 2000000 (digs 16 (l.drop (at_ + 3)))) = true then (numC 16 2000000 (digs 16 (l.drop (at_ + 3))), (at_ + 3) + (digs 16 (l.drop (at_ + 3))).length + 1, 0) else (0, 0, 6)) := Lib.hid rfl
  generalize hdd : digs 16 (l.drop (at_ + 3)) = ds at *
  have hnb : ∀ k, 0 ≤ numC 16 2000000 (ds.take k) ∧ numC 16 2000000 (ds.take k) ≤ 2000000 := fun k => ⟨numC_nonneg 16 2000000 (by omega) (by omega) _ fun c hc => hdm c (List.mem_of_mem_take hc), numC_le _ _ (by omega) _⟩
  have HD := Lib.hid (And.intro hda (And.intro hdt hnb))
  have HS := Lib.hid hds
  have HCELL : Hid (∀ k, k < n → w.cell? ⟨b, o + k, none⟩ = some (.int .u8 (UInt8.toNat (l.getD k 0) : Int))) := Lib.hid fun k hk => by
    obtain ⟨b', o', c', e, hb', hc', hcl⟩ := h.cell hk
    cases e
    rw [hcl, List.getD_eq_getElem?_getD, hc']
    rfl
  clear hdm hda hdt hnb hdd h hds
  generalize charBody 16 2000000 l (at_ + 3) = res at *
  go_enter Tryz.func52, Tryz.ntmps52
  go_wp2
  go_loopg [9, 10] (n + 1 - (at_ + 3)) (fun g r i wr => ∃ j : Nat, (at_ + 3) ≤ j ∧ j ≤ (at_ + 3) + ds.length ∧ Hid (g + j = n + 1) ∧ i = .int .i64 (j : Int) ∧ r = .int .i64 (numC 16 2000000 (ds.take (j - (at_ + 3)))) ∧ w = wr)
  case atStart => exact ⟨(at_ + 3), Nat.le_refl _, Nat.le_add_right _ _, Lib.hid (by omega), rfl, by rw [Nat.sub_self]; rfl, rfl⟩
  case round =>
    obtain ⟨j, hj1, hj2, hg, rfl, rfl, rfl⟩ := hrel
    have hbn := (HD.out.2.2 (j - (at_ + 3)))
    have hb0 := hbn.1
    have hb1 := hbn.2
    have hj0 : (0 : Int) ≤ (j : Int) := by omega
    have hjb : (j : Int) ≤ 50000 := by have := HS.out; omega
    clear hbn
    by_cases hjn : j < n
    · have hcl := HCELL.out j hjn
      have hgd : (l.drop (at_ + 3))[j - (at_ + 3)]? = some (l.getD j 0) := by
        rw [List.getElem?_drop, show (at_ + 3) + (j - (at_ + 3)) = j by omega, List.getElem?_eq_getElem (by omega)]; simp [List.getD_eq_getElem?_getD, hln ▸ hjn]
      have hat59 := HD.out.1 (j - (at_ + 3)) (l.getD j 0) (by omega) hgd
      have hdl := digit_lt 16 (by omega) (UInt8.toNat (l.getD j 0) : Int)
      have hjin : (j : Int) < (n : Int) := by omega
      by_cases hjm : j < (at_ + 3) + ds.length
      · have hD0 : 0 ≤ digit 16 (UInt8.toNat (l.getD j 0) : Int) := hat59.1 (by omega)
        have HN : Hid (numC 16 2000000 (ds.take (j + 1 - (at_ + 3))) = min (numC 16 2000000 (ds.take (j - (at_ + 3))) * 16 + digit 16 (UInt8.toNat (l.getD j 0) : Int)) 2000000) := Lib.hid (by
          rw [show j + 1 - (at_ + 3) = (j - (at_ + 3)) + 1 by omega, take_snoc ds (j - (at_ + 3)) (l.getD j 0), numC_snoc]
          rw [HD.out.2.1, List.getElem?_take_of_lt (by omega)]; exact hgd)
        have HDC : Hid (Calls Tryz.prog 80 #[.int .i64 (UInt8.toNat (l.getD j 0) : Int), .int .i64 16] w fun e w' => e = .returned (.int .i64 (digit 16 (UInt8.toNat (l.getD j 0) : Int))) ∧ w = w') := Lib.hid (refDigitB_c 16 (by omega) _ w)
        have hdl1 := hdl.1
        have hlx : 0 ≤ (UInt8.toNat (l.getD j 0) : Int) := by omega
        have hly : (UInt8.toNat (l.getD j 0) : Int) ≤ 255 := by have := (l.getD j 0).toNat_lt; omega
        clear hat59 hgd hdl
        generalize (UInt8.toNat (l.getD j 0) : Int) = dn at *
        generalize digit 16 dn = D at *
        generalize numC 16 2000000 (ds.take (j - (at_ + 3))) = r at *
        have hdn : decide (0 ≤ D) = true := by simp; omega
        by_cases hc : 2000000 < r * 16 + D
        · have HN' : Hid (numC 16 2000000 (ds.take (j + 1 - (at_ + 3))) = 2000000) := Lib.hid (by rw [HN.out, Int.min_eq_right (by omega)])
          go_wp2_with fail
          refine HDC.out.mono ?_
          rintro e w1 ⟨rfl, rfl⟩
          go_wp2_with fail
          refine HDC.out.mono ?_
          rintro e w1 ⟨rfl, rfl⟩
          go_wp2
          go_roundg (n - j)
          case measure => have := hg.out; omega
          case rel => exact ⟨j + 1, by omega, by omega, Lib.hid (by omega), by go_num, by rw [HN'.out], rfl⟩
        · have HN' : Hid (numC 16 2000000 (ds.take (j + 1 - (at_ + 3))) = r * 16 + D) := Lib.hid (by rw [HN.out, Int.min_eq_left (by omega)])
          go_wp2_with fail
          refine HDC.out.mono ?_
          rintro e w1 ⟨rfl, rfl⟩
          go_wp2_with fail
          refine HDC.out.mono ?_
          rintro e w1 ⟨rfl, rfl⟩
          go_wp2
          go_roundg (n - j)
          case measure => have := hg.out; omega
          case rel => exact ⟨j + 1, by omega, by omega, Lib.hid (by omega), by go_num, by rw [HN'.out], rfl⟩
      · obtain rfl : j = (at_ + 3) + ds.length := by omega
        have hD0 : digit 16 (UInt8.toNat (l.getD ((at_ + 3) + ds.length) 0) : Int) < 0 := by
          rcases Int.lt_or_le (digit 16 (UInt8.toNat (l.getD ((at_ + 3) + ds.length) 0) : Int)) 0 with h | h
          · exact h
          · have := hat59.2 h; omega
        have h59 : l[(at_ + 3) + ds.length]? = some (l.getD ((at_ + 3) + ds.length) 0) := by
          rw [List.getElem?_eq_getElem (by omega)]; simp [List.getD_eq_getElem?_getD, hln ▸ hjn]
        have htk : ds.take ((at_ + 3) + ds.length - (at_ + 3)) = ds := by rw [show (at_ + 3) + ds.length - (at_ + 3) = ds.length by omega, List.take_length]
        rw [htk] at hb0 hb1 ⊢
        have HDC : Hid (Calls Tryz.prog 80 #[.int .i64 (UInt8.toNat (l.getD ((at_ + 3) + ds.length) 0) : Int), .int .i64 16] w fun e w' => e = .returned (.int .i64 (digit 16 (UInt8.toNat (l.getD ((at_ + 3) + ds.length) 0) : Int))) ∧ w = w') := Lib.hid (refDigitB_c 16 (by omega) _ w)
        have hdn : decide (0 ≤ digit 16 (UInt8.toNat (l.getD ((at_ + 3) + ds.length) 0) : Int)) = false := decide_eq_false (by omega)
        have hcc := HC.out
        rw [h59] at hcc
        have HT1 := Lib.hid (refChar_c (numC 16 2000000 ds) w)
        clear hat59 hgd hdl htk h59
        generalize hdd : l.getD ((at_ + 3) + ds.length) 0 = d at *
        have hlx : 0 ≤ (d.toNat : Int) := by omega
        have hly : (d.toNat : Int) ≤ 255 := by have := d.toNat_lt; omega
        have hne59 : ¬ d = 59 → ((d.toNat : Int) != 59) = true := fun h => by have := ne_byte' d 59 59 rfl h; simp [bne, this]
        generalize digit 16 (d.toNat : Int) = D at *
        generalize numC 16 2000000 ds = r at *
        generalize hJ : (at_ + 3) + ds.length = J at *
        by_cases hm0 : ds.length = 0
        · have HRES : Hid (res = (0, 0, 7)) := Lib.hid (by rw [hcc, if_pos (Or.inl hm0)])
          have hJ0 : ((J : Int) == (at_ : Int) + 3) = true := by simp; omega
          have HJ := Lib.hid hJ
          clear hcc hm0 hJ hdd hne59
          go_wp2_with fail
          refine HDC.out.mono ?_
          rintro e w1 ⟨rfl, rfl⟩
          go_wp2
          go_ret3
          rw [HRES.out]
          exact ⟨rfl, rfl⟩
        · have hJ0 : ((J : Int) == (at_ : Int) + 3) = false := by simp; omega
          have hJn : ((J : Int) == (n : Int)) = false := by simp; omega
          by_cases hd59 : d = 59
          · have hDd : d.toNat = 59 := by rw [hd59]; rfl
            have HJ := Lib.hid hJ
            cases hdoc : isDoc r with
            | true =>
              have HRES : Hid (res = (r, J + 1, 0)) := Lib.hid (by rw [hcc, if_neg (by rw [hd59]; simp; exact List.ne_nil_of_length_pos (by omega)), if_pos hdoc])
              rw [hdoc] at HT1
              have hm0' : 0 < ds.length := by omega
              rw [hDd] at HDC hcl
              clear hcc hm0 hJ hdd hne59 hd59 hDd hdoc
              go_wp2_with fail
              refine HDC.out.mono ?_
              rintro e w1 ⟨rfl, rfl⟩
              go_wp2_with fail
              refine HT1.out.mono ?_
              rintro e w1 ⟨rfl, rfl⟩
              go_wp2
              go_ret3
              rw [HRES.out]
              exact ⟨rfl, rfl⟩
            | false =>
              have HRES : Hid (res = (0, 0, 6)) := Lib.hid (by rw [hcc, if_neg (by rw [hd59]; simp; exact List.ne_nil_of_length_pos (by omega)), if_neg (by rw [hdoc]; decide)])
              rw [hdoc] at HT1
              have hm0' : 0 < ds.length := by omega
              rw [hDd] at HDC hcl
              clear hcc hm0 hJ hdd hne59 hd59 hDd hdoc
              go_wp2_with fail
              refine HDC.out.mono ?_
              rintro e w1 ⟨rfl, rfl⟩
              go_wp2_with fail
              refine HT1.out.mono ?_
              rintro e w1 ⟨rfl, rfl⟩
              go_wp2
              go_ret3
              rw [HRES.out]
              exact ⟨rfl, rfl⟩
          · have HRES : Hid (res = (0, 0, 7)) := Lib.hid (by rw [hcc, if_pos (Or.inr (by simpa using hd59))])
            have hdn59 := hne59 hd59
            have HJ := Lib.hid hJ
            have hm0' : 0 < ds.length := by omega
            clear hcc hm0 hJ hdd hne59 hd59
            generalize (d.toNat : Int) = dn at *
            go_wp2_with fail
            refine HDC.out.mono ?_
            rintro e w1 ⟨rfl, rfl⟩
            go_wp2
            go_ret3
            rw [HRES.out]
            exact ⟨rfl, rfl⟩
    · have hjm : j = (at_ + 3) + ds.length := by have := HS.out; omega
      have hjnn : j = n := by have := HS.out; omega
      have HRES : Hid (res = (0, 0, 7)) := Lib.hid (by rw [HC.out, if_pos (Or.inr (by rw [← hjm, List.getElem?_eq_none (by omega)]; simp))])
      have hjin : ¬ (j : Int) < (n : Int) := by omega
      have hjin2 : ((j : Int) == (n : Int)) = true := by simp; omega
      have HJ := Lib.hid (And.intro hjm hjnn)
      clear hjm hjnn
      generalize hz : ((j : Int) == (at_ : Int) + 3) = z at *
      cases z with
      | true =>
        go_wp2
        go_ret3
        rw [HRES.out]
        exact ⟨rfl, rfl⟩
      | false =>
        go_wp2
        go_ret3
        rw [HRES.out]
        exact ⟨rfl, rfl⟩
set_option maxRecDepth 100000 in
set_option maxHeartbeats 2000000 in
theorem refCharR_10 (b o : Nat) (n cap : Nat) (l : List UInt8) (at_ : Nat) (w : World) (B : Nat) (h : Byt w B (some ⟨b, o, none⟩) n cap l) (hm : n ≤ 50000) (hs : at_ + 3 ≤ n) (h0 : l[at_]? = some 38) (h1 : l[at_ + 1]? = some 35) (h2 : ¬ l[at_ + 2]? = some 120) :
    Calls Tryz.prog 52 #[.slice (some ⟨b, o, none⟩) n cap, .int .i64 at_] w fun e w' => e = .returned (numV (charBody 10 2000000 l (at_ + 2))) ∧ w = w' := by
  have hln := h.length
  have hat' : ¬ (n : Int) < (at_ : Int) := by omega
  have hap : IntKind.i64.wrap ((at_ : Int) + 2) = (at_ : Int) + 2 := by rw [IntKind.wrap_i64]; omega
  have hap1 : IntKind.i64.wrap ((at_ : Int) + 1) = (at_ : Int) + 1 := by rw [IntKind.wrap_i64]; omega
  have hap3 : IntKind.i64.wrap ((at_ : Int) + 3) = (at_ : Int) + 3 := by rw [IntKind.wrap_i64]; omega
  have hsb : IntKind.i64.wrap ((n : Int) - (at_ : Int)) = (n : Int) - (at_ : Int) := by rw [IntKind.wrap_i64]; omega
  have hd : decide ((n : Int) - (at_ : Int) < 3) = false := by simp; omega
  obtain ⟨b', o', c0, e, hb, hc0, hcell0⟩ := h.cell (i := at_) (by omega)
  cases e
  obtain ⟨b', o', c1, e, hb', hc1, hcell1⟩ := h.cell (i := at_ + 1) (by omega)
  cases e
  obtain ⟨b', o', c2, e, hb', hc2, hcell2⟩ := h.cell (i := at_ + 2) (by omega)
  cases e
  have hli : (at_ : Int) < (n : Int) := by omega
  have hli1 : (at_ : Int) + 1 < (n : Int) := by omega
  have hp1 : (0 : Int) ≤ (at_ : Int) + 1 := by omega
  have htn : ((at_ : Int) + 1).toNat = at_ + 1 := by omega
  have hli2 : (at_ : Int) + 2 < (n : Int) := by omega
  have hp2 : (0 : Int) ≤ (at_ : Int) + 2 := by omega
  have htn2 : ((at_ : Int) + 2).toNat = at_ + 2 := by omega
  have hcell0' : w.cell? ⟨b, o + at_, none⟩ = some (.int .u8 38) := by rw [hcell0, show c0 = 38 by rw [hc0] at h0; exact Option.some.inj h0]; rfl
  have hcell1' : w.cell? ⟨b, o + (at_ + 1), none⟩ = some (.int .u8 35) := by rw [hcell1, show c1 = 35 by rw [hc1] at h1; exact Option.some.inj h1]; rfl
  clear hcell0 hcell1
  have e2 : ((c2.toNat : Int) == 120) = false := ne_byte' c2 120 120 rfl fun e => h2 (by rw [hc2, e])
  generalize (c2.toNat : Int) = d2 at *
  clear h0 h1 h2 hc0 hc1 hc2
  have hds := digs_le 10 (l.drop (at_ + 2))
  have hda := digs_at 10 (l.drop (at_ + 2))
  have hdt := digs_take 10 (l.drop (at_ + 2))
  have hdm := digs_mem 10 (l.drop (at_ + 2))
  rw [List.length_drop, hln] at hds
  have HC : Hid (charBody 10 2000000 l (at_ + 2) = if (digs 10 (l.drop (at_ + 2))).length = 0 ∨ l[(at_ + 2) + (digs 10 (l.drop (at_ + 2))).length]? ≠ some 59 then (0, 0, 7) else if isDoc (numC 10 2000000 (digs 10 (l.drop (at_ + 2)))) = true then (numC 10 2000000 (digs 10 (l.drop (at_ + 2))), (at_ + 2) + (digs 10 (l.drop (at_ + 2))).length + 1, 0) else (0, 0, 6)) := Lib.hid rfl
  generalize hdd : digs 10 (l.drop (at_ + 2)) = ds at *
  have hnb : ∀ k, 0 ≤ numC 10 2000000 (ds.take k) ∧ numC 10 2000000 (ds.take k) ≤ 2000000 := fun k => ⟨numC_nonneg 10 2000000 (by omega) (by omega) _ fun c hc => hdm c (List.mem_of_mem_take hc), numC_le _ _ (by omega) _⟩
  have HD := Lib.hid (And.intro hda (And.intro hdt hnb))
  have HS := Lib.hid hds
  have HCELL : Hid (∀ k, k < n → w.cell? ⟨b, o + k, none⟩ = some (.int .u8 (UInt8.toNat (l.getD k 0) : Int))) := Lib.hid fun k hk => by
    obtain ⟨b', o', c', e, hb', hc', hcl⟩ := h.cell hk
    cases e
    rw [hcl, List.getD_eq_getElem?_getD, hc']
    rfl
  clear hdm hda hdt hnb hdd h hds
  generalize charBody 10 2000000 l (at_ + 2) = res at *
  go_enter Tryz.func52, Tryz.ntmps52
  go_wp2
  go_loopg [9, 10] (n + 1 - (at_ + 2)) (fun g r i wr => ∃ j : Nat, (at_ + 2) ≤ j ∧ j ≤ (at_ + 2) + ds.length ∧ Hid (g + j = n + 1) ∧ i = .int .i64 (j : Int) ∧ r = .int .i64 (numC 10 2000000 (ds.take (j - (at_ + 2)))) ∧ w = wr)
  case atStart => exact ⟨(at_ + 2), Nat.le_refl _, Nat.le_add_right _ _, Lib.hid (by omega), rfl, by rw [Nat.sub_self]; rfl, rfl⟩
  case round =>
    obtain ⟨j, hj1, hj2, hg, rfl, rfl, rfl⟩ := hrel
    have hbn := (HD.out.2.2 (j - (at_ + 2)))
    have hb0 := hbn.1
    have hb1 := hbn.2
    have hj0 : (0 : Int) ≤ (j : Int) := by omega
    have hjb : (j : Int) ≤ 50000 := by have := HS.out; omega
    clear hbn
    by_cases hjn : j < n
    · have hcl := HCELL.out j hjn
      have hgd : (l.drop (at_ + 2))[j - (at_ + 2)]? = some (l.getD j 0) := by
        rw [List.getElem?_drop, show (at_ + 2) + (j - (at_ + 2)) = j by omega, List.getElem?_eq_getElem (by omega)]; simp [List.getD_eq_getElem?_getD, hln ▸ hjn]
      have hat59 := HD.out.1 (j - (at_ + 2)) (l.getD j 0) (by omega) hgd
      have hdl := digit_lt 10 (by omega) (UInt8.toNat (l.getD j 0) : Int)
      have hjin : (j : Int) < (n : Int) := by omega
      by_cases hjm : j < (at_ + 2) + ds.length
      · have hD0 : 0 ≤ digit 10 (UInt8.toNat (l.getD j 0) : Int) := hat59.1 (by omega)
        have HN : Hid (numC 10 2000000 (ds.take (j + 1 - (at_ + 2))) = min (numC 10 2000000 (ds.take (j - (at_ + 2))) * 10 + digit 10 (UInt8.toNat (l.getD j 0) : Int)) 2000000) := Lib.hid (by
          rw [show j + 1 - (at_ + 2) = (j - (at_ + 2)) + 1 by omega, take_snoc ds (j - (at_ + 2)) (l.getD j 0), numC_snoc]
          rw [HD.out.2.1, List.getElem?_take_of_lt (by omega)]; exact hgd)
        have HDC : Hid (Calls Tryz.prog 80 #[.int .i64 (UInt8.toNat (l.getD j 0) : Int), .int .i64 10] w fun e w' => e = .returned (.int .i64 (digit 10 (UInt8.toNat (l.getD j 0) : Int))) ∧ w = w') := Lib.hid (refDigitB_c 10 (by omega) _ w)
        have hdl1 := hdl.1
        have hlx : 0 ≤ (UInt8.toNat (l.getD j 0) : Int) := by omega
        have hly : (UInt8.toNat (l.getD j 0) : Int) ≤ 255 := by have := (l.getD j 0).toNat_lt; omega
        clear hat59 hgd hdl
        generalize (UInt8.toNat (l.getD j 0) : Int) = dn at *
        generalize digit 10 dn = D at *
        generalize numC 10 2000000 (ds.take (j - (at_ + 2))) = r at *
        have hdn : decide (0 ≤ D) = true := by simp; omega
        by_cases hc : 2000000 < r * 10 + D
        · have HN' : Hid (numC 10 2000000 (ds.take (j + 1 - (at_ + 2))) = 2000000) := Lib.hid (by rw [HN.out, Int.min_eq_right (by omega)])
          go_wp2_with fail
          refine HDC.out.mono ?_
          rintro e w1 ⟨rfl, rfl⟩
          go_wp2_with fail
          refine HDC.out.mono ?_
          rintro e w1 ⟨rfl, rfl⟩
          go_wp2
          go_roundg (n - j)
          case measure => have := hg.out; omega
          case rel => exact ⟨j + 1, by omega, by omega, Lib.hid (by omega), by go_num, by rw [HN'.out], rfl⟩
        · have HN' : Hid (numC 10 2000000 (ds.take (j + 1 - (at_ + 2))) = r * 10 + D) := Lib.hid (by rw [HN.out, Int.min_eq_left (by omega)])
          go_wp2_with fail
          refine HDC.out.mono ?_
          rintro e w1 ⟨rfl, rfl⟩
          go_wp2_with fail
          refine HDC.out.mono ?_
          rintro e w1 ⟨rfl, rfl⟩
          go_wp2
          go_roundg (n - j)
          case measure => have := hg.out; omega
          case rel => exact ⟨j + 1, by omega, by omega, Lib.hid (by omega), by go_num, by rw [HN'.out], rfl⟩
      · obtain rfl : j = (at_ + 2) + ds.length := by omega
        have hD0 : digit 10 (UInt8.toNat (l.getD ((at_ + 2) + ds.length) 0) : Int) < 0 := by
          rcases Int.lt_or_le (digit 10 (UInt8.toNat (l.getD ((at_ + 2) + ds.length) 0) : Int)) 0 with h | h
          · exact h
          · have := hat59.2 h; omega
        have h59 : l[(at_ + 2) + ds.length]? = some (l.getD ((at_ + 2) + ds.length) 0) := by
          rw [List.getElem?_eq_getElem (by omega)]; simp [List.getD_eq_getElem?_getD, hln ▸ hjn]
        have htk : ds.take ((at_ + 2) + ds.length - (at_ + 2)) = ds := by rw [show (at_ + 2) + ds.length - (at_ + 2) = ds.length by omega, List.take_length]
        rw [htk] at hb0 hb1 ⊢
        have HDC : Hid (Calls Tryz.prog 80 #[.int .i64 (UInt8.toNat (l.getD ((at_ + 2) + ds.length) 0) : Int), .int .i64 10] w fun e w' => e = .returned (.int .i64 (digit 10 (UInt8.toNat (l.getD ((at_ + 2) + ds.length) 0) : Int))) ∧ w = w') := Lib.hid (refDigitB_c 10 (by omega) _ w)
        have hdn : decide (0 ≤ digit 10 (UInt8.toNat (l.getD ((at_ + 2) + ds.length) 0) : Int)) = false := decide_eq_false (by omega)
        have hcc := HC.out
        rw [h59] at hcc
        have HT1 := Lib.hid (refChar_c (numC 10 2000000 ds) w)
        clear hat59 hgd hdl htk h59
        generalize hdd : l.getD ((at_ + 2) + ds.length) 0 = d at *
        have hlx : 0 ≤ (d.toNat : Int) := by omega
        have hly : (d.toNat : Int) ≤ 255 := by have := d.toNat_lt; omega
        have hne59 : ¬ d = 59 → ((d.toNat : Int) != 59) = true := fun h => by have := ne_byte' d 59 59 rfl h; simp [bne, this]
        generalize digit 10 (d.toNat : Int) = D at *
        generalize numC 10 2000000 ds = r at *
        generalize hJ : (at_ + 2) + ds.length = J at *
        by_cases hm0 : ds.length = 0
        · have HRES : Hid (res = (0, 0, 7)) := Lib.hid (by rw [hcc, if_pos (Or.inl hm0)])
          have hJ0 : ((J : Int) == (at_ : Int) + 2) = true := by simp; omega
          have HJ := Lib.hid hJ
          clear hcc hm0 hJ hdd hne59
          go_wp2_with fail
          refine HDC.out.mono ?_
          rintro e w1 ⟨rfl, rfl⟩
          go_wp2
          go_ret3
          rw [HRES.out]
          exact ⟨rfl, rfl⟩
        · have hJ0 : ((J : Int) == (at_ : Int) + 2) = false := by simp; omega
          have hJn : ((J : Int) == (n : Int)) = false := by simp; omega
          by_cases hd59 : d = 59
          · have hDd : d.toNat = 59 := by rw [hd59]; rfl
            have HJ := Lib.hid hJ
            cases hdoc : isDoc r with
            | true =>
              have HRES : Hid (res = (r, J + 1, 0)) := Lib.hid (by rw [hcc, if_neg (by rw [hd59]; simp; exact List.ne_nil_of_length_pos (by omega)), if_pos hdoc])
              rw [hdoc] at HT1
              have hm0' : 0 < ds.length := by omega
              rw [hDd] at HDC hcl
              clear hcc hm0 hJ hdd hne59 hd59 hDd hdoc
              go_wp2_with fail
              refine HDC.out.mono ?_
              rintro e w1 ⟨rfl, rfl⟩
              go_wp2_with fail
              refine HT1.out.mono ?_
              rintro e w1 ⟨rfl, rfl⟩
              go_wp2
              go_ret3
              rw [HRES.out]
              exact ⟨rfl, rfl⟩
            | false =>
              have HRES : Hid (res = (0, 0, 6)) := Lib.hid (by rw [hcc, if_neg (by rw [hd59]; simp; exact List.ne_nil_of_length_pos (by omega)), if_neg (by rw [hdoc]; decide)])
              rw [hdoc] at HT1
              have hm0' : 0 < ds.length := by omega
              rw [hDd] at HDC hcl
              clear hcc hm0 hJ hdd hne59 hd59 hDd hdoc
              go_wp2_with fail
              refine HDC.out.mono ?_
              rintro e w1 ⟨rfl, rfl⟩
              go_wp2_with fail
              refine HT1.out.mono ?_
              rintro e w1 ⟨rfl, rfl⟩
              go_wp2
              go_ret3
              rw [HRES.out]
              exact ⟨rfl, rfl⟩
          · have HRES : Hid (res = (0, 0, 7)) := Lib.hid (by rw [hcc, if_pos (Or.inr (by simpa using hd59))])
            have hdn59 := hne59 hd59
            have HJ := Lib.hid hJ
            have hm0' : 0 < ds.length := by omega
            clear hcc hm0 hJ hdd hne59 hd59
            generalize (d.toNat : Int) = dn at *
            go_wp2_with fail
            refine HDC.out.mono ?_
            rintro e w1 ⟨rfl, rfl⟩
            go_wp2
            go_ret3
            rw [HRES.out]
            exact ⟨rfl, rfl⟩
    · have hjm : j = (at_ + 2) + ds.length := by have := HS.out; omega
      have hjnn : j = n := by have := HS.out; omega
      have HRES : Hid (res = (0, 0, 7)) := Lib.hid (by rw [HC.out, if_pos (Or.inr (by rw [← hjm, List.getElem?_eq_none (by omega)]; simp))])
      have hjin : ¬ (j : Int) < (n : Int) := by omega
      have hjin2 : ((j : Int) == (n : Int)) = true := by simp; omega
      have HJ := Lib.hid (And.intro hjm hjnn)
      clear hjm hjnn
      generalize hz : ((j : Int) == (at_ : Int) + 2) = z at *
      cases z with
      | true =>
        go_wp2
        go_ret3
        rw [HRES.out]
        exact ⟨rfl, rfl⟩
      | false =>
        go_wp2
        go_ret3
        rw [HRES.out]
        exact ⟨rfl, rfl⟩
theorem refCharR_c (A : Option Addr) (n cap : Nat) (l : List UInt8) (at_ : Int) (w : World) (B : Nat) (h : Byt w B A n cap l) (hm : n ≤ 50000) :
    Calls Tryz.prog 52 #[.slice A n cap, .int .i64 at_] w fun e w' => e = .returned (numV (charAt l at_)) ∧ w = w' := by
  have hl := h.length
  unfold charAt
  rw [hl]
  by_cases ha : at_ < 0 ∨ (n : Int) < at_
  · rw [if_pos ha]; exact refCharR_range A n cap at_ w ha
  · rw [if_neg ha]
    obtain ⟨k, rfl⟩ : ∃ k : Nat, at_ = (k : Int) := ⟨at_.toNat, by omega⟩
    rw [Int.toNat_natCast]
    have hk : k ≤ n := by omega
    unfold charOut
    by_cases h2 : l[k]? = some 38 ∧ l[k + 1]? = some 35
    · rw [if_pos h2]
      by_cases hs : n < k + 3
      · have h3 : ¬ l[k + 2]? = some 120 := by rw [List.getElem?_eq_none (by omega)]; simp
        rw [if_neg h3]
        have e : charBody 10 2097152 l (k + 2) = (0, 0, 7) := by
          unfold charBody
          have : (digs 10 (l.drop (k + 2))).length = 0 := by have := digs_le 10 (l.drop (k + 2)); rw [List.length_drop] at this; omega
          rw [if_pos (Or.inl this)]
        rw [e]
        exact refCharR_short A n cap k w hm hk hs
      · obtain ⟨b, o, c, rfl, hb, hc, hcell⟩ := h.cell (i := k) (by omega)
        by_cases h3 : l[k + 2]? = some 120
        · rw [if_pos h3, charBody_cap 16 (Or.inr rfl) 2097152 2000000 (by omega) (by omega)]
          exact refCharR_16 b o n cap l k w B h hm (by omega) h2.1 h2.2 h3
        · rw [if_neg h3, charBody_cap 10 (Or.inl rfl) 2097152 2000000 (by omega) (by omega)]
          exact refCharR_10 b o n cap l k w B h hm (by omega) h2.1 h2.2 h3
    · rw [if_neg h2]
      by_cases hs : n < k + 3
      · exact refCharR_short A n cap k w hm hk hs
      · obtain ⟨b, o, c, rfl, hb, hc, hcell⟩ := h.cell (i := k) (by omega)
        exact refCharR_no b o n cap l k w B h hm (by omega) h2
end Go.Proofs.YtfemfgkcgboopaaGreatDoor
