/- Texts of ours, joined: CChar, CChar2. -/
import Derived.Test.YtfemfgkcgboopaaGreatDoorRows
import Derived.WalkKit
import Derived.ProofKit
import Derived.OpenShut
import Derived.ShutString
import Derived.ChangeOld
import Derived.Below
import Derived.BigQuiet
import Derived.Deep.QuietTactic
import Derived.Lib.Hide
import Derived.Deep.RegionHeld3
import Derived.Lib.SlBytesConst
import Derived.Laws.CopyOwn
import Derived.Laws.CopyRow
import Derived.Lib.Bytes
import Derived.Deep.LoopGhost
import Derived.Deep.DeepFit
import Derived.Deep.DeepMust
import Derived.WalkSpells
import Derived.WalkLawsBesides
import Derived.Test.YtfemfgkcgboopaaGreatDoorQ1
import Derived.Test.YtfemfgkcgboopaaGreatDoorQ2
import Derived.Test.YtfemfgkcgboopaaGreatDoorQ3
import Derived.Test.YtfemfgkcgboopaaGreatDoorQ4
import Derived.Test.YtfemfgkcgboopaaGreatDoorQ9
import Derived.Test.YtfemfgkcgboopaaGreatDoorQ11
/- cref.Char. -/
namespace Go.Proofs.YtfemfgkcgboopaaGreatDoor
open Go.ChangeShapes Go.WideShapes Go.ChangeAt Go.RowKit
set_option linter.unusedVariables false
theorem digitB_c (b : Int) (hb : b = 10 ∨ b = 16) (r : Int) (w : World) : Calls Tryz.prog 88 #[.int .i64 r, .int .i64 b] w fun e w' => e = .returned (.int .i64 (digit b r)) ∧ w = w' := by
  rcases hb with rfl | rfl
  · exact digit10_c r w
  · exact digit16_c r w
theorem refDigitB_c (b : Int) (hb : b = 10 ∨ b = 16) (r : Int) (w : World) : Calls Tryz.prog 80 #[.int .i64 r, .int .i64 b] w fun e w' => e = .returned (.int .i64 (digit b r)) ∧ w = w' := by
  rcases hb with rfl | rfl
  · exact refDigit10_c r w
  · exact refDigit16_c r w
def numV (o : Int × Nat × Nat) : Value := .tuple #[.int .i64 o.1, .int .i64 (o.2.1 : Int), .int .i64 (o.2.2 : Int)]
theorem pre2 (a b : UInt8) (l : List UInt8) : [a, b].isPrefixOf l = decide (l[0]? = some a ∧ l[1]? = some b) := by
  match l with
  | [] => simp
  | [x] => simp [List.isPrefixOf]
  | x :: y :: t =>
    simp [List.isPrefixOf]; rw [Bool.eq_iff_iff]; simp
    exact ⟨fun ⟨p, q⟩ => ⟨p.symm, q.symm⟩, fun ⟨p, q⟩ => ⟨p.symm, q.symm⟩⟩
theorem pre3 (a b c : UInt8) (l : List UInt8) : [a, b, c].isPrefixOf l = decide (l[0]? = some a ∧ l[1]? = some b ∧ l[2]? = some c) := by
  match l with
  | [] => simp
  | [x] => simp [List.isPrefixOf]
  | [x, y] => simp [List.isPrefixOf]
  | x :: y :: z :: t =>
    simp [List.isPrefixOf]; rw [Bool.eq_iff_iff]; simp
    exact ⟨fun ⟨p, q, r⟩ => ⟨p.symm, q.symm, r.symm⟩, fun ⟨p, q, r⟩ => ⟨p.symm, q.symm, r.symm⟩⟩
set_option maxRecDepth 100000 in
set_option maxHeartbeats 2000000 in
theorem crefChar_range (A : Option Addr) (n cap : Nat) (at_ : Int) (w : World) (ha : at_ < 0 ∨ (n : Int) < at_) :
    Calls Tryz.prog 66 #[.slice A n cap, .int .i64 at_] w fun e w' => e = .returned (numV (0, 0, 3)) ∧ Below w.heap.size w w' := by
  by_cases h0 : at_ < 0
  · have hd : decide (at_ < 0) = true := by simpa using h0
    clear ha
    go_enter Tryz.func66, Tryz.ntmps66
    go_wp2_with fail
    go_step3
    go_wp2
    rw [Exit.noGoto_ret]
    go_ret3
    exact ⟨rfl, Below.refl _ _⟩
  · have h1 : (n : Int) < at_ := by omega
    clear ha
    go_enter Tryz.func66, Tryz.ntmps66
    go_wp2_with fail
    go_step3
    go_wp2
    rw [Exit.noGoto_ret]
    go_ret3
    exact ⟨rfl, Below.refl _ _⟩
set_option maxRecDepth 100000 in
set_option maxHeartbeats 2000000 in
theorem crefChar_no (A : Option Addr) (n cap : Nat) (l : List UInt8) (at_ : Nat) (w : World) (h : Byt w w.heap.size A n cap l) (hm : n ≤ 50000) (hat : at_ ≤ n) (hp : [38, 35].isPrefixOf (l.drop at_) = false) :
    Calls Tryz.prog 66 #[.slice A n cap, .int .i64 at_] w fun e w' => e = .returned (numV (0, 0, 7)) ∧ Below w.heap.size w w' := by
  have hp3 : [38, 35, 120].isPrefixOf (l.drop at_) = false := by
    rw [pre2] at hp
    rw [pre3]
    simp only [decide_eq_false_iff_not] at hp ⊢
    exact fun h => hp ⟨h.1, h.2.1⟩
  have hat' : ¬ (n : Int) < (at_ : Int) := by omega
  have hrf : ∀ w2 : World, (Instr.slice 65 (.slice A n cap) (some (.int .i64 (at_ : Int))) none none).run Tryz.prog w2 = .ok (.slice (cutA A cap at_) (n - at_) (cap - at_)) w2 := fun w2 => run_from (w := w2) A n cap at_ hat
  have hap : IntKind.i64.wrap ((at_ : Int) + 2) = (at_ : Int) + 2 := by rw [IntKind.wrap_i64]; omega
  have kc := fun (w : World) (C : Array Value) (n c : Nat) => Lib.run_convert_bytes_const (P := Tryz.prog) w 65 5 C n c Tryz.underlying65 Tryz.underlying5
  have kc2 := kc (w.alloc (.cells #[bv 38, bv 35, bv 120] 5 (3, 4))) #[.int .u8 38, .int .u8 35] 2 2
  rw [show (w.alloc (.cells #[bv 38, bv 35, bv 120] 5 (3, 4))).heap.size = w.heap.size + 1 by simp] at kc2
  have k1 := Byt.const w [38, 35, 120] (3, 4) (by decide)
  have b1 : Below w.heap.size w (w.alloc (.cells ([38, 35, 120].map bv).toArray 5 (3, 4))) := (Below.refl _ _).alloc (Nat.le_refl _) _
  have c1 := hasPrefix_c _ _ _ _ _ _ _ _ _ _ _ ((h.below b1).drop hat) k1
  have k2 := Byt.const (w.alloc (.cells ([38, 35, 120].map bv).toArray 5 (3, 4))) [38, 35] (2, 3) (by decide)
  have b2 : Below w.heap.size w ((w.alloc (.cells ([38, 35, 120].map bv).toArray 5 (3, 4))).alloc (.cells ([38, 35].map bv).toArray 5 (2, 3))) := b1.alloc (by simp) _
  have c2 := hasPrefix_c _ _ _ _ _ _ _ _ _ _ _ ((h.below b2).drop hat) k2
  rw [hp3] at c1
  rw [hp] at c2
  rw [show (w.alloc (.cells ([38, 35, 120].map bv).toArray 5 (3, 4))).heap.size = w.heap.size + 1 by simp] at c2
  have HC2 := Lib.hid c2
  clear c2
  have HB := Lib.hid b2
  clear b2 b1 k1 k2 h hp hp3 hm
  go_enter Tryz.func66, Tryz.ntmps66
  go_wp2_with fail
  go_step3
  go_wp2_with fail
  refine c1.mono ?_
  rintro e w1 ⟨rfl, rfl⟩
  clear kc c1
  go_wp2_with fail
  refine HC2.out.mono ?_
  rintro e w1 ⟨rfl, rfl⟩
  go_wp2
  rw [Exit.noGoto_ret]
  go_ret3
  exact ⟨rfl, HB.out⟩
end Go.Proofs.YtfemfgkcgboopaaGreatDoor
/- cref.Char. -/
namespace Go.Proofs.YtfemfgkcgboopaaGreatDoor
open Go.ChangeShapes Go.WideShapes Go.ChangeAt Go.RowKit
set_option linter.unusedVariables false
theorem ne_byte' (c n : UInt8) (z : Int) (hz : z = (n.toNat : Int)) (h : ¬ c = n) : ((c.toNat : Int) == z) = false := by rw [hz, toNat_eq]; simp [h]
set_option maxRecDepth 100000 in
set_option maxHeartbeats 2000000 in
theorem crefChar_16 (A : Option Addr) (n cap : Nat) (l : List UInt8) (at_ : Nat) (w : World) (h : Byt w w.heap.size A n cap l) (hT : Tabs w) (hF : Forms w) (hm : n ≤ 50000) (hat : at_ ≤ n) (hp : [38, 35, 120].isPrefixOf (l.drop at_) = true) :
    Calls Tryz.prog 66 #[.slice A n cap, .int .i64 at_] w fun e w' => e = .returned (numV (charBody 16 2097152 l (at_ + 3))) ∧ Below w.heap.size w w' := by
  have hln := h.length
  have hlen : at_ + 3 ≤ n := by
    rw [pre3] at hp
    have h2 := (of_decide_eq_true hp).2.2
    rw [List.getElem?_drop] at h2
    rcases Nat.lt_or_ge (at_ + 2) l.length with g | g
    · omega
    · rw [List.getElem?_eq_none g] at h2; cases h2
  obtain ⟨b, o, c, rfl, hb, hc, hcell⟩ := h.cell (i := at_) (by omega)
  clear hb hc hcell
  have hat' : ¬ (n : Int) < (at_ : Int) := by omega
  have hrf : ∀ w2 : World, (Instr.slice 65 (.slice (some ⟨b, o, none⟩) n cap) (some (.int .i64 (at_ : Int))) none none).run Tryz.prog w2 = .ok (.slice (cutA (some ⟨b, o, none⟩) cap at_) (n - at_) (cap - at_)) w2 := fun w2 => run_from (w := w2) (some ⟨b, o, none⟩) n cap at_ hat
  have hap : IntKind.i64.wrap ((at_ : Int) + 2) = (at_ : Int) + 2 := by rw [IntKind.wrap_i64]; omega
  have hap3 : IntKind.i64.wrap ((at_ : Int) + 3) = (at_ : Int) + 3 := by rw [IntKind.wrap_i64]; omega
  have hL := hT.low hF
  have kc := fun (w : World) (C : Array Value) (n c : Nat) => Lib.run_convert_bytes_const (P := Tryz.prog) w 65 5 C n c Tryz.underlying65 Tryz.underlying5
  have kc2 := kc (w.alloc (.cells #[bv 38, bv 35, bv 120] 5 (3, 4))) #[.int .u8 38, .int .u8 35] 2 2
  rw [show (w.alloc (.cells #[bv 38, bv 35, bv 120] 5 (3, 4))).heap.size = w.heap.size + 1 by simp] at kc2
  have k1 := Byt.const w [38, 35, 120] (3, 4) (by decide)
  have b1 : Below w.heap.size w (w.alloc (.cells ([38, 35, 120].map bv).toArray 5 (3, 4))) := (Below.refl _ _).alloc (Nat.le_refl _) _
  have c1 := hasPrefix_c _ _ _ _ _ _ _ _ _ _ _ ((h.below b1).drop hat) k1
  rw [hp] at c1
  have HB := Lib.hid b1
  clear b1 k1 hp
  have HFR : Hid ((at_ : Int) + 3 = ((at_ + 3 : Nat) : Int)) := Lib.hid (by omega)
  have hfn : at_ + 3 ≤ n := hlen
  have hds := digs_le 16 (l.drop (at_ + 3))
  have hda := digs_at 16 (l.drop (at_ + 3))
  have hdt := digs_take 16 (l.drop (at_ + 3))
  have hdm := digs_mem 16 (l.drop (at_ + 3))
  rw [List.length_drop, hln] at hds
  have hk59 : l[(at_ + 3) + (digs 16 (l.drop (at_ + 3))).length]? = l[(at_ + 3) + (digs 16 (l.drop (at_ + 3))).length]? := rfl
  have HLN := Lib.hid hln
  have HC : Hid (charBody 16 2097152 l (at_ + 3) = if (digs 16 (l.drop (at_ + 3))).length = 0 ∨ l[(at_ + 3) + (digs 16 (l.drop (at_ + 3))).length]? ≠ some 59 then (0, 0, 7) else if isDoc (numC 16 2097152 (digs 16 (l.drop (at_ + 3)))) = true then (numC 16 2097152 (digs 16 (l.drop (at_ + 3))), (at_ + 3) + (digs 16 (l.drop (at_ + 3))).length + 1, 0) else (0, 0, 6)) := Lib.hid rfl
  generalize hdd : digs 16 (l.drop (at_ + 3)) = ds at *
  have hnb : ∀ k, 0 ≤ numC 16 2097152 (ds.take k) ∧ numC 16 2097152 (ds.take k) ≤ 2097152 := fun k => ⟨numC_nonneg 16 2097152 (by omega) (by omega) _ fun c hc => hdm c (List.mem_of_mem_take hc), numC_le _ _ (by omega) _⟩
  have HD := Lib.hid (And.intro hda (And.intro hdt hnb))
  have HS := Lib.hid hds
  have HH := Lib.hid (And.intro h (And.intro hT hL))
  clear hk59 hdm hda hdt hnb hdd h hT hF hL hds
  generalize charBody 16 2097152 l (at_ + 3) = res at *
  go_enter Tryz.func66, Tryz.ntmps66
  go_wp2_with fail
  go_step3
  go_wp2_with fail
  refine c1.mono ?_
  rintro e w1 ⟨rfl, rfl⟩
  clear kc c1
  go_wp2_with fail
  generalize hwq : (w.alloc (.cells #[bv 38, bv 35, bv 120] 5 (3, 4))) = wq
  have HQ : Hid (Below w.heap.size w wq) := Lib.hid (by rw [← hwq]; exact HB.out)
  clear hwq
  have HCELL : Hid (∀ k, k < n → wq.cell? ⟨b, o + k, none⟩ = some (.int .u8 (UInt8.toNat (l.getD k 0) : Int))) := Lib.hid fun k hk => by
    obtain ⟨b', o', c', e, hb', hc', hcl⟩ := (HH.out.1.below HQ.out).cell hk
    cases e
    rw [hcl, List.getD_eq_getElem?_getD, hc']
    rfl
  go_step3
  go_wp2_with fail
  go_loopg [4, 5] (n + 1 - (at_ + 3)) (fun g r i wr => ∃ j : Nat, at_ + 3 ≤ j ∧ j ≤ at_ + 3 + ds.length ∧ Hid (g + j = n + 1) ∧ i = .int .i64 (j : Int) ∧ r = .int .i64 (numC 16 2097152 (ds.take (j - (at_ + 3)))) ∧ wq = wr)
  case atStart => exact ⟨at_ + 3, Nat.le_refl _, Nat.le_add_right _ _, Lib.hid (by omega), rfl, by rw [Nat.sub_self]; rfl, rfl⟩
  case round =>
    obtain ⟨j, hj1, hj2, hg, rfl, rfl, rfl⟩ := hrel
    have hbn := (HD.out.2.2 (j - (at_ + 3)))
    have hb0 := hbn.1
    have hb1 := hbn.2
    have hj0 : (0 : Int) ≤ (j : Int) := by omega
    have hjb : (j : Int) ≤ 50000 := by have := HS.out; omega
    clear hbn
    by_cases hjn : j < n
    · have hcl := HCELL.out j hjn
      have hgd : (l.drop (at_ + 3))[j - (at_ + 3)]? = some (l.getD j 0) := by
        rw [List.getElem?_drop, show (at_ + 3) + (j - (at_ + 3)) = j by omega, List.getElem?_eq_getElem (by omega)]; simp [List.getD_eq_getElem?_getD, hln ▸ hjn]
      have hat59 := HD.out.1 (j - (at_ + 3)) (l.getD j 0) (by omega) hgd
      have hdl := digit_lt 16 (by omega) (UInt8.toNat (l.getD j 0) : Int)
      have hjin : (j : Int) < (n : Int) := by omega
      by_cases hjm : j < (at_ + 3) + ds.length
      · have hD0 : 0 ≤ digit 16 (UInt8.toNat (l.getD j 0) : Int) := hat59.1 (by omega)
        have HN : Hid (numC 16 2097152 (ds.take (j + 1 - (at_ + 3))) = min (numC 16 2097152 (ds.take (j - (at_ + 3))) * 16 + digit 16 (UInt8.toNat (l.getD j 0) : Int)) 2097152) := Lib.hid (by
          rw [show j + 1 - (at_ + 3) = (j - (at_ + 3)) + 1 by omega, take_snoc ds (j - (at_ + 3)) (l.getD j 0), numC_snoc]
          rw [HD.out.2.1, List.getElem?_take_of_lt (by omega)]; exact hgd)
        have HDC : Hid (Calls Tryz.prog 88 #[.int .i64 (UInt8.toNat (l.getD j 0) : Int), .int .i64 16] wq fun e w' => e = .returned (.int .i64 (digit 16 (UInt8.toNat (l.getD j 0) : Int))) ∧ wq = w') := Lib.hid (digitB_c 16 (by omega) _ wq)
        have hdl1 := hdl.1
        have hlx : 0 ≤ (UInt8.toNat (l.getD j 0) : Int) := by omega
        have hly : (UInt8.toNat (l.getD j 0) : Int) ≤ 255 := by have := (l.getD j 0).toNat_lt; omega
        clear hat59 hgd hdl
        generalize (UInt8.toNat (l.getD j 0) : Int) = dn at *
        generalize digit 16 dn = D at *
        generalize numC 16 2097152 (ds.take (j - (at_ + 3))) = r at *
        have hdn : decide (D < 0) = false := by simp; omega
        go_wp2_with fail
        refine HDC.out.mono ?_
        rintro e w1 ⟨rfl, rfl⟩
        go_wp2
        go_roundg (n - j)
        case measure => have := hg.out; omega
        case rel => exact ⟨j + 1, by omega, by omega, Lib.hid (by omega), by go_num, by rw [HN.out], rfl⟩
      · obtain rfl : j = (at_ + 3) + ds.length := by omega
        have hD0 : digit 16 (UInt8.toNat (l.getD ((at_ + 3) + ds.length) 0) : Int) < 0 := by
          rcases Int.lt_or_le (digit 16 (UInt8.toNat (l.getD ((at_ + 3) + ds.length) 0) : Int)) 0 with h | h
          · exact h
          · have := hat59.2 h; omega
        have h59 : l[(at_ + 3) + ds.length]? = some (l.getD ((at_ + 3) + ds.length) 0) := by
          rw [List.getElem?_eq_getElem (by omega)]; simp [List.getD_eq_getElem?_getD, hln ▸ hjn]
        have htk : ds.take ((at_ + 3) + ds.length - (at_ + 3)) = ds := by rw [show (at_ + 3) + ds.length - (at_ + 3) = ds.length by omega, List.take_length]
        rw [htk] at hb0 hb1 ⊢
        have HDC : Hid (Calls Tryz.prog 88 #[.int .i64 (UInt8.toNat (l.getD ((at_ + 3) + ds.length) 0) : Int), .int .i64 16] wq fun e w' => e = .returned (.int .i64 (digit 16 (UInt8.toNat (l.getD ((at_ + 3) + ds.length) 0) : Int))) ∧ wq = w') := Lib.hid (digitB_c 16 (by omega) _ wq)
        have hdn : decide (digit 16 (UInt8.toNat (l.getD ((at_ + 3) + ds.length) 0) : Int) < 0) = true := decide_eq_true hD0
        have hcc := HC.out
        rw [h59] at hcc
        have HT1 := Lib.hid (char_c (numC 16 2097152 ds) wq (HH.out.2.1.below HQ.out HH.out.2.2))
        clear hat59 hgd hdl htk h59
        generalize hdd : l.getD ((at_ + 3) + ds.length) 0 = d at *
        have hlx : 0 ≤ (d.toNat : Int) := by omega
        have hly : (d.toNat : Int) ≤ 255 := by have := d.toNat_lt; omega
        have hne59 : ¬ d = 59 → ((d.toNat : Int) != 59) = true := fun h => by have := ne_byte' d 59 59 rfl h; simp [bne, this]
        generalize digit 16 (d.toNat : Int) = D at *
        generalize numC 16 2097152 ds = r at *
        generalize hJ : (at_ + 3) + ds.length = J at *
        by_cases hm0 : ds.length = 0
        · have HRES : Hid (res = (0, 0, 7)) := Lib.hid (by rw [hcc, if_pos (Or.inl hm0)])
          have hJ0 : ((J : Int) == (at_ : Int) + 3) = true := by simp; omega
          have HJ := Lib.hid hJ
          clear hcc hm0 hJ hdd hne59
          go_wp2_with fail
          refine HDC.out.mono ?_
          rintro e w1 ⟨rfl, rfl⟩
          go_wp2
          try rw [Exit.noGoto_ret]
          go_ret3
          rw [HRES.out]
          exact ⟨rfl, HQ.out⟩
        · have hJ0 : ((J : Int) == (at_ : Int) + 3) = false := by simp; omega
          have hJn : ((J : Int) == (n : Int)) = false := by simp; omega
          by_cases hd59 : d = 59
          · have hcl' : wq.cell? ⟨b, o + J, none⟩ = some (.int .u8 59) := by rw [hcl, hd59]; rfl
            have hDd : d.toNat = 59 := by rw [hd59]; rfl
            cases hdoc : isDoc r with
            | true =>
              have HRES : Hid (res = (r, J + 1, 0)) := Lib.hid (by rw [hcc, if_neg (by rw [hd59]; simp; exact List.ne_nil_of_length_pos (by omega)), if_pos hdoc])
              rw [hdoc] at HT1
              have HJ := Lib.hid hJ
              have hm0' : 0 < ds.length := by omega
              rw [hDd] at HDC hcl
              clear hcc hm0 hJ hdd hne59 hd59 hDd hdoc hcl'
              go_wp2_with fail
              refine HDC.out.mono ?_
              rintro e w1 ⟨rfl, rfl⟩
              go_wp2_with fail
              refine HT1.out.mono ?_
              rintro e w1 ⟨rfl, hb⟩
              have HE : Hid (Below w.heap.size w w1) := Lib.hid (HQ.out.trans (hb.mono HQ.out.size))
              clear hb
              go_wp2
              try rw [Exit.noGoto_ret]
              go_ret3
              rw [HRES.out]
              exact ⟨rfl, HE.out⟩
            | false =>
              have HRES : Hid (res = (0, 0, 6)) := Lib.hid (by rw [hcc, if_neg (by rw [hd59]; simp; exact List.ne_nil_of_length_pos (by omega)), if_neg (by rw [hdoc]; decide)])
              rw [hdoc] at HT1
              have HJ := Lib.hid hJ
              have hm0' : 0 < ds.length := by omega
              rw [hDd] at HDC hcl
              clear hcc hm0 hJ hdd hne59 hd59 hDd hdoc hcl'
              go_wp2_with fail
              refine HDC.out.mono ?_
              rintro e w1 ⟨rfl, rfl⟩
              go_wp2_with fail
              refine HT1.out.mono ?_
              rintro e w1 ⟨rfl, hb⟩
              have HE : Hid (Below w.heap.size w w1) := Lib.hid (HQ.out.trans (hb.mono HQ.out.size))
              clear hb
              go_wp2
              try rw [Exit.noGoto_ret]
              go_ret3
              rw [HRES.out]
              exact ⟨rfl, HE.out⟩
          · have HRES : Hid (res = (0, 0, 7)) := Lib.hid (by rw [hcc, if_pos (Or.inr (by simpa using hd59))])
            have hdn59 := hne59 hd59
            have HJ := Lib.hid hJ
            have hm0' : 0 < ds.length := by omega
            clear hcc hm0 hJ hdd hne59 hd59
            generalize (d.toNat : Int) = dn at *
            go_wp2_with fail
            refine HDC.out.mono ?_
            rintro e w1 ⟨rfl, rfl⟩
            go_wp2
            try rw [Exit.noGoto_ret]
            go_ret3
            rw [HRES.out]
            exact ⟨rfl, HQ.out⟩
    · have hjm : j = (at_ + 3) + ds.length := by have := HS.out; omega
      have hjnn : j = n := by have := HS.out; omega
      have HRES : Hid (res = (0, 0, 7)) := Lib.hid (by rw [HC.out, if_pos (Or.inr (by rw [← hjm, List.getElem?_eq_none (by omega)]; simp))])
      have hjin : ¬ (j : Int) < (n : Int) := by omega
      have hjin2 : ((j : Int) == (n : Int)) = true := by simp; omega
      have HJ := Lib.hid (And.intro hjm hjnn)
      clear hjm hjnn
      generalize hz : ((j : Int) == (at_ : Int) + 3) = z at *
      cases z with
      | true =>
        go_wp2
        try rw [Exit.noGoto_ret]
        go_ret3
        rw [HRES.out]
        exact ⟨rfl, HQ.out⟩
      | false =>
        go_wp2
        try rw [Exit.noGoto_ret]
        go_ret3
        rw [HRES.out]
        exact ⟨rfl, HQ.out⟩
set_option maxRecDepth 100000 in
set_option maxHeartbeats 2000000 in
theorem crefChar_10 (A : Option Addr) (n cap : Nat) (l : List UInt8) (at_ : Nat) (w : World) (h : Byt w w.heap.size A n cap l) (hT : Tabs w) (hF : Forms w) (hm : n ≤ 50000) (hat : at_ ≤ n) (hp3 : [38, 35, 120].isPrefixOf (l.drop at_) = false) (hp : [38, 35].isPrefixOf (l.drop at_) = true) :
    Calls Tryz.prog 66 #[.slice A n cap, .int .i64 at_] w fun e w' => e = .returned (numV (charBody 10 2097152 l (at_ + 2))) ∧ Below w.heap.size w w' := by
  have hln := h.length
  have hlen : at_ + 2 ≤ n := by
    rw [pre2] at hp
    have h2 := (of_decide_eq_true hp).2
    rw [List.getElem?_drop] at h2
    rcases Nat.lt_or_ge (at_ + 1) l.length with g | g
    · omega
    · rw [List.getElem?_eq_none g] at h2; cases h2
  obtain ⟨b, o, c, rfl, hb, hc, hcell⟩ := h.cell (i := at_) (by omega)
  clear hb hc hcell
  have hat' : ¬ (n : Int) < (at_ : Int) := by omega
  have hrf : ∀ w2 : World, (Instr.slice 65 (.slice (some ⟨b, o, none⟩) n cap) (some (.int .i64 (at_ : Int))) none none).run Tryz.prog w2 = .ok (.slice (cutA (some ⟨b, o, none⟩) cap at_) (n - at_) (cap - at_)) w2 := fun w2 => run_from (w := w2) (some ⟨b, o, none⟩) n cap at_ hat
  have hap : IntKind.i64.wrap ((at_ : Int) + 2) = (at_ : Int) + 2 := by rw [IntKind.wrap_i64]; omega
  have hap3 : IntKind.i64.wrap ((at_ : Int) + 3) = (at_ : Int) + 3 := by rw [IntKind.wrap_i64]; omega
  have hL := hT.low hF
  have kc := fun (w : World) (C : Array Value) (n c : Nat) => Lib.run_convert_bytes_const (P := Tryz.prog) w 65 5 C n c Tryz.underlying65 Tryz.underlying5
  have kc2 := kc (w.alloc (.cells #[bv 38, bv 35, bv 120] 5 (3, 4))) #[.int .u8 38, .int .u8 35] 2 2
  rw [show (w.alloc (.cells #[bv 38, bv 35, bv 120] 5 (3, 4))).heap.size = w.heap.size + 1 by simp] at kc2
  have k1 := Byt.const w [38, 35, 120] (3, 4) (by decide)
  have b1 : Below w.heap.size w (w.alloc (.cells ([38, 35, 120].map bv).toArray 5 (3, 4))) := (Below.refl _ _).alloc (Nat.le_refl _) _
  have c1 := hasPrefix_c _ _ _ _ _ _ _ _ _ _ _ ((h.below b1).drop hat) k1
  have k2 := Byt.const (w.alloc (.cells ([38, 35, 120].map bv).toArray 5 (3, 4))) [38, 35] (2, 3) (by decide)
  have b2 : Below w.heap.size w ((w.alloc (.cells ([38, 35, 120].map bv).toArray 5 (3, 4))).alloc (.cells ([38, 35].map bv).toArray 5 (2, 3))) := b1.alloc (by simp) _
  have c2 := hasPrefix_c _ _ _ _ _ _ _ _ _ _ _ ((h.below b2).drop hat) k2
  rw [hp3] at c1
  rw [hp] at c2
  rw [show (w.alloc (.cells ([38, 35, 120].map bv).toArray 5 (3, 4))).heap.size = w.heap.size + 1 by simp] at c2
  have HC2 := Lib.hid c2
  clear c2
  have HB := Lib.hid b2
  clear b1 b2 k1 k2 hp hp3
  have HFR : Hid ((at_ : Int) + 2 = ((at_ + 2 : Nat) : Int)) := Lib.hid (by omega)
  have hfn : at_ + 2 ≤ n := hlen
  have hds := digs_le 10 (l.drop (at_ + 2))
  have hda := digs_at 10 (l.drop (at_ + 2))
  have hdt := digs_take 10 (l.drop (at_ + 2))
  have hdm := digs_mem 10 (l.drop (at_ + 2))
  rw [List.length_drop, hln] at hds
  have hk59 : l[(at_ + 2) + (digs 10 (l.drop (at_ + 2))).length]? = l[(at_ + 2) + (digs 10 (l.drop (at_ + 2))).length]? := rfl
  have HLN := Lib.hid hln
  have HC : Hid (charBody 10 2097152 l (at_ + 2) = if (digs 10 (l.drop (at_ + 2))).length = 0 ∨ l[(at_ + 2) + (digs 10 (l.drop (at_ + 2))).length]? ≠ some 59 then (0, 0, 7) else if isDoc (numC 10 2097152 (digs 10 (l.drop (at_ + 2)))) = true then (numC 10 2097152 (digs 10 (l.drop (at_ + 2))), (at_ + 2) + (digs 10 (l.drop (at_ + 2))).length + 1, 0) else (0, 0, 6)) := Lib.hid rfl
  generalize hdd : digs 10 (l.drop (at_ + 2)) = ds at *
  have hnb : ∀ k, 0 ≤ numC 10 2097152 (ds.take k) ∧ numC 10 2097152 (ds.take k) ≤ 2097152 := fun k => ⟨numC_nonneg 10 2097152 (by omega) (by omega) _ fun c hc => hdm c (List.mem_of_mem_take hc), numC_le _ _ (by omega) _⟩
  have HD := Lib.hid (And.intro hda (And.intro hdt hnb))
  have HS := Lib.hid hds
  have HH := Lib.hid (And.intro h (And.intro hT hL))
  clear hk59 hdm hda hdt hnb hdd h hT hF hL hds
  generalize charBody 10 2097152 l (at_ + 2) = res at *
  go_enter Tryz.func66, Tryz.ntmps66
  go_wp2_with fail
  go_step3
  go_wp2_with fail
  refine c1.mono ?_
  rintro e w1 ⟨rfl, rfl⟩
  clear kc c1
  go_wp2_with fail
  refine HC2.out.mono ?_
  rintro e w1 ⟨rfl, rfl⟩
  go_wp2_with fail
  generalize hwq : ((w.alloc (.cells #[bv 38, bv 35, bv 120] 5 (3, 4))).alloc (.cells #[bv 38, bv 35] 5 (2, 3))) = wq
  have HQ : Hid (Below w.heap.size w wq) := Lib.hid (by rw [← hwq]; exact HB.out)
  clear hwq
  have HCELL : Hid (∀ k, k < n → wq.cell? ⟨b, o + k, none⟩ = some (.int .u8 (UInt8.toNat (l.getD k 0) : Int))) := Lib.hid fun k hk => by
    obtain ⟨b', o', c', e, hb', hc', hcl⟩ := (HH.out.1.below HQ.out).cell hk
    cases e
    rw [hcl, List.getD_eq_getElem?_getD, hc']
    rfl
  go_step3
  go_wp2_with fail
  go_loopg [4, 5] (n + 1 - (at_ + 2)) (fun g r i wr => ∃ j : Nat, at_ + 2 ≤ j ∧ j ≤ at_ + 2 + ds.length ∧ Hid (g + j = n + 1) ∧ i = .int .i64 (j : Int) ∧ r = .int .i64 (numC 10 2097152 (ds.take (j - (at_ + 2)))) ∧ wq = wr)
  case atStart => exact ⟨at_ + 2, Nat.le_refl _, Nat.le_add_right _ _, Lib.hid (by omega), rfl, by rw [Nat.sub_self]; rfl, rfl⟩
  case round =>
    obtain ⟨j, hj1, hj2, hg, rfl, rfl, rfl⟩ := hrel
    have hbn := (HD.out.2.2 (j - (at_ + 2)))
    have hb0 := hbn.1
    have hb1 := hbn.2
    have hj0 : (0 : Int) ≤ (j : Int) := by omega
    have hjb : (j : Int) ≤ 50000 := by have := HS.out; omega
    clear hbn
    by_cases hjn : j < n
    · have hcl := HCELL.out j hjn
      have hgd : (l.drop (at_ + 2))[j - (at_ + 2)]? = some (l.getD j 0) := by
        rw [List.getElem?_drop, show (at_ + 2) + (j - (at_ + 2)) = j by omega, List.getElem?_eq_getElem (by omega)]; simp [List.getD_eq_getElem?_getD, hln ▸ hjn]
      have hat59 := HD.out.1 (j - (at_ + 2)) (l.getD j 0) (by omega) hgd
      have hdl := digit_lt 10 (by omega) (UInt8.toNat (l.getD j 0) : Int)
      have hjin : (j : Int) < (n : Int) := by omega
      by_cases hjm : j < (at_ + 2) + ds.length
      · have hD0 : 0 ≤ digit 10 (UInt8.toNat (l.getD j 0) : Int) := hat59.1 (by omega)
        have HN : Hid (numC 10 2097152 (ds.take (j + 1 - (at_ + 2))) = min (numC 10 2097152 (ds.take (j - (at_ + 2))) * 10 + digit 10 (UInt8.toNat (l.getD j 0) : Int)) 2097152) := Lib.hid (by
          rw [show j + 1 - (at_ + 2) = (j - (at_ + 2)) + 1 by omega, take_snoc ds (j - (at_ + 2)) (l.getD j 0), numC_snoc]
          rw [HD.out.2.1, List.getElem?_take_of_lt (by omega)]; exact hgd)
        have HDC : Hid (Calls Tryz.prog 88 #[.int .i64 (UInt8.toNat (l.getD j 0) : Int), .int .i64 10] wq fun e w' => e = .returned (.int .i64 (digit 10 (UInt8.toNat (l.getD j 0) : Int))) ∧ wq = w') := Lib.hid (digitB_c 10 (by omega) _ wq)
        have hdl1 := hdl.1
        have hlx : 0 ≤ (UInt8.toNat (l.getD j 0) : Int) := by omega
        have hly : (UInt8.toNat (l.getD j 0) : Int) ≤ 255 := by have := (l.getD j 0).toNat_lt; omega
        clear hat59 hgd hdl
        generalize (UInt8.toNat (l.getD j 0) : Int) = dn at *
        generalize digit 10 dn = D at *
        generalize numC 10 2097152 (ds.take (j - (at_ + 2))) = r at *
        have hdn : decide (D < 0) = false := by simp; omega
        go_wp2_with fail
        refine HDC.out.mono ?_
        rintro e w1 ⟨rfl, rfl⟩
        go_wp2
        go_roundg (n - j)
        case measure => have := hg.out; omega
        case rel => exact ⟨j + 1, by omega, by omega, Lib.hid (by omega), by go_num, by rw [HN.out], rfl⟩
      · obtain rfl : j = (at_ + 2) + ds.length := by omega
        have hD0 : digit 10 (UInt8.toNat (l.getD ((at_ + 2) + ds.length) 0) : Int) < 0 := by
          rcases Int.lt_or_le (digit 10 (UInt8.toNat (l.getD ((at_ + 2) + ds.length) 0) : Int)) 0 with h | h
          · exact h
          · have := hat59.2 h; omega
        have h59 : l[(at_ + 2) + ds.length]? = some (l.getD ((at_ + 2) + ds.length) 0) := by
          rw [List.getElem?_eq_getElem (by omega)]; simp [List.getD_eq_getElem?_getD, hln ▸ hjn]
        have htk : ds.take ((at_ + 2) + ds.length - (at_ + 2)) = ds := by rw [show (at_ + 2) + ds.length - (at_ + 2) = ds.length by omega, List.take_length]
        rw [htk] at hb0 hb1 ⊢
        have HDC : Hid (Calls Tryz.prog 88 #[.int .i64 (UInt8.toNat (l.getD ((at_ + 2) + ds.length) 0) : Int), .int .i64 10] wq fun e w' => e = .returned (.int .i64 (digit 10 (UInt8.toNat (l.getD ((at_ + 2) + ds.length) 0) : Int))) ∧ wq = w') := Lib.hid (digitB_c 10 (by omega) _ wq)
        have hdn : decide (digit 10 (UInt8.toNat (l.getD ((at_ + 2) + ds.length) 0) : Int) < 0) = true := decide_eq_true hD0
        have hcc := HC.out
        rw [h59] at hcc
        have HT1 := Lib.hid (char_c (numC 10 2097152 ds) wq (HH.out.2.1.below HQ.out HH.out.2.2))
        clear hat59 hgd hdl htk h59
        generalize hdd : l.getD ((at_ + 2) + ds.length) 0 = d at *
        have hlx : 0 ≤ (d.toNat : Int) := by omega
        have hly : (d.toNat : Int) ≤ 255 := by have := d.toNat_lt; omega
        have hne59 : ¬ d = 59 → ((d.toNat : Int) != 59) = true := fun h => by have := ne_byte' d 59 59 rfl h; simp [bne, this]
        generalize digit 10 (d.toNat : Int) = D at *
        generalize numC 10 2097152 ds = r at *
        generalize hJ : (at_ + 2) + ds.length = J at *
        by_cases hm0 : ds.length = 0
        · have HRES : Hid (res = (0, 0, 7)) := Lib.hid (by rw [hcc, if_pos (Or.inl hm0)])
          have hJ0 : ((J : Int) == (at_ : Int) + 2) = true := by simp; omega
          have HJ := Lib.hid hJ
          clear hcc hm0 hJ hdd hne59
          go_wp2_with fail
          refine HDC.out.mono ?_
          rintro e w1 ⟨rfl, rfl⟩
          go_wp2
          try rw [Exit.noGoto_ret]
          go_ret3
          rw [HRES.out]
          exact ⟨rfl, HQ.out⟩
        · have hJ0 : ((J : Int) == (at_ : Int) + 2) = false := by simp; omega
          have hJn : ((J : Int) == (n : Int)) = false := by simp; omega
          by_cases hd59 : d = 59
          · have hcl' : wq.cell? ⟨b, o + J, none⟩ = some (.int .u8 59) := by rw [hcl, hd59]; rfl
            have hDd : d.toNat = 59 := by rw [hd59]; rfl
            cases hdoc : isDoc r with
            | true =>
              have HRES : Hid (res = (r, J + 1, 0)) := Lib.hid (by rw [hcc, if_neg (by rw [hd59]; simp; exact List.ne_nil_of_length_pos (by omega)), if_pos hdoc])
              rw [hdoc] at HT1
              have HJ := Lib.hid hJ
              have hm0' : 0 < ds.length := by omega
              rw [hDd] at HDC hcl
              clear hcc hm0 hJ hdd hne59 hd59 hDd hdoc hcl'
              go_wp2_with fail
              refine HDC.out.mono ?_
              rintro e w1 ⟨rfl, rfl⟩
              go_wp2_with fail
              refine HT1.out.mono ?_
              rintro e w1 ⟨rfl, hb⟩
              have HE : Hid (Below w.heap.size w w1) := Lib.hid (HQ.out.trans (hb.mono HQ.out.size))
              clear hb
              go_wp2
              try rw [Exit.noGoto_ret]
              go_ret3
              rw [HRES.out]
              exact ⟨rfl, HE.out⟩
            | false =>
              have HRES : Hid (res = (0, 0, 6)) := Lib.hid (by rw [hcc, if_neg (by rw [hd59]; simp; exact List.ne_nil_of_length_pos (by omega)), if_neg (by rw [hdoc]; decide)])
              rw [hdoc] at HT1
              have HJ := Lib.hid hJ
              have hm0' : 0 < ds.length := by omega
              rw [hDd] at HDC hcl
              clear hcc hm0 hJ hdd hne59 hd59 hDd hdoc hcl'
              go_wp2_with fail
              refine HDC.out.mono ?_
              rintro e w1 ⟨rfl, rfl⟩
              go_wp2_with fail
              refine HT1.out.mono ?_
              rintro e w1 ⟨rfl, hb⟩
              have HE : Hid (Below w.heap.size w w1) := Lib.hid (HQ.out.trans (hb.mono HQ.out.size))
              clear hb
              go_wp2
              try rw [Exit.noGoto_ret]
              go_ret3
              rw [HRES.out]
              exact ⟨rfl, HE.out⟩
          · have HRES : Hid (res = (0, 0, 7)) := Lib.hid (by rw [hcc, if_pos (Or.inr (by simpa using hd59))])
            have hdn59 := hne59 hd59
            have HJ := Lib.hid hJ
            have hm0' : 0 < ds.length := by omega
            clear hcc hm0 hJ hdd hne59 hd59
            generalize (d.toNat : Int) = dn at *
            go_wp2_with fail
            refine HDC.out.mono ?_
            rintro e w1 ⟨rfl, rfl⟩
            go_wp2
            try rw [Exit.noGoto_ret]
            go_ret3
            rw [HRES.out]
            exact ⟨rfl, HQ.out⟩
    · have hjm : j = (at_ + 2) + ds.length := by have := HS.out; omega
      have hjnn : j = n := by have := HS.out; omega
      have HRES : Hid (res = (0, 0, 7)) := Lib.hid (by rw [HC.out, if_pos (Or.inr (by rw [← hjm, List.getElem?_eq_none (by omega)]; simp))])
      have hjin : ¬ (j : Int) < (n : Int) := by omega
      have hjin2 : ((j : Int) == (n : Int)) = true := by simp; omega
      have HJ := Lib.hid (And.intro hjm hjnn)
      clear hjm hjnn
      generalize hz : ((j : Int) == (at_ : Int) + 2) = z at *
      cases z with
      | true =>
        go_wp2
        try rw [Exit.noGoto_ret]
        go_ret3
        rw [HRES.out]
        exact ⟨rfl, HQ.out⟩
      | false =>
        go_wp2
        try rw [Exit.noGoto_ret]
        go_ret3
        rw [HRES.out]
        exact ⟨rfl, HQ.out⟩
/-- What is read of a reference to a character at any place. -/
def charAt (l : List UInt8) (at_ : Int) : Int × Nat × Nat := if at_ < 0 ∨ (l.length : Int) < at_ then (0, 0, 3) else charOut l at_.toNat
theorem crefChar_c (A : Option Addr) (n cap : Nat) (l : List UInt8) (at_ : Int) (w : World) (h : Byt w w.heap.size A n cap l) (hF : Forms w) (hT : Tabs w) (hm : n ≤ 50000) :
    Calls Tryz.prog 66 #[.slice A n cap, .int .i64 at_] w fun e w' => e = .returned (numV (charAt l at_)) ∧ Below w.heap.size w w' := by
  have hl := h.length
  unfold charAt
  rw [hl]
  by_cases ha : at_ < 0 ∨ (n : Int) < at_
  · rw [if_pos ha]; exact crefChar_range A n cap at_ w ha
  · rw [if_neg ha]
    obtain ⟨k, rfl⟩ : ∃ k : Nat, at_ = (k : Int) := ⟨at_.toNat, by omega⟩
    rw [Int.toNat_natCast]
    have hk : k ≤ n := by omega
    have hd0 : (l.drop k)[0]? = l[k]? := by simp
    have hd1 : (l.drop k)[1]? = l[k + 1]? := by simp
    have hd2 : (l.drop k)[2]? = l[k + 2]? := by simp
    unfold charOut
    by_cases h2 : l[k]? = some 38 ∧ l[k + 1]? = some 35
    · rw [if_pos h2]
      have p2 : [38, 35].isPrefixOf (l.drop k) = true := by rw [pre2, hd0, hd1]; exact decide_eq_true h2
      by_cases h3 : l[k + 2]? = some 120
      · rw [if_pos h3]
        exact crefChar_16 A n cap l k w h hT hF hm hk (by rw [pre3, hd0, hd1, hd2]; exact decide_eq_true ⟨h2.1, h2.2, h3⟩)
      · rw [if_neg h3]
        exact crefChar_10 A n cap l k w h hT hF hm hk (by rw [pre3, hd0, hd1, hd2]; exact decide_eq_false fun h => h3 h.2.2) p2
    · rw [if_neg h2]
      exact crefChar_no A n cap l k w h hm hk (by rw [pre2, hd0, hd1]; exact decide_eq_false h2)
end Go.Proofs.YtfemfgkcgboopaaGreatDoor
