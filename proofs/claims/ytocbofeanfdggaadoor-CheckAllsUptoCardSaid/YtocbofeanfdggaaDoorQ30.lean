/- Texts of ours, joined: CkI. -/
import Derived.Test.YtocbofeanfdggaaDoorRows
import Derived.WalkKit
import Derived.ProofKit
import Derived.OpenShut
import Derived.ShutString
import Derived.ChangeOld
import Derived.Below
import Derived.BigQuiet
import Derived.Deep.QuietTactic
import Derived.Lib.Hide
import Derived.Deep.RegionHeld3
import Derived.Lib.SlBytesConst
import Derived.Laws.CopyOwn
import Derived.Laws.CopyRow
import Derived.Lib.Bytes
import Derived.Deep.LoopGhost
import Derived.Deep.DeepFit
import Derived.Deep.DeepMust
import Derived.WalkSpells
import Derived.WalkLawsBesides
import Derived.Maps.OwnOps
import Derived.Maps.OwnSet
import Derived.Maps.Views
import Derived.Laws.EntriesVeiled
import Derived.Laws.Rows
import Derived.Maps.AppendAt
import Derived.Lib.SmallJoins
import Derived.Deep.AppendLies
import Derived.Deep.RegionLaw
import Derived.Deep.RegionWith
import Derived.Lib.IndexAny
import Derived.Test.YtocbofeanfdggaaDoorQ1
import Derived.Test.YtocbofeanfdggaaDoorQ2
import Derived.Test.YtocbofeanfdggaaDoorQ3
import Derived.Test.YtocbofeanfdggaaDoorQ4
import Derived.Test.YtocbofeanfdggaaDoorQ5
import Derived.Test.YtocbofeanfdggaaDoorQ6
import Derived.Test.YtocbofeanfdggaaDoorQ11
import Derived.Test.YtocbofeanfdggaaDoorQ12
import Derived.Test.YtocbofeanfdggaaDoorQ13
import Derived.Test.YtocbofeanfdggaaDoorQ14
import Derived.Test.YtocbofeanfdggaaDoorQ17
import Derived.Test.YtocbofeanfdggaaDoorQ18
import Derived.Test.YtocbofeanfdggaaDoorQ20
import Derived.Test.YtocbofeanfdggaaDoorQ21
import Derived.Test.YtocbofeanfdggaaDoorQ22
import Derived.Test.YtocbofeanfdggaaDoorQ23
import Derived.Test.YtocbofeanfdggaaDoorQ24
import Derived.Test.YtocbofeanfdggaaDoorQ29
/- The document's One (of layer 40), of an event whose parts fit its kind. -/
namespace Go.Proofs.YtocbofeanfdggaaDoor
open Go.ChangeShapes Go.WideShapes Go.ChangeAt Go.RowKit
set_option linter.unusedVariables false
theorem dropN_cons {α : Type} {l : List α} {t : Nat} {x : α} (hx : l[t]? = some x) : l.drop t = x :: l.drop (t + 1) := by
  have hl := (List.getElem?_eq_some_iff.1 hx).1
  have he : l[t] = x := by rw [List.getElem?_eq_getElem hl] at hx; exact Option.some.inj hx
  rw [List.drop_eq_getElem_cons hl, he]
def q3E (a b : Bool) : Nat := if a = false then 9 else if b = false then 9 else 0
def q2E (s : Bool) (q : Nat) : Nat := if s = false then 11 else q
def q1E (t : Bool) (q : Nat) : Nat := if t = false then 7 else q
theorem oneE_q {e : EvT} (h : partsB e = true) : oneE e = q1E (namedB (namesE e)) (q1E (textsB e) (q2E (shortB (namesE e)) (q3E (nowhereB (namesE e)) (onceB [] (namesA e.ats))))) := by
  unfold oneE q1E q2E q3E
  rw [h, if_neg (by simp)]
  have : spacedB e = (onceB [] (namesA e.ats) && nowhereB (namesE e)) := rfl
  rw [this]
  cases onceB [] (namesA e.ats) <;> cases nowhereB (namesE e) <;> rfl
theorem hasNm_of {l : List (List UInt8 × List UInt8)} {j : Nat} {y x : List UInt8 × List UInt8} (h : l[j]? = some y) (e : y = x) : hasNm l x = true := by
  unfold hasNm
  exact List.any_eq_true.2 ⟨y, List.mem_of_getElem? h, by simp [e]⟩
theorem hasNm_mid {ats : List (List UInt8 × List UInt8 × List UInt8)} {j t : Nat} {a : List UInt8 × List UInt8 × List UInt8} {x : List UInt8 × List UInt8} (h : ats[j]? = some a) (hj : j < t) (e : (a.1, a.2.1) = x) : hasNm (namesA (ats.take t)) x = true := by
  refine hasNm_of (j := j) ?_ e
  unfold namesA
  rw [List.getElem?_map, List.getElem?_take_of_lt hj, h]
  rfl
set_option maxRecDepth 100000 in
set_option maxHeartbeats 16000000 in
theorem refOneOk_c (k : Int) (sp lo tx : List UInt8) (A : Option Addr) (n cap : Nat) (ats : List (List UInt8 × List UInt8 × List UInt8)) (w : World) (h : RRd cA 3 w w.heap.size A n cap ats) (hle : EvLe 5000 ⟨⟨k, sp, lo, ats, tx⟩, A, n, cap⟩) (hp : partsB ⟨k, sp, lo, ats, tx⟩ = true) :
    Calls Tryd.prog 14 #[.agg #[.int .i64 k, .string ⟨sp.toArray⟩, .string ⟨lo.toArray⟩, .slice A n cap, .string ⟨tx.toArray⟩]] w fun e w' => e = .returned (.int .i64 (oneE ⟨k, sp, lo, ats, tx⟩ : Nat)) ∧ Below w.heap.size w w' := by
  have hm : n ≤ 5000 := hle.n
  have hnm := names_le hle
  have hkk := parts_kind hp
  have HP : Hid (∀ W, Below w.heap.size w W → RRd cA 3 W W.heap.size A n cap ats) := Lib.hid fun W hb => (h.below hb).more hb.size
  have HLN : Hid (ats.length = n) := Lib.hid h.len
  have HNB : Hid (∀ x ∈ namesE ⟨k, sp, lo, ats, tx⟩, x.2.length ≤ 50000) := Lib.hid fun x hx => by have := (hnm x hx).2; omega
  have hnl : (namesE ⟨k, sp, lo, ats, tx⟩).length ≤ 5001 := by
    have := h.len
    unfold namesE namesA
    split <;> simp <;> omega
  have CN : Hid (∀ W, Below w.heap.size w W → Calls Tryd.prog 33 #[.agg #[.int .i64 k, .string ⟨sp.toArray⟩, .string ⟨lo.toArray⟩, .slice A n cap, .string ⟨tx.toArray⟩]] W fun e w' => ∃ A2 c2, e = .returned (.slice A2 (namesE ⟨k, sp, lo, ats, tx⟩).length c2) ∧ RRd cN 2 w' w'.heap.size A2 (namesE ⟨k, sp, lo, ats, tx⟩).length c2 (namesE ⟨k, sp, lo, ats, tx⟩) ∧ Below W.heap.size W w') := Lib.hid fun W hb => refNames_c k sp lo tx A n cap ats W ((h.below hb).more hb.size) (by omega) hkk
  have CT : Hid (∀ W, Below w.heap.size w W → Calls Tryd.prog 35 #[.agg #[.int .i64 k, .string ⟨sp.toArray⟩, .string ⟨lo.toArray⟩, .slice A n cap, .string ⟨tx.toArray⟩]] W fun e w' => e = .returned (.bool (!textsB ⟨k, sp, lo, ats, tx⟩)) ∧ Below W.heap.size W w') := Lib.hid fun W hb => refText_c k sp lo tx A n cap ats W ((h.below hb).more hb.size) (by omega) hp hle.tx hle.lo (fun x hx => by have := (hnm x hx).1; omega) (fun x hx => by have := (hle.ats x hx).2.2; omega)
  have CI : Hid (∀ (s : List UInt8) W, s.length ≤ 50000 → Calls Tryd.prog 34 #[.string ⟨s.toArray⟩, .bool true] W fun e w' => e = .returned (.bool (isPl s)) ∧ Below W.heap.size W w') := Lib.hid fun s W hs => by
    have := refIs_c5 true s W hs
    rwa [okTrue, okTrue] at this
  have HR0 := Lib.hid (oneE_q hp)
  have HPQ := Lib.hid hp
  have J0 := Lib.hid (CJ.start 40 w #[.int .i64 k, .string ⟨sp.toArray⟩, .string ⟨lo.toArray⟩, .slice A n cap, .string ⟨tx.toArray⟩])
  have z0 := cell_of 0 J0.out.2
  have z1 := cell_of 1 J0.out.2
  have z2 := cell_of 2 J0.out.2
  have z3 := cell_of 3 J0.out.2
  have z4 := cell_of 4 J0.out.2
  have hae : n ≠ 0 → ats.isEmpty = false := by have := h.len; cases ats with | nil => simp at this; omega | cons a t => intro _; rfl
  have hK : k = 1 ∧ tx = [] ∨ k = 2 ∧ tx = [] ∧ n = 0 ∨ k = 3 ∧ sp = [] ∧ lo = [] ∧ n = 0 ∨ k = 4 ∧ sp = [] ∧ n = 0 ∨ k = 5 ∧ sp = [] ∧ lo = [] ∧ n = 0 := by
    have hn : ats.isEmpty = true → n = 0 := fun h1 => by
      rcases Nat.eq_zero_or_pos n with h2 | h2
      · exact h2
      · rw [hae (by omega)] at h1; cases h1
    rcases hkk with rfl | rfl | rfl | rfl | rfl
    · exact .inl ⟨rfl, by simpa [partsB] using hp⟩
    · have := hp; simp [partsB] at this; exact .inr (.inl ⟨rfl, this.1, hn (by simp [this.2])⟩)
    · have := hp; simp [partsB] at this; exact .inr (.inr (.inl ⟨rfl, this.1.1, this.1.2, hn (by simp [this.2])⟩))
    · have := hp; simp [partsB] at this; exact .inr (.inr (.inr (.inl ⟨rfl, this.1, hn (by simp [this.2])⟩)))
    · have := hp; simp [partsB] at this; exact .inr (.inr (.inr (.inr ⟨rfl, this.1.1, this.1.2, hn (by simp [this.2])⟩)))
  clear h hle hp hkk hnm hae
  simp only at HR0
  obtain ⟨R, hR⟩ : ∃ q, oneE ⟨k, sp, lo, ats, tx⟩ = q := ⟨_, rfl⟩
  rw [hR] at HR0 ⊢
  clear hR
  generalize namesE ⟨k, sp, lo, ats, tx⟩ = l at *
  generalize textsB ⟨k, sp, lo, ats, tx⟩ = tb at *
  obtain ⟨m, hll⟩ : ∃ m, l.length = m := ⟨_, rfl⟩
  have HLL := Lib.hid hll
  rw [hll] at CN hnl
  clear hll
  have hm9 : (n : Int) ≤ 5000 := by omega
  have hn0 : (0 : Int) ≤ (n : Int) := by omega
  rcases hK with ⟨rfl, rfl⟩ | ⟨rfl, rfl, rfl⟩ | ⟨rfl, rfl, rfl, rfl⟩ | ⟨rfl, rfl, rfl⟩ | ⟨rfl, rfl, rfl, rfl⟩
  · have _t := True.intro
    clear _t
    go_enter Tryd.func14, Tryd.ntmps14
    go_wp2_with fail
    refine (CN.out _ J0.out.1).mono ?_
    rintro e w1 ⟨A2, c2, rfl, hr, hb⟩
    have HB1 := Lib.hid (J0.out.1.trans (hb.mono J0.out.1.size))
    have J1 := Lib.hid (J0.out.kept hb)
    have HQ : Hid (∀ W, Below w1.heap.size w1 W → RRd cN 2 W W.heap.size A2 m c2 l) := Lib.hid fun W hb => (hr.below hb).more hb.size
    clear hr hb CN z0 z1 z2 z3 z4
    go_wp2
    go_loopg [4] (m) (fun g i wr => ∃ t : Nat, i = .int .i64 (t : Int) ∧ t ≤ m ∧ Hid (g + t = m) ∧ Hid (R = q1E (namedB (l.drop t)) (q1E tb (q2E (shortB (l.drop 0)) (q3E (nowhereB (l.drop 0)) (onceB (namesA (ats.take 0)) (namesA (ats.drop 0))))))) ∧ Hid (Below w1.heap.size w1 wr))
    case atStart => exact ⟨0, rfl, Nat.zero_le _, Lib.hid rfl, HR0, Lib.hid (Below.refl _ _)⟩
    case round =>
      obtain ⟨t, rfl, ht, hg, HA, HB⟩ := hrel
      have ht0 : (0 : Int) ≤ (t : Int) := by omega
      have ht9 : (t : Int) ≤ 5001 := by omega
      have HBW := Lib.hid (HB1.out.trans (HB.out.mono HB1.out.size))
      by_cases htn : t < m
      · have hti : (t : Int) < (m : Int) := by omega
        obtain ⟨b1, o1, x, rfl, hb1, hx, hc1⟩ := (HQ.out _ HB.out).cell htn
        have hsx := HNB.out x (List.mem_of_getElem? hx)
        have hdr := dropN_cons hx
        have hA := HA.out
        rw [hdr, namedB, List.all_cons, ← namedB] at hA
        obtain ⟨xs, xl⟩ := x
        have y1 : wr.cell? ⟨b1, o1 + t * 2 + 1, none⟩ = some (.string ⟨xl.toArray⟩) := by rw [show o1 + t * 2 + 1 = o1 + (t * 2 + 1) by omega]; exact hc1 1 _ rfl
        have C3 := Lib.hid (CI.out xl wr hsx)
        clear hb1 hx hc1 hdr hsx HA
        simp only at hA
        generalize isPl xl = q at *
        have HA2 := Lib.hid hA
        clear hA
        go_wp2_with fail
        refine C3.out.mono ?_
        rintro e w2 ⟨rfl, hb2⟩
        have HB2 := Lib.hid (HB.out.trans (hb2.mono HB.out.size))
        have HBW2 := Lib.hid (HBW.out.trans (hb2.mono HBW.out.size))
        clear hb2 C3
        cases q with
        | false =>
          go_wp2
          go_ret
          exact ⟨by rw [HA2.out]; rfl, HBW2.out⟩
        | true =>
          go_wp2
          go_roundg (m - (t + 1))
          case measure => have := hg.out; omega
          case rel => exact ⟨t + 1, by go_num, by omega, Lib.hid (by have := hg.out; omega), Lib.hid (by rw [HA2.out, Bool.true_and]), HB2⟩
      · have hti : ¬ (t : Int) < (m : Int) := by omega
        have HA2 : Hid (R = q1E tb (q2E (shortB (l.drop 0)) (q3E (nowhereB (l.drop 0)) (onceB (namesA (ats.take 0)) (namesA (ats.drop 0)))))) := Lib.hid (by rw [HA.out, List.drop_of_length_le (by rw [HLL.out]; omega)]; rfl)
        have J2 := Lib.hid (J1.out.kept HB.out)
        have z0 := cell_of 0 J2.out.2
        have z1 := cell_of 1 J2.out.2
        have z2 := cell_of 2 J2.out.2
        have z3 := cell_of 3 J2.out.2
        have z4 := cell_of 4 J2.out.2
        have C3 := Lib.hid (CT.out wr HBW.out)
        clear HA CT CI HNB
        go_wp2_with fail
        refine C3.out.mono ?_
        rintro e w2 ⟨rfl, hb2⟩
        have HB2 := Lib.hid (HB.out.trans (hb2.mono HB.out.size))
        have HBW2 := Lib.hid (HBW.out.trans (hb2.mono HBW.out.size))
        clear hb2 C3 z0 z1 z2 z3 z4 hti ht0 ht9 HB HBW J2 htn hg ht
        cases tb with
        | false =>
          go_wp2
          go_ret
          exact ⟨by rw [HA2.out]; rfl, HBW2.out⟩
        | true =>
          have HA3 : Hid (R = q2E (shortB (l.drop 0)) (q3E (nowhereB (l.drop 0)) (onceB (namesA (ats.take 0)) (namesA (ats.drop 0))))) := Lib.hid HA2.out
          clear HA2
          go_wp2
          go_loopg [5] (m) (fun g i wr => ∃ t : Nat, i = .int .i64 (t : Int) ∧ t ≤ m ∧ Hid (g + t = m) ∧ Hid (R = q2E (shortB (l.drop t)) (q3E (nowhereB (l.drop 0)) (onceB (namesA (ats.take 0)) (namesA (ats.drop 0))))) ∧ w2 = wr)
          case atStart => exact ⟨0, rfl, Nat.zero_le _, Lib.hid rfl, HA3, rfl⟩
          case round =>
            clear HA3
            obtain ⟨t, rfl, ht, hg, HA, rfl⟩ := hrel
            have ht0 : (0 : Int) ≤ (t : Int) := by omega
            have ht9 : (t : Int) ≤ 5001 := by omega
            by_cases htn : t < m
            · have hti : (t : Int) < (m : Int) := by omega
              obtain ⟨b1, o1, x, rfl, hb1, hx, hc1⟩ := (HQ.out _ HB2.out).cell htn
              have hdr := dropN_cons hx
              have hA := HA.out
              rw [hdr, shortB, List.all_cons, ← shortB] at hA
              obtain ⟨xs, xl⟩ := x
              have y1 : w2.cell? ⟨b1, o1 + t * 2 + 1, none⟩ = some (.string ⟨xl.toArray⟩) := by rw [show o1 + t * 2 + 1 = o1 + (t * 2 + 1) by omega]; exact hc1 1 _ rfl
              clear hb1 hx hc1 hdr HA
              simp only at hA
              by_cases h9 : xl.length ≤ 1024
              · have h9i : ¬ (1024 : Int) < (xl.length : Int) := by omega
                have HA2 := Lib.hid hA
                clear hA
                go_wp2
                go_roundg (m - (t + 1))
                case measure => have := hg.out; omega
                case rel => exact ⟨t + 1, by go_num, by omega, Lib.hid (by have := hg.out; omega), Lib.hid (by rw [HA2.out, decide_eq_true h9, Bool.true_and]), rfl⟩
              · have h9i : (1024 : Int) < (xl.length : Int) := by omega
                rw [decide_eq_false h9] at hA
                have HA2 := Lib.hid hA
                clear hA h9
                go_wp2
                go_ret
                exact ⟨by rw [HA2.out]; rfl, HBW2.out⟩
            · have hti : ¬ (t : Int) < (m : Int) := by omega
              have HA2 : Hid (R = q3E (nowhereB (l.drop 0)) (onceB (namesA (ats.take 0)) (namesA (ats.drop 0)))) := Lib.hid (by rw [HA.out, List.drop_of_length_le (by rw [HLL.out]; omega)]; rfl)
              clear HA ht0 ht9 hg ht htn
              go_wp2
              clear hti
              go_loopg [6] (m) (fun g i wr => ∃ t : Nat, i = .int .i64 (t : Int) ∧ t ≤ m ∧ Hid (g + t = m) ∧ Hid (R = q3E (nowhereB (l.drop t)) (onceB (namesA (ats.take 0)) (namesA (ats.drop 0)))) ∧ w2 = wr)
              case atStart => exact ⟨0, rfl, Nat.zero_le _, Lib.hid rfl, HA2, rfl⟩
              case round =>
                clear HA2
                obtain ⟨t, rfl, ht, hg, HA, rfl⟩ := hrel
                have ht0 : (0 : Int) ≤ (t : Int) := by omega
                have ht9 : (t : Int) ≤ 5001 := by omega
                by_cases htn : t < m
                · have hti : (t : Int) < (m : Int) := by omega
                  obtain ⟨b1, o1, x, rfl, hb1, hx, hc1⟩ := (HQ.out _ HB2.out).cell htn
                  have hdr := dropN_cons hx
                  have hA := HA.out
                  rw [hdr, nowhereB, List.all_cons, ← nowhereB] at hA
                  obtain ⟨xs, xl⟩ := x
                  have y1 : w2.cell? ⟨b1, o1 + t * 2, none⟩ = some (.string ⟨xs.toArray⟩) := by rw [show o1 + t * 2 = o1 + (t * 2 + 0) by omega]; exact hc1 0 _ rfl
                  clear hb1 hx hc1 hdr HA
                  simp only at hA
                  have he := xmlns_eq xs
                  generalize decide (xs = xmlnsS) = q at *
                  have HA2 := Lib.hid hA
                  clear hA
                  unfold xmlnsS at he
                  cases q with
                  | true =>
                    go_wp2
                    go_ret
                    exact ⟨by rw [HA2.out]; rfl, HBW2.out⟩
                  | false =>
                    go_wp2
                    go_roundg (m - (t + 1))
                    case measure => have := hg.out; omega
                    case rel => exact ⟨t + 1, by go_num, by omega, Lib.hid (by have := hg.out; omega), Lib.hid (by rw [HA2.out]; rfl), rfl⟩
                · have hti : ¬ (t : Int) < (m : Int) := by omega
                  have HA2 : Hid (R = q3E true (onceB (namesA (ats.take 0)) (namesA (ats.drop 0)))) := Lib.hid (by rw [HA.out, List.drop_of_length_le (by rw [HLL.out]; omega)]; rfl)
                  have J2 := Lib.hid (J1.out.kept HB2.out)
                  clear HA ht0 ht9 hg ht htn HLL J1 HQ
                  go_wp2
                  clear hti
                  go_loopg [7] (n) (fun g i wr => ∃ t : Nat, i = .int .i64 (t : Int) ∧ t ≤ n ∧ Hid (g + t = n) ∧ Hid (R = q3E true (onceB (namesA (ats.take t)) (namesA (ats.drop t)))) ∧ Hid (Below w2.heap.size w2 wr))
                  case atStart => exact ⟨0, rfl, Nat.zero_le _, Lib.hid rfl, HA2, Lib.hid (Below.refl _ _)⟩
                  case round =>
                    clear HA2
                    obtain ⟨t, rfl, ht, hg, HA, HB⟩ := hrel
                    have ht0 : (0 : Int) ≤ (t : Int) := by omega
                    have ht9 : (t : Int) ≤ 5000 := by omega
                    have J3 := Lib.hid (J2.out.kept HB.out)
                    have HBW3 := Lib.hid (HBW2.out.trans (HB.out.mono HBW2.out.size))
                    have z3 := cell_of 3 J3.out.2
                    by_cases htn : t < n
                    · have hti : (t : Int) < (n : Int) := by omega
                      obtain ⟨b1, o1, x, hAe, hb1, hx, hc1⟩ := (HP.out _ HBW3.out).cell htn
                      have hdr := dropN_cons hx
                      have HSN := Lib.hid (namesA_snoc hx)
                      have hA := HA.out
                      rw [hdr] at hA
                      have HX := Lib.hid hx
                      obtain ⟨xs, xl, xv⟩ := x
                      have hA2 : R = q3E true (onceB (namesA (ats.take t)) ((xs, xl) :: namesA (ats.drop (t + 1)))) := hA
                      have y0 : wr.cell? ⟨b1, o1 + t * 3, none⟩ = some (.string ⟨xs.toArray⟩) := by rw [show o1 + t * 3 = o1 + (t * 3 + 0) by omega]; exact hc1 0 _ rfl
                      have y1 : wr.cell? ⟨b1, o1 + t * 3 + 1, none⟩ = some (.string ⟨xl.toArray⟩) := by rw [show o1 + t * 3 + 1 = o1 + (t * 3 + 1) by omega]; exact hc1 1 _ rfl
                      have HA2 := Lib.hid hA2
                      have HAE := Lib.hid hAe
                      subst hAe
                      simp only at HSN
                      clear hx hc1 hdr hA hA2 HA hb1
                      by_cases hbad : (xs, xl) = (([], xmlnsN) : List UInt8 × List UInt8)
                      · have e1 : xs = [] := congrArg Prod.fst hbad
                        have e2 : xl = xmlnsN := congrArg Prod.snd hbad
                        have e3 := onceB_app (namesA (ats.take t)) (xs, xl) (namesA (ats.drop (t + 1))) (by rw [decide_eq_true hbad]; rfl)
                        have HR3 : Hid (R = 9) := Lib.hid (by rw [HA2.out, e3]; rfl)
                        clear HA2 e3 hbad
                        subst e1
                        unfold xmlnsN at e2
                        subst e2
                        go_wp2
                        go_ret
                        exact ⟨by rw [HR3.out]; rfl, HBW3.out⟩
                      · have hl9 : xs = [] → (xl == xmlnsN) = false := fun e => by
                          rw [Bool.eq_false_iff]
                          intro h
                          exact hbad (by rw [e, beq_iff_eq.1 h])
                        have hnot := decide_eq_false hbad
                        have HNOT := Lib.hid hnot
                        clear hbad hnot
                        unfold xmlnsN at hl9
                        have hxs : xs = [] ∨ ∃ a tl, xs = a :: tl := by cases xs <;> simp
                        have HXS := Lib.hid hxs
                        clear hxs
                        rcases HXS.out with e0 | ⟨a0, tl0, e0⟩
                        · have hl8 := hl9 e0
                          subst e0
                          clear hl9
                          go_wp2
                          clear y0 y1 z3
                          go_loopg [8] (t) (fun g i wr3 => ∃ j : Nat, i = .int .i64 (j : Int) ∧ j ≤ t ∧ Hid (g + j = t) ∧ Hid (hasNm (namesA (ats.take j)) (([] : List UInt8), xl) = false) ∧ Hid (Below wr.heap.size wr wr3))
                          case atStart => exact ⟨0, rfl, Nat.zero_le _, Lib.hid rfl, Lib.hid rfl, Lib.hid (Below.refl _ _)⟩
                          case round =>
                            obtain ⟨j, rfl, hj, hgj, HH, HB3⟩ := hrel
                            have hj0 : (0 : Int) ≤ (j : Int) := by omega
                            have hj9 : (j : Int) ≤ 5000 := by omega
                            have J4 := Lib.hid (J3.out.kept HB3.out)
                            have HBW4 := Lib.hid (HBW3.out.trans (HB3.out.mono HBW3.out.size))
                            have HB4 := Lib.hid (HB.out.trans (HB3.out.mono HB.out.size))
                            have z3 := cell_of 3 J4.out.2
                            by_cases hjt : j < t
                            · have hji : (j : Int) < (t : Int) := by omega
                              obtain ⟨b2, o2, y, hAe2, _, hy, hc2⟩ := (HP.out _ HBW4.out).cell (show j < n by omega)
                              obtain ⟨b3, o3, x3, hAe3, _, hx3, hc3⟩ := (HP.out _ HBW4.out).cell htn
                              cases hAe2
                              cases hAe3
                              rw [HX.out] at hx3
                              cases hx3
                              have HSJ := Lib.hid (namesA_snoc hy)
                              have HMJ := Lib.hid (fun e => hasNm_mid (x := (([] : List UInt8), xl)) hy hjt e)
                              obtain ⟨ys, yl, yv⟩ := y
                              have u0 : wr.cell? ⟨b1, o1 + j * 3, none⟩ = some (.string ⟨ys.toArray⟩) := by rw [show o1 + j * 3 = o1 + (j * 3 + 0) by omega]; exact hc2 0 _ rfl
                              have u1 : wr.cell? ⟨b1, o1 + j * 3 + 1, none⟩ = some (.string ⟨yl.toArray⟩) := by rw [show o1 + j * 3 + 1 = o1 + (j * 3 + 1) by omega]; exact hc2 1 _ rfl
                              have y0 : wr.cell? ⟨b1, o1 + t * 3, none⟩ = some (.string ⟨(([] : List UInt8) : List UInt8).toArray⟩) := by rw [show o1 + t * 3 = o1 + (t * 3 + 0) by omega]; exact hc3 0 _ rfl
                              have y1 : wr.cell? ⟨b1, o1 + t * 3 + 1, none⟩ = some (.string ⟨xl.toArray⟩) := by rw [show o1 + t * 3 + 1 = o1 + (t * 3 + 1) by omega]; exact hc3 1 _ rfl
                              clear hy hc2 hc3
                              simp only at HSJ HMJ
                              by_cases hc1 : ys = ([] : List UInt8)
                              · by_cases hc2 : yl = xl
                                · have e3 := onceB_app (namesA (ats.take t)) (([] : List UInt8), xl) (namesA (ats.drop (t + 1))) (by rw [HMJ.out (by rw [hc1, hc2]), Bool.or_true])
                                  have HR3 : Hid (R = 9) := Lib.hid (by rw [HA2.out, e3]; rfl)
                                  subst hc1 hc2
                                  clear e3 HMJ HSJ
                                  go_wp2_with fail
                                  go_quiet (fail)
                                  go_wp2
                                  go_ret
                                  exact ⟨by rw [HR3.out]; rfl, below_drewN' HBW4.out⟩
                                · have hcmp : (yl == xl) = false := by simpa using hc2
                                  have HN2 : Hid (hasNm (namesA (ats.take (j + 1))) (([] : List UInt8), xl) = false) := Lib.hid (by
                                    rw [HSJ.out]
                                    unfold hasNm
                                    rw [List.any_append]
                                    have := HH.out
                                    unfold hasNm at this
                                    rw [this]
                                    simp [hc2])
                                  subst hc1
                                  clear hc2 HMJ HSJ
                                  go_wp2_with fail
                                  go_quiet (fail)
                                  go_wp2
                                  go_roundg (t - (j + 1))
                                  case measure => have := hgj.out; omega
                                  case rel => exact ⟨j + 1, by go_num, by omega, Lib.hid (by have := hgj.out; omega), HN2, Lib.hid (below_drewN' HB3.out)⟩
                              · have hcmp : (ys == ([] : List UInt8)) = false := by simpa using hc1
                                have HN2 : Hid (hasNm (namesA (ats.take (j + 1))) (([] : List UInt8), xl) = false) := Lib.hid (by
                                  rw [HSJ.out]
                                  unfold hasNm
                                  rw [List.any_append]
                                  have := HH.out
                                  unfold hasNm at this
                                  rw [this]
                                  simp [hc1])
                                clear hc1 HMJ HSJ
                                go_wp2_with fail
                                go_quiet (fail)
                                go_wp2
                                go_roundg (t - (j + 1))
                                case measure => have := hgj.out; omega
                                case rel => exact ⟨j + 1, by go_num, by omega, Lib.hid (by have := hgj.out; omega), HN2, Lib.hid (below_drewN' HB3.out)⟩
                            · have hji : ¬ (j : Int) < (t : Int) := by omega
                              obtain rfl : j = t := by omega
                              have e3 := onceB_go (namesA (ats.take j)) (([] : List UInt8), xl) (namesA (ats.drop (j + 1))) (by rw [HNOT.out, HH.out]; rfl)
                              have HA3 : Hid (R = q3E true (onceB (namesA (ats.take (j + 1))) (namesA (ats.drop (j + 1))))) := Lib.hid (by rw [HA2.out, e3, HSN.out])
                              clear HA2 e3
                              go_wp2
                              go_roundg (n - (j + 1))
                              case measure => have := hg.out; omega
                              case rel => exact ⟨j + 1, by go_num, by omega, Lib.hid (by have := hg.out; omega), HA3, HB4⟩
                        · subst e0
                          clear hl9
                          go_wp2
                          clear y0 y1 z3
                          go_loopg [8] (t) (fun g i wr3 => ∃ j : Nat, i = .int .i64 (j : Int) ∧ j ≤ t ∧ Hid (g + j = t) ∧ Hid (hasNm (namesA (ats.take j)) ((a0 :: tl0), xl) = false) ∧ Hid (Below wr.heap.size wr wr3))
                          case atStart => exact ⟨0, rfl, Nat.zero_le _, Lib.hid rfl, Lib.hid rfl, Lib.hid (Below.refl _ _)⟩
                          case round =>
                            obtain ⟨j, rfl, hj, hgj, HH, HB3⟩ := hrel
                            have hj0 : (0 : Int) ≤ (j : Int) := by omega
                            have hj9 : (j : Int) ≤ 5000 := by omega
                            have J4 := Lib.hid (J3.out.kept HB3.out)
                            have HBW4 := Lib.hid (HBW3.out.trans (HB3.out.mono HBW3.out.size))
                            have HB4 := Lib.hid (HB.out.trans (HB3.out.mono HB.out.size))
                            have z3 := cell_of 3 J4.out.2
                            by_cases hjt : j < t
                            · have hji : (j : Int) < (t : Int) := by omega
                              obtain ⟨b2, o2, y, hAe2, _, hy, hc2⟩ := (HP.out _ HBW4.out).cell (show j < n by omega)
                              obtain ⟨b3, o3, x3, hAe3, _, hx3, hc3⟩ := (HP.out _ HBW4.out).cell htn
                              cases hAe2
                              cases hAe3
                              rw [HX.out] at hx3
                              cases hx3
                              have HSJ := Lib.hid (namesA_snoc hy)
                              have HMJ := Lib.hid (fun e => hasNm_mid (x := ((a0 :: tl0), xl)) hy hjt e)
                              obtain ⟨ys, yl, yv⟩ := y
                              have u0 : wr.cell? ⟨b1, o1 + j * 3, none⟩ = some (.string ⟨ys.toArray⟩) := by rw [show o1 + j * 3 = o1 + (j * 3 + 0) by omega]; exact hc2 0 _ rfl
                              have u1 : wr.cell? ⟨b1, o1 + j * 3 + 1, none⟩ = some (.string ⟨yl.toArray⟩) := by rw [show o1 + j * 3 + 1 = o1 + (j * 3 + 1) by omega]; exact hc2 1 _ rfl
                              have y0 : wr.cell? ⟨b1, o1 + t * 3, none⟩ = some (.string ⟨((a0 :: tl0) : List UInt8).toArray⟩) := by rw [show o1 + t * 3 = o1 + (t * 3 + 0) by omega]; exact hc3 0 _ rfl
                              have y1 : wr.cell? ⟨b1, o1 + t * 3 + 1, none⟩ = some (.string ⟨xl.toArray⟩) := by rw [show o1 + t * 3 + 1 = o1 + (t * 3 + 1) by omega]; exact hc3 1 _ rfl
                              clear hy hc2 hc3
                              simp only at HSJ HMJ
                              by_cases hc1 : ys = (a0 :: tl0)
                              · by_cases hc2 : yl = xl
                                · have e3 := onceB_app (namesA (ats.take t)) ((a0 :: tl0), xl) (namesA (ats.drop (t + 1))) (by rw [HMJ.out (by rw [hc1, hc2]), Bool.or_true])
                                  have HR3 : Hid (R = 9) := Lib.hid (by rw [HA2.out, e3]; rfl)
                                  subst hc1 hc2
                                  clear e3 HMJ HSJ
                                  go_wp2_with fail
                                  go_quiet (fail)
                                  go_wp2
                                  go_ret
                                  exact ⟨by rw [HR3.out]; rfl, below_drewN' HBW4.out⟩
                                · have hcmp : (yl == xl) = false := by simpa using hc2
                                  have HN2 : Hid (hasNm (namesA (ats.take (j + 1))) ((a0 :: tl0), xl) = false) := Lib.hid (by
                                    rw [HSJ.out]
                                    unfold hasNm
                                    rw [List.any_append]
                                    have := HH.out
                                    unfold hasNm at this
                                    rw [this]
                                    simp [hc2])
                                  subst hc1
                                  clear hc2 HMJ HSJ
                                  go_wp2_with fail
                                  go_quiet (fail)
                                  go_wp2
                                  go_roundg (t - (j + 1))
                                  case measure => have := hgj.out; omega
                                  case rel => exact ⟨j + 1, by go_num, by omega, Lib.hid (by have := hgj.out; omega), HN2, Lib.hid (below_drewN' HB3.out)⟩
                              · have hcmp : (ys == (a0 :: tl0)) = false := by simpa using hc1
                                have HN2 : Hid (hasNm (namesA (ats.take (j + 1))) ((a0 :: tl0), xl) = false) := Lib.hid (by
                                  rw [HSJ.out]
                                  unfold hasNm
                                  rw [List.any_append]
                                  have := HH.out
                                  unfold hasNm at this
                                  rw [this]
                                  simp [hc1])
                                clear hc1 HMJ HSJ
                                go_wp2_with fail
                                go_quiet (fail)
                                go_wp2
                                go_roundg (t - (j + 1))
                                case measure => have := hgj.out; omega
                                case rel => exact ⟨j + 1, by go_num, by omega, Lib.hid (by have := hgj.out; omega), HN2, Lib.hid (below_drewN' HB3.out)⟩
                            · have hji : ¬ (j : Int) < (t : Int) := by omega
                              obtain rfl : j = t := by omega
                              have e3 := onceB_go (namesA (ats.take j)) ((a0 :: tl0), xl) (namesA (ats.drop (j + 1))) (by rw [HNOT.out, HH.out]; rfl)
                              have HA3 : Hid (R = q3E true (onceB (namesA (ats.take (j + 1))) (namesA (ats.drop (j + 1))))) := Lib.hid (by rw [HA2.out, e3, HSN.out])
                              clear HA2 e3
                              go_wp2
                              go_roundg (n - (j + 1))
                              case measure => have := hg.out; omega
                              case rel => exact ⟨j + 1, by go_num, by omega, Lib.hid (by have := hg.out; omega), HA3, HB4⟩
                    · have hti : ¬ (t : Int) < (n : Int) := by omega
                      have HA3 : Hid (R = 0) := Lib.hid (by rw [HA.out, List.drop_of_length_le (by rw [HLN.out]; omega)]; rfl)
                      clear HA
                      go_wp2
                      go_ret
                      exact ⟨by rw [HA3.out]; rfl, HBW3.out⟩
  · have _t := True.intro
    clear _t
    go_enter Tryd.func14, Tryd.ntmps14
    go_wp2_with fail
    refine (CN.out _ J0.out.1).mono ?_
    rintro e w1 ⟨A2, c2, rfl, hr, hb⟩
    have HB1 := Lib.hid (J0.out.1.trans (hb.mono J0.out.1.size))
    have J1 := Lib.hid (J0.out.kept hb)
    have HQ : Hid (∀ W, Below w1.heap.size w1 W → RRd cN 2 W W.heap.size A2 m c2 l) := Lib.hid fun W hb => (hr.below hb).more hb.size
    clear hr hb CN z0 z1 z2 z3 z4
    go_wp2
    go_loopg [4] (m) (fun g i wr => ∃ t : Nat, i = .int .i64 (t : Int) ∧ t ≤ m ∧ Hid (g + t = m) ∧ Hid (R = q1E (namedB (l.drop t)) (q1E tb (q2E (shortB (l.drop 0)) (q3E (nowhereB (l.drop 0)) (onceB (namesA (ats.take 0)) (namesA (ats.drop 0))))))) ∧ Hid (Below w1.heap.size w1 wr))
    case atStart => exact ⟨0, rfl, Nat.zero_le _, Lib.hid rfl, HR0, Lib.hid (Below.refl _ _)⟩
    case round =>
      obtain ⟨t, rfl, ht, hg, HA, HB⟩ := hrel
      have ht0 : (0 : Int) ≤ (t : Int) := by omega
      have ht9 : (t : Int) ≤ 5001 := by omega
      have HBW := Lib.hid (HB1.out.trans (HB.out.mono HB1.out.size))
      by_cases htn : t < m
      · have hti : (t : Int) < (m : Int) := by omega
        obtain ⟨b1, o1, x, rfl, hb1, hx, hc1⟩ := (HQ.out _ HB.out).cell htn
        have hsx := HNB.out x (List.mem_of_getElem? hx)
        have hdr := dropN_cons hx
        have hA := HA.out
        rw [hdr, namedB, List.all_cons, ← namedB] at hA
        obtain ⟨xs, xl⟩ := x
        have y1 : wr.cell? ⟨b1, o1 + t * 2 + 1, none⟩ = some (.string ⟨xl.toArray⟩) := by rw [show o1 + t * 2 + 1 = o1 + (t * 2 + 1) by omega]; exact hc1 1 _ rfl
        have C3 := Lib.hid (CI.out xl wr hsx)
        clear hb1 hx hc1 hdr hsx HA
        simp only at hA
        generalize isPl xl = q at *
        have HA2 := Lib.hid hA
        clear hA
        go_wp2_with fail
        refine C3.out.mono ?_
        rintro e w2 ⟨rfl, hb2⟩
        have HB2 := Lib.hid (HB.out.trans (hb2.mono HB.out.size))
        have HBW2 := Lib.hid (HBW.out.trans (hb2.mono HBW.out.size))
        clear hb2 C3
        cases q with
        | false =>
          go_wp2
          go_ret
          exact ⟨by rw [HA2.out]; rfl, HBW2.out⟩
        | true =>
          go_wp2
          go_roundg (m - (t + 1))
          case measure => have := hg.out; omega
          case rel => exact ⟨t + 1, by go_num, by omega, Lib.hid (by have := hg.out; omega), Lib.hid (by rw [HA2.out, Bool.true_and]), HB2⟩
      · have hti : ¬ (t : Int) < (m : Int) := by omega
        have HA2 : Hid (R = q1E tb (q2E (shortB (l.drop 0)) (q3E (nowhereB (l.drop 0)) (onceB (namesA (ats.take 0)) (namesA (ats.drop 0)))))) := Lib.hid (by rw [HA.out, List.drop_of_length_le (by rw [HLL.out]; omega)]; rfl)
        have J2 := Lib.hid (J1.out.kept HB.out)
        have z0 := cell_of 0 J2.out.2
        have z1 := cell_of 1 J2.out.2
        have z2 := cell_of 2 J2.out.2
        have z3 := cell_of 3 J2.out.2
        have z4 := cell_of 4 J2.out.2
        have C3 := Lib.hid (CT.out wr HBW.out)
        clear HA CT CI HNB
        go_wp2_with fail
        refine C3.out.mono ?_
        rintro e w2 ⟨rfl, hb2⟩
        have HB2 := Lib.hid (HB.out.trans (hb2.mono HB.out.size))
        have HBW2 := Lib.hid (HBW.out.trans (hb2.mono HBW.out.size))
        clear hb2 C3 z0 z1 z2 z3 z4 hti ht0 ht9 HB HBW J2 htn hg ht
        cases tb with
        | false =>
          go_wp2
          go_ret
          exact ⟨by rw [HA2.out]; rfl, HBW2.out⟩
        | true =>
          have HA3 : Hid (R = q2E (shortB (l.drop 0)) (q3E (nowhereB (l.drop 0)) (onceB (namesA (ats.take 0)) (namesA (ats.drop 0))))) := Lib.hid HA2.out
          clear HA2
          go_wp2
          go_loopg [5] (m) (fun g i wr => ∃ t : Nat, i = .int .i64 (t : Int) ∧ t ≤ m ∧ Hid (g + t = m) ∧ Hid (R = q2E (shortB (l.drop t)) (q3E (nowhereB (l.drop 0)) (onceB (namesA (ats.take 0)) (namesA (ats.drop 0))))) ∧ w2 = wr)
          case atStart => exact ⟨0, rfl, Nat.zero_le _, Lib.hid rfl, HA3, rfl⟩
          case round =>
            clear HA3
            obtain ⟨t, rfl, ht, hg, HA, rfl⟩ := hrel
            have ht0 : (0 : Int) ≤ (t : Int) := by omega
            have ht9 : (t : Int) ≤ 5001 := by omega
            by_cases htn : t < m
            · have hti : (t : Int) < (m : Int) := by omega
              obtain ⟨b1, o1, x, rfl, hb1, hx, hc1⟩ := (HQ.out _ HB2.out).cell htn
              have hdr := dropN_cons hx
              have hA := HA.out
              rw [hdr, shortB, List.all_cons, ← shortB] at hA
              obtain ⟨xs, xl⟩ := x
              have y1 : w2.cell? ⟨b1, o1 + t * 2 + 1, none⟩ = some (.string ⟨xl.toArray⟩) := by rw [show o1 + t * 2 + 1 = o1 + (t * 2 + 1) by omega]; exact hc1 1 _ rfl
              clear hb1 hx hc1 hdr HA
              simp only at hA
              by_cases h9 : xl.length ≤ 1024
              · have h9i : ¬ (1024 : Int) < (xl.length : Int) := by omega
                have HA2 := Lib.hid hA
                clear hA
                go_wp2
                go_roundg (m - (t + 1))
                case measure => have := hg.out; omega
                case rel => exact ⟨t + 1, by go_num, by omega, Lib.hid (by have := hg.out; omega), Lib.hid (by rw [HA2.out, decide_eq_true h9, Bool.true_and]), rfl⟩
              · have h9i : (1024 : Int) < (xl.length : Int) := by omega
                rw [decide_eq_false h9] at hA
                have HA2 := Lib.hid hA
                clear hA h9
                go_wp2
                go_ret
                exact ⟨by rw [HA2.out]; rfl, HBW2.out⟩
            · have hti : ¬ (t : Int) < (m : Int) := by omega
              have HA2 : Hid (R = q3E (nowhereB (l.drop 0)) (onceB (namesA (ats.take 0)) (namesA (ats.drop 0)))) := Lib.hid (by rw [HA.out, List.drop_of_length_le (by rw [HLL.out]; omega)]; rfl)
              clear HA ht0 ht9 hg ht htn
              go_wp2
              clear hti
              go_loopg [6] (m) (fun g i wr => ∃ t : Nat, i = .int .i64 (t : Int) ∧ t ≤ m ∧ Hid (g + t = m) ∧ Hid (R = q3E (nowhereB (l.drop t)) (onceB (namesA (ats.take 0)) (namesA (ats.drop 0)))) ∧ w2 = wr)
              case atStart => exact ⟨0, rfl, Nat.zero_le _, Lib.hid rfl, HA2, rfl⟩
              case round =>
                clear HA2
                obtain ⟨t, rfl, ht, hg, HA, rfl⟩ := hrel
                have ht0 : (0 : Int) ≤ (t : Int) := by omega
                have ht9 : (t : Int) ≤ 5001 := by omega
                by_cases htn : t < m
                · have hti : (t : Int) < (m : Int) := by omega
                  obtain ⟨b1, o1, x, rfl, hb1, hx, hc1⟩ := (HQ.out _ HB2.out).cell htn
                  have hdr := dropN_cons hx
                  have hA := HA.out
                  rw [hdr, nowhereB, List.all_cons, ← nowhereB] at hA
                  obtain ⟨xs, xl⟩ := x
                  have y1 : w2.cell? ⟨b1, o1 + t * 2, none⟩ = some (.string ⟨xs.toArray⟩) := by rw [show o1 + t * 2 = o1 + (t * 2 + 0) by omega]; exact hc1 0 _ rfl
                  clear hb1 hx hc1 hdr HA
                  simp only at hA
                  have he := xmlns_eq xs
                  generalize decide (xs = xmlnsS) = q at *
                  have HA2 := Lib.hid hA
                  clear hA
                  unfold xmlnsS at he
                  cases q with
                  | true =>
                    go_wp2
                    go_ret
                    exact ⟨by rw [HA2.out]; rfl, HBW2.out⟩
                  | false =>
                    go_wp2
                    go_roundg (m - (t + 1))
                    case measure => have := hg.out; omega
                    case rel => exact ⟨t + 1, by go_num, by omega, Lib.hid (by have := hg.out; omega), Lib.hid (by rw [HA2.out]; rfl), rfl⟩
                · have hti : ¬ (t : Int) < (m : Int) := by omega
                  have HA2 : Hid (R = q3E true (onceB (namesA (ats.take 0)) (namesA (ats.drop 0)))) := Lib.hid (by rw [HA.out, List.drop_of_length_le (by rw [HLL.out]; omega)]; rfl)
                  have J2 := Lib.hid (J1.out.kept HB2.out)
                  clear HA ht0 ht9 hg ht htn HLL J1 HQ
                  go_wp2
                  clear hti
                  go_loopg [7] (0) (fun g i wr => i = .int .i64 0 ∧ w2 = wr)
                  case atStart => exact ⟨rfl, rfl⟩
                  case round =>
                    obtain ⟨rfl, rfl⟩ := hrel
                    have z3 := cell_of 3 J2.out.2
                    have HA3 : Hid (R = 0) := Lib.hid (by rw [HA2.out, List.length_eq_zero_iff.1 HLN.out]; rfl)
                    go_wp2
                    go_ret
                    exact ⟨by rw [HA3.out]; rfl, HBW2.out⟩
  · have _t := True.intro
    clear _t
    go_enter Tryd.func14, Tryd.ntmps14
    go_wp2_with fail
    refine (CN.out _ J0.out.1).mono ?_
    rintro e w1 ⟨A2, c2, rfl, hr, hb⟩
    have HB1 := Lib.hid (J0.out.1.trans (hb.mono J0.out.1.size))
    have J1 := Lib.hid (J0.out.kept hb)
    have HQ : Hid (∀ W, Below w1.heap.size w1 W → RRd cN 2 W W.heap.size A2 m c2 l) := Lib.hid fun W hb => (hr.below hb).more hb.size
    clear hr hb CN z0 z1 z2 z3 z4
    go_wp2
    go_loopg [4] (m) (fun g i wr => ∃ t : Nat, i = .int .i64 (t : Int) ∧ t ≤ m ∧ Hid (g + t = m) ∧ Hid (R = q1E (namedB (l.drop t)) (q1E tb (q2E (shortB (l.drop 0)) (q3E (nowhereB (l.drop 0)) (onceB (namesA (ats.take 0)) (namesA (ats.drop 0))))))) ∧ Hid (Below w1.heap.size w1 wr))
    case atStart => exact ⟨0, rfl, Nat.zero_le _, Lib.hid rfl, HR0, Lib.hid (Below.refl _ _)⟩
    case round =>
      obtain ⟨t, rfl, ht, hg, HA, HB⟩ := hrel
      have ht0 : (0 : Int) ≤ (t : Int) := by omega
      have ht9 : (t : Int) ≤ 5001 := by omega
      have HBW := Lib.hid (HB1.out.trans (HB.out.mono HB1.out.size))
      by_cases htn : t < m
      · have hti : (t : Int) < (m : Int) := by omega
        obtain ⟨b1, o1, x, rfl, hb1, hx, hc1⟩ := (HQ.out _ HB.out).cell htn
        have hsx := HNB.out x (List.mem_of_getElem? hx)
        have hdr := dropN_cons hx
        have hA := HA.out
        rw [hdr, namedB, List.all_cons, ← namedB] at hA
        obtain ⟨xs, xl⟩ := x
        have y1 : wr.cell? ⟨b1, o1 + t * 2 + 1, none⟩ = some (.string ⟨xl.toArray⟩) := by rw [show o1 + t * 2 + 1 = o1 + (t * 2 + 1) by omega]; exact hc1 1 _ rfl
        have C3 := Lib.hid (CI.out xl wr hsx)
        clear hb1 hx hc1 hdr hsx HA
        simp only at hA
        generalize isPl xl = q at *
        have HA2 := Lib.hid hA
        clear hA
        go_wp2_with fail
        refine C3.out.mono ?_
        rintro e w2 ⟨rfl, hb2⟩
        have HB2 := Lib.hid (HB.out.trans (hb2.mono HB.out.size))
        have HBW2 := Lib.hid (HBW.out.trans (hb2.mono HBW.out.size))
        clear hb2 C3
        cases q with
        | false =>
          go_wp2
          go_ret
          exact ⟨by rw [HA2.out]; rfl, HBW2.out⟩
        | true =>
          go_wp2
          go_roundg (m - (t + 1))
          case measure => have := hg.out; omega
          case rel => exact ⟨t + 1, by go_num, by omega, Lib.hid (by have := hg.out; omega), Lib.hid (by rw [HA2.out, Bool.true_and]), HB2⟩
      · have hti : ¬ (t : Int) < (m : Int) := by omega
        have HA2 : Hid (R = q1E tb (q2E (shortB (l.drop 0)) (q3E (nowhereB (l.drop 0)) (onceB (namesA (ats.take 0)) (namesA (ats.drop 0)))))) := Lib.hid (by rw [HA.out, List.drop_of_length_le (by rw [HLL.out]; omega)]; rfl)
        have J2 := Lib.hid (J1.out.kept HB.out)
        have z0 := cell_of 0 J2.out.2
        have z1 := cell_of 1 J2.out.2
        have z2 := cell_of 2 J2.out.2
        have z3 := cell_of 3 J2.out.2
        have z4 := cell_of 4 J2.out.2
        have C3 := Lib.hid (CT.out wr HBW.out)
        clear HA CT CI HNB
        go_wp2_with fail
        refine C3.out.mono ?_
        rintro e w2 ⟨rfl, hb2⟩
        have HB2 := Lib.hid (HB.out.trans (hb2.mono HB.out.size))
        have HBW2 := Lib.hid (HBW.out.trans (hb2.mono HBW.out.size))
        clear hb2 C3 z0 z1 z2 z3 z4 hti ht0 ht9 HB HBW J2 htn hg ht
        cases tb with
        | false =>
          go_wp2
          go_ret
          exact ⟨by rw [HA2.out]; rfl, HBW2.out⟩
        | true =>
          have HA3 : Hid (R = q2E (shortB (l.drop 0)) (q3E (nowhereB (l.drop 0)) (onceB (namesA (ats.take 0)) (namesA (ats.drop 0))))) := Lib.hid HA2.out
          clear HA2
          go_wp2
          go_loopg [5] (m) (fun g i wr => ∃ t : Nat, i = .int .i64 (t : Int) ∧ t ≤ m ∧ Hid (g + t = m) ∧ Hid (R = q2E (shortB (l.drop t)) (q3E (nowhereB (l.drop 0)) (onceB (namesA (ats.take 0)) (namesA (ats.drop 0))))) ∧ w2 = wr)
          case atStart => exact ⟨0, rfl, Nat.zero_le _, Lib.hid rfl, HA3, rfl⟩
          case round =>
            clear HA3
            obtain ⟨t, rfl, ht, hg, HA, rfl⟩ := hrel
            have ht0 : (0 : Int) ≤ (t : Int) := by omega
            have ht9 : (t : Int) ≤ 5001 := by omega
            by_cases htn : t < m
            · have hti : (t : Int) < (m : Int) := by omega
              obtain ⟨b1, o1, x, rfl, hb1, hx, hc1⟩ := (HQ.out _ HB2.out).cell htn
              have hdr := dropN_cons hx
              have hA := HA.out
              rw [hdr, shortB, List.all_cons, ← shortB] at hA
              obtain ⟨xs, xl⟩ := x
              have y1 : w2.cell? ⟨b1, o1 + t * 2 + 1, none⟩ = some (.string ⟨xl.toArray⟩) := by rw [show o1 + t * 2 + 1 = o1 + (t * 2 + 1) by omega]; exact hc1 1 _ rfl
              clear hb1 hx hc1 hdr HA
              simp only at hA
              by_cases h9 : xl.length ≤ 1024
              · have h9i : ¬ (1024 : Int) < (xl.length : Int) := by omega
                have HA2 := Lib.hid hA
                clear hA
                go_wp2
                go_roundg (m - (t + 1))
                case measure => have := hg.out; omega
                case rel => exact ⟨t + 1, by go_num, by omega, Lib.hid (by have := hg.out; omega), Lib.hid (by rw [HA2.out, decide_eq_true h9, Bool.true_and]), rfl⟩
              · have h9i : (1024 : Int) < (xl.length : Int) := by omega
                rw [decide_eq_false h9] at hA
                have HA2 := Lib.hid hA
                clear hA h9
                go_wp2
                go_ret
                exact ⟨by rw [HA2.out]; rfl, HBW2.out⟩
            · have hti : ¬ (t : Int) < (m : Int) := by omega
              have HA2 : Hid (R = q3E (nowhereB (l.drop 0)) (onceB (namesA (ats.take 0)) (namesA (ats.drop 0)))) := Lib.hid (by rw [HA.out, List.drop_of_length_le (by rw [HLL.out]; omega)]; rfl)
              clear HA ht0 ht9 hg ht htn
              go_wp2
              clear hti
              go_loopg [6] (m) (fun g i wr => ∃ t : Nat, i = .int .i64 (t : Int) ∧ t ≤ m ∧ Hid (g + t = m) ∧ Hid (R = q3E (nowhereB (l.drop t)) (onceB (namesA (ats.take 0)) (namesA (ats.drop 0)))) ∧ w2 = wr)
              case atStart => exact ⟨0, rfl, Nat.zero_le _, Lib.hid rfl, HA2, rfl⟩
              case round =>
                clear HA2
                obtain ⟨t, rfl, ht, hg, HA, rfl⟩ := hrel
                have ht0 : (0 : Int) ≤ (t : Int) := by omega
                have ht9 : (t : Int) ≤ 5001 := by omega
                by_cases htn : t < m
                · have hti : (t : Int) < (m : Int) := by omega
                  obtain ⟨b1, o1, x, rfl, hb1, hx, hc1⟩ := (HQ.out _ HB2.out).cell htn
                  have hdr := dropN_cons hx
                  have hA := HA.out
                  rw [hdr, nowhereB, List.all_cons, ← nowhereB] at hA
                  obtain ⟨xs, xl⟩ := x
                  have y1 : w2.cell? ⟨b1, o1 + t * 2, none⟩ = some (.string ⟨xs.toArray⟩) := by rw [show o1 + t * 2 = o1 + (t * 2 + 0) by omega]; exact hc1 0 _ rfl
                  clear hb1 hx hc1 hdr HA
                  simp only at hA
                  have he := xmlns_eq xs
                  generalize decide (xs = xmlnsS) = q at *
                  have HA2 := Lib.hid hA
                  clear hA
                  unfold xmlnsS at he
                  cases q with
                  | true =>
                    go_wp2
                    go_ret
                    exact ⟨by rw [HA2.out]; rfl, HBW2.out⟩
                  | false =>
                    go_wp2
                    go_roundg (m - (t + 1))
                    case measure => have := hg.out; omega
                    case rel => exact ⟨t + 1, by go_num, by omega, Lib.hid (by have := hg.out; omega), Lib.hid (by rw [HA2.out]; rfl), rfl⟩
                · have hti : ¬ (t : Int) < (m : Int) := by omega
                  have HA2 : Hid (R = q3E true (onceB (namesA (ats.take 0)) (namesA (ats.drop 0)))) := Lib.hid (by rw [HA.out, List.drop_of_length_le (by rw [HLL.out]; omega)]; rfl)
                  have J2 := Lib.hid (J1.out.kept HB2.out)
                  clear HA ht0 ht9 hg ht htn HLL J1 HQ
                  go_wp2
                  clear hti
                  go_loopg [7] (0) (fun g i wr => i = .int .i64 0 ∧ w2 = wr)
                  case atStart => exact ⟨rfl, rfl⟩
                  case round =>
                    obtain ⟨rfl, rfl⟩ := hrel
                    have z3 := cell_of 3 J2.out.2
                    have HA3 : Hid (R = 0) := Lib.hid (by rw [HA2.out, List.length_eq_zero_iff.1 HLN.out]; rfl)
                    go_wp2
                    go_ret
                    exact ⟨by rw [HA3.out]; rfl, HBW2.out⟩
  · have _t := True.intro
    clear _t
    go_enter Tryd.func14, Tryd.ntmps14
    go_wp2_with fail
    refine (CN.out _ J0.out.1).mono ?_
    rintro e w1 ⟨A2, c2, rfl, hr, hb⟩
    have HB1 := Lib.hid (J0.out.1.trans (hb.mono J0.out.1.size))
    have J1 := Lib.hid (J0.out.kept hb)
    have HQ : Hid (∀ W, Below w1.heap.size w1 W → RRd cN 2 W W.heap.size A2 m c2 l) := Lib.hid fun W hb => (hr.below hb).more hb.size
    clear hr hb CN z0 z1 z2 z3 z4
    go_wp2
    go_loopg [4] (m) (fun g i wr => ∃ t : Nat, i = .int .i64 (t : Int) ∧ t ≤ m ∧ Hid (g + t = m) ∧ Hid (R = q1E (namedB (l.drop t)) (q1E tb (q2E (shortB (l.drop 0)) (q3E (nowhereB (l.drop 0)) (onceB (namesA (ats.take 0)) (namesA (ats.drop 0))))))) ∧ Hid (Below w1.heap.size w1 wr))
    case atStart => exact ⟨0, rfl, Nat.zero_le _, Lib.hid rfl, HR0, Lib.hid (Below.refl _ _)⟩
    case round =>
      obtain ⟨t, rfl, ht, hg, HA, HB⟩ := hrel
      have ht0 : (0 : Int) ≤ (t : Int) := by omega
      have ht9 : (t : Int) ≤ 5001 := by omega
      have HBW := Lib.hid (HB1.out.trans (HB.out.mono HB1.out.size))
      by_cases htn : t < m
      · have hti : (t : Int) < (m : Int) := by omega
        obtain ⟨b1, o1, x, rfl, hb1, hx, hc1⟩ := (HQ.out _ HB.out).cell htn
        have hsx := HNB.out x (List.mem_of_getElem? hx)
        have hdr := dropN_cons hx
        have hA := HA.out
        rw [hdr, namedB, List.all_cons, ← namedB] at hA
        obtain ⟨xs, xl⟩ := x
        have y1 : wr.cell? ⟨b1, o1 + t * 2 + 1, none⟩ = some (.string ⟨xl.toArray⟩) := by rw [show o1 + t * 2 + 1 = o1 + (t * 2 + 1) by omega]; exact hc1 1 _ rfl
        have C3 := Lib.hid (CI.out xl wr hsx)
        clear hb1 hx hc1 hdr hsx HA
        simp only at hA
        generalize isPl xl = q at *
        have HA2 := Lib.hid hA
        clear hA
        go_wp2_with fail
        refine C3.out.mono ?_
        rintro e w2 ⟨rfl, hb2⟩
        have HB2 := Lib.hid (HB.out.trans (hb2.mono HB.out.size))
        have HBW2 := Lib.hid (HBW.out.trans (hb2.mono HBW.out.size))
        clear hb2 C3
        cases q with
        | false =>
          go_wp2
          go_ret
          exact ⟨by rw [HA2.out]; rfl, HBW2.out⟩
        | true =>
          go_wp2
          go_roundg (m - (t + 1))
          case measure => have := hg.out; omega
          case rel => exact ⟨t + 1, by go_num, by omega, Lib.hid (by have := hg.out; omega), Lib.hid (by rw [HA2.out, Bool.true_and]), HB2⟩
      · have hti : ¬ (t : Int) < (m : Int) := by omega
        have HA2 : Hid (R = q1E tb (q2E (shortB (l.drop 0)) (q3E (nowhereB (l.drop 0)) (onceB (namesA (ats.take 0)) (namesA (ats.drop 0)))))) := Lib.hid (by rw [HA.out, List.drop_of_length_le (by rw [HLL.out]; omega)]; rfl)
        have J2 := Lib.hid (J1.out.kept HB.out)
        have z0 := cell_of 0 J2.out.2
        have z1 := cell_of 1 J2.out.2
        have z2 := cell_of 2 J2.out.2
        have z3 := cell_of 3 J2.out.2
        have z4 := cell_of 4 J2.out.2
        have C3 := Lib.hid (CT.out wr HBW.out)
        clear HA CT CI HNB
        go_wp2_with fail
        refine C3.out.mono ?_
        rintro e w2 ⟨rfl, hb2⟩
        have HB2 := Lib.hid (HB.out.trans (hb2.mono HB.out.size))
        have HBW2 := Lib.hid (HBW.out.trans (hb2.mono HBW.out.size))
        clear hb2 C3 z0 z1 z2 z3 z4 hti ht0 ht9 HB HBW J2 htn hg ht
        cases tb with
        | false =>
          go_wp2
          go_ret
          exact ⟨by rw [HA2.out]; rfl, HBW2.out⟩
        | true =>
          have HA3 : Hid (R = q2E (shortB (l.drop 0)) (q3E (nowhereB (l.drop 0)) (onceB (namesA (ats.take 0)) (namesA (ats.drop 0))))) := Lib.hid HA2.out
          clear HA2
          go_wp2
          go_loopg [5] (m) (fun g i wr => ∃ t : Nat, i = .int .i64 (t : Int) ∧ t ≤ m ∧ Hid (g + t = m) ∧ Hid (R = q2E (shortB (l.drop t)) (q3E (nowhereB (l.drop 0)) (onceB (namesA (ats.take 0)) (namesA (ats.drop 0))))) ∧ w2 = wr)
          case atStart => exact ⟨0, rfl, Nat.zero_le _, Lib.hid rfl, HA3, rfl⟩
          case round =>
            clear HA3
            obtain ⟨t, rfl, ht, hg, HA, rfl⟩ := hrel
            have ht0 : (0 : Int) ≤ (t : Int) := by omega
            have ht9 : (t : Int) ≤ 5001 := by omega
            by_cases htn : t < m
            · have hti : (t : Int) < (m : Int) := by omega
              obtain ⟨b1, o1, x, rfl, hb1, hx, hc1⟩ := (HQ.out _ HB2.out).cell htn
              have hdr := dropN_cons hx
              have hA := HA.out
              rw [hdr, shortB, List.all_cons, ← shortB] at hA
              obtain ⟨xs, xl⟩ := x
              have y1 : w2.cell? ⟨b1, o1 + t * 2 + 1, none⟩ = some (.string ⟨xl.toArray⟩) := by rw [show o1 + t * 2 + 1 = o1 + (t * 2 + 1) by omega]; exact hc1 1 _ rfl
              clear hb1 hx hc1 hdr HA
              simp only at hA
              by_cases h9 : xl.length ≤ 1024
              · have h9i : ¬ (1024 : Int) < (xl.length : Int) := by omega
                have HA2 := Lib.hid hA
                clear hA
                go_wp2
                go_roundg (m - (t + 1))
                case measure => have := hg.out; omega
                case rel => exact ⟨t + 1, by go_num, by omega, Lib.hid (by have := hg.out; omega), Lib.hid (by rw [HA2.out, decide_eq_true h9, Bool.true_and]), rfl⟩
              · have h9i : (1024 : Int) < (xl.length : Int) := by omega
                rw [decide_eq_false h9] at hA
                have HA2 := Lib.hid hA
                clear hA h9
                go_wp2
                go_ret
                exact ⟨by rw [HA2.out]; rfl, HBW2.out⟩
            · have hti : ¬ (t : Int) < (m : Int) := by omega
              have HA2 : Hid (R = q3E (nowhereB (l.drop 0)) (onceB (namesA (ats.take 0)) (namesA (ats.drop 0)))) := Lib.hid (by rw [HA.out, List.drop_of_length_le (by rw [HLL.out]; omega)]; rfl)
              clear HA ht0 ht9 hg ht htn
              go_wp2
              clear hti
              go_loopg [6] (m) (fun g i wr => ∃ t : Nat, i = .int .i64 (t : Int) ∧ t ≤ m ∧ Hid (g + t = m) ∧ Hid (R = q3E (nowhereB (l.drop t)) (onceB (namesA (ats.take 0)) (namesA (ats.drop 0)))) ∧ w2 = wr)
              case atStart => exact ⟨0, rfl, Nat.zero_le _, Lib.hid rfl, HA2, rfl⟩
              case round =>
                clear HA2
                obtain ⟨t, rfl, ht, hg, HA, rfl⟩ := hrel
                have ht0 : (0 : Int) ≤ (t : Int) := by omega
                have ht9 : (t : Int) ≤ 5001 := by omega
                by_cases htn : t < m
                · have hti : (t : Int) < (m : Int) := by omega
                  obtain ⟨b1, o1, x, rfl, hb1, hx, hc1⟩ := (HQ.out _ HB2.out).cell htn
                  have hdr := dropN_cons hx
                  have hA := HA.out
                  rw [hdr, nowhereB, List.all_cons, ← nowhereB] at hA
                  obtain ⟨xs, xl⟩ := x
                  have y1 : w2.cell? ⟨b1, o1 + t * 2, none⟩ = some (.string ⟨xs.toArray⟩) := by rw [show o1 + t * 2 = o1 + (t * 2 + 0) by omega]; exact hc1 0 _ rfl
                  clear hb1 hx hc1 hdr HA
                  simp only at hA
                  have he := xmlns_eq xs
                  generalize decide (xs = xmlnsS) = q at *
                  have HA2 := Lib.hid hA
                  clear hA
                  unfold xmlnsS at he
                  cases q with
                  | true =>
                    go_wp2
                    go_ret
                    exact ⟨by rw [HA2.out]; rfl, HBW2.out⟩
                  | false =>
                    go_wp2
                    go_roundg (m - (t + 1))
                    case measure => have := hg.out; omega
                    case rel => exact ⟨t + 1, by go_num, by omega, Lib.hid (by have := hg.out; omega), Lib.hid (by rw [HA2.out]; rfl), rfl⟩
                · have hti : ¬ (t : Int) < (m : Int) := by omega
                  have HA2 : Hid (R = q3E true (onceB (namesA (ats.take 0)) (namesA (ats.drop 0)))) := Lib.hid (by rw [HA.out, List.drop_of_length_le (by rw [HLL.out]; omega)]; rfl)
                  have J2 := Lib.hid (J1.out.kept HB2.out)
                  clear HA ht0 ht9 hg ht htn HLL J1 HQ
                  go_wp2
                  clear hti
                  go_loopg [7] (0) (fun g i wr => i = .int .i64 0 ∧ w2 = wr)
                  case atStart => exact ⟨rfl, rfl⟩
                  case round =>
                    obtain ⟨rfl, rfl⟩ := hrel
                    have z3 := cell_of 3 J2.out.2
                    have HA3 : Hid (R = 0) := Lib.hid (by rw [HA2.out, List.length_eq_zero_iff.1 HLN.out]; rfl)
                    go_wp2
                    go_ret
                    exact ⟨by rw [HA3.out]; rfl, HBW2.out⟩
  · have _t := True.intro
    clear _t
    go_enter Tryd.func14, Tryd.ntmps14
    go_wp2_with fail
    refine (CN.out _ J0.out.1).mono ?_
    rintro e w1 ⟨A2, c2, rfl, hr, hb⟩
    have HB1 := Lib.hid (J0.out.1.trans (hb.mono J0.out.1.size))
    have J1 := Lib.hid (J0.out.kept hb)
    have HQ : Hid (∀ W, Below w1.heap.size w1 W → RRd cN 2 W W.heap.size A2 m c2 l) := Lib.hid fun W hb => (hr.below hb).more hb.size
    clear hr hb CN z0 z1 z2 z3 z4
    go_wp2
    go_loopg [4] (m) (fun g i wr => ∃ t : Nat, i = .int .i64 (t : Int) ∧ t ≤ m ∧ Hid (g + t = m) ∧ Hid (R = q1E (namedB (l.drop t)) (q1E tb (q2E (shortB (l.drop 0)) (q3E (nowhereB (l.drop 0)) (onceB (namesA (ats.take 0)) (namesA (ats.drop 0))))))) ∧ Hid (Below w1.heap.size w1 wr))
    case atStart => exact ⟨0, rfl, Nat.zero_le _, Lib.hid rfl, HR0, Lib.hid (Below.refl _ _)⟩
    case round =>
      obtain ⟨t, rfl, ht, hg, HA, HB⟩ := hrel
      have ht0 : (0 : Int) ≤ (t : Int) := by omega
      have ht9 : (t : Int) ≤ 5001 := by omega
      have HBW := Lib.hid (HB1.out.trans (HB.out.mono HB1.out.size))
      by_cases htn : t < m
      · have hti : (t : Int) < (m : Int) := by omega
        obtain ⟨b1, o1, x, rfl, hb1, hx, hc1⟩ := (HQ.out _ HB.out).cell htn
        have hsx := HNB.out x (List.mem_of_getElem? hx)
        have hdr := dropN_cons hx
        have hA := HA.out
        rw [hdr, namedB, List.all_cons, ← namedB] at hA
        obtain ⟨xs, xl⟩ := x
        have y1 : wr.cell? ⟨b1, o1 + t * 2 + 1, none⟩ = some (.string ⟨xl.toArray⟩) := by rw [show o1 + t * 2 + 1 = o1 + (t * 2 + 1) by omega]; exact hc1 1 _ rfl
        have C3 := Lib.hid (CI.out xl wr hsx)
        clear hb1 hx hc1 hdr hsx HA
        simp only at hA
        generalize isPl xl = q at *
        have HA2 := Lib.hid hA
        clear hA
        go_wp2_with fail
        refine C3.out.mono ?_
        rintro e w2 ⟨rfl, hb2⟩
        have HB2 := Lib.hid (HB.out.trans (hb2.mono HB.out.size))
        have HBW2 := Lib.hid (HBW.out.trans (hb2.mono HBW.out.size))
        clear hb2 C3
        cases q with
        | false =>
          go_wp2
          go_ret
          exact ⟨by rw [HA2.out]; rfl, HBW2.out⟩
        | true =>
          go_wp2
          go_roundg (m - (t + 1))
          case measure => have := hg.out; omega
          case rel => exact ⟨t + 1, by go_num, by omega, Lib.hid (by have := hg.out; omega), Lib.hid (by rw [HA2.out, Bool.true_and]), HB2⟩
      · have hti : ¬ (t : Int) < (m : Int) := by omega
        have HA2 : Hid (R = q1E tb (q2E (shortB (l.drop 0)) (q3E (nowhereB (l.drop 0)) (onceB (namesA (ats.take 0)) (namesA (ats.drop 0)))))) := Lib.hid (by rw [HA.out, List.drop_of_length_le (by rw [HLL.out]; omega)]; rfl)
        have J2 := Lib.hid (J1.out.kept HB.out)
        have z0 := cell_of 0 J2.out.2
        have z1 := cell_of 1 J2.out.2
        have z2 := cell_of 2 J2.out.2
        have z3 := cell_of 3 J2.out.2
        have z4 := cell_of 4 J2.out.2
        have C3 := Lib.hid (CT.out wr HBW.out)
        clear HA CT CI HNB
        go_wp2_with fail
        refine C3.out.mono ?_
        rintro e w2 ⟨rfl, hb2⟩
        have HB2 := Lib.hid (HB.out.trans (hb2.mono HB.out.size))
        have HBW2 := Lib.hid (HBW.out.trans (hb2.mono HBW.out.size))
        clear hb2 C3 z0 z1 z2 z3 z4 hti ht0 ht9 HB HBW J2 htn hg ht
        cases tb with
        | false =>
          go_wp2
          go_ret
          exact ⟨by rw [HA2.out]; rfl, HBW2.out⟩
        | true =>
          have HA3 : Hid (R = q2E (shortB (l.drop 0)) (q3E (nowhereB (l.drop 0)) (onceB (namesA (ats.take 0)) (namesA (ats.drop 0))))) := Lib.hid HA2.out
          clear HA2
          go_wp2
          go_loopg [5] (m) (fun g i wr => ∃ t : Nat, i = .int .i64 (t : Int) ∧ t ≤ m ∧ Hid (g + t = m) ∧ Hid (R = q2E (shortB (l.drop t)) (q3E (nowhereB (l.drop 0)) (onceB (namesA (ats.take 0)) (namesA (ats.drop 0))))) ∧ w2 = wr)
          case atStart => exact ⟨0, rfl, Nat.zero_le _, Lib.hid rfl, HA3, rfl⟩
          case round =>
            clear HA3
            obtain ⟨t, rfl, ht, hg, HA, rfl⟩ := hrel
            have ht0 : (0 : Int) ≤ (t : Int) := by omega
            have ht9 : (t : Int) ≤ 5001 := by omega
            by_cases htn : t < m
            · have hti : (t : Int) < (m : Int) := by omega
              obtain ⟨b1, o1, x, rfl, hb1, hx, hc1⟩ := (HQ.out _ HB2.out).cell htn
              have hdr := dropN_cons hx
              have hA := HA.out
              rw [hdr, shortB, List.all_cons, ← shortB] at hA
              obtain ⟨xs, xl⟩ := x
              have y1 : w2.cell? ⟨b1, o1 + t * 2 + 1, none⟩ = some (.string ⟨xl.toArray⟩) := by rw [show o1 + t * 2 + 1 = o1 + (t * 2 + 1) by omega]; exact hc1 1 _ rfl
              clear hb1 hx hc1 hdr HA
              simp only at hA
              by_cases h9 : xl.length ≤ 1024
              · have h9i : ¬ (1024 : Int) < (xl.length : Int) := by omega
                have HA2 := Lib.hid hA
                clear hA
                go_wp2
                go_roundg (m - (t + 1))
                case measure => have := hg.out; omega
                case rel => exact ⟨t + 1, by go_num, by omega, Lib.hid (by have := hg.out; omega), Lib.hid (by rw [HA2.out, decide_eq_true h9, Bool.true_and]), rfl⟩
              · have h9i : (1024 : Int) < (xl.length : Int) := by omega
                rw [decide_eq_false h9] at hA
                have HA2 := Lib.hid hA
                clear hA h9
                go_wp2
                go_ret
                exact ⟨by rw [HA2.out]; rfl, HBW2.out⟩
            · have hti : ¬ (t : Int) < (m : Int) := by omega
              have HA2 : Hid (R = q3E (nowhereB (l.drop 0)) (onceB (namesA (ats.take 0)) (namesA (ats.drop 0)))) := Lib.hid (by rw [HA.out, List.drop_of_length_le (by rw [HLL.out]; omega)]; rfl)
              clear HA ht0 ht9 hg ht htn
              go_wp2
              clear hti
              go_loopg [6] (m) (fun g i wr => ∃ t : Nat, i = .int .i64 (t : Int) ∧ t ≤ m ∧ Hid (g + t = m) ∧ Hid (R = q3E (nowhereB (l.drop t)) (onceB (namesA (ats.take 0)) (namesA (ats.drop 0)))) ∧ w2 = wr)
              case atStart => exact ⟨0, rfl, Nat.zero_le _, Lib.hid rfl, HA2, rfl⟩
              case round =>
                clear HA2
                obtain ⟨t, rfl, ht, hg, HA, rfl⟩ := hrel
                have ht0 : (0 : Int) ≤ (t : Int) := by omega
                have ht9 : (t : Int) ≤ 5001 := by omega
                by_cases htn : t < m
                · have hti : (t : Int) < (m : Int) := by omega
                  obtain ⟨b1, o1, x, rfl, hb1, hx, hc1⟩ := (HQ.out _ HB2.out).cell htn
                  have hdr := dropN_cons hx
                  have hA := HA.out
                  rw [hdr, nowhereB, List.all_cons, ← nowhereB] at hA
                  obtain ⟨xs, xl⟩ := x
                  have y1 : w2.cell? ⟨b1, o1 + t * 2, none⟩ = some (.string ⟨xs.toArray⟩) := by rw [show o1 + t * 2 = o1 + (t * 2 + 0) by omega]; exact hc1 0 _ rfl
                  clear hb1 hx hc1 hdr HA
                  simp only at hA
                  have he := xmlns_eq xs
                  generalize decide (xs = xmlnsS) = q at *
                  have HA2 := Lib.hid hA
                  clear hA
                  unfold xmlnsS at he
                  cases q with
                  | true =>
                    go_wp2
                    go_ret
                    exact ⟨by rw [HA2.out]; rfl, HBW2.out⟩
                  | false =>
                    go_wp2
                    go_roundg (m - (t + 1))
                    case measure => have := hg.out; omega
                    case rel => exact ⟨t + 1, by go_num, by omega, Lib.hid (by have := hg.out; omega), Lib.hid (by rw [HA2.out]; rfl), rfl⟩
                · have hti : ¬ (t : Int) < (m : Int) := by omega
                  have HA2 : Hid (R = q3E true (onceB (namesA (ats.take 0)) (namesA (ats.drop 0)))) := Lib.hid (by rw [HA.out, List.drop_of_length_le (by rw [HLL.out]; omega)]; rfl)
                  have J2 := Lib.hid (J1.out.kept HB2.out)
                  clear HA ht0 ht9 hg ht htn HLL J1 HQ
                  go_wp2
                  clear hti
                  go_loopg [7] (0) (fun g i wr => i = .int .i64 0 ∧ w2 = wr)
                  case atStart => exact ⟨rfl, rfl⟩
                  case round =>
                    obtain ⟨rfl, rfl⟩ := hrel
                    have z3 := cell_of 3 J2.out.2
                    have HA3 : Hid (R = 0) := Lib.hid (by rw [HA2.out, List.length_eq_zero_iff.1 HLN.out]; rfl)
                    go_wp2
                    go_ret
                    exact ⟨by rw [HA3.out]; rfl, HBW2.out⟩
end Go.Proofs.YtocbofeanfdggaaDoor
