/- Texts of ours, joined: IxB4. -/
import Derived.Test.YtmclngahdklfkaaGreatDoorRows
import Derived.WalkKit
import Derived.ProofKit
import Derived.OpenShut
import Derived.ShutString
import Derived.ChangeOld
import Derived.Below
import Derived.BigQuiet
import Derived.Deep.QuietTactic
import Derived.Lib.Hide
import Derived.Deep.RegionHeld3
import Derived.Lib.SlBytesConst
import Derived.Laws.CopyOwn
import Derived.Laws.CopyRow
import Derived.Lib.Bytes
import Derived.Deep.LoopGhost
import Derived.Deep.DeepFit
import Derived.Deep.DeepMust
import Derived.WalkSpells
import Derived.WalkLawsBesides
import Derived.Lib.AsciiSet
import Derived.Deep.WholeRow
import Derived.Laws.ResultCell
import Derived.Laws.RangeString
import Derived.Laws.Runes
import Derived.Laws.RangeAny
import Derived.Laws.Rows
import Derived.LoopN
import Derived.Lib.IndexAny
import Derived.Lib.IndexBytes
import Derived.Lib.Bytealg
import Derived.Lib.IndexEntry
import Derived.Laws.Externs
import Derived.Test.YtmclngahdklfkaaGreatDoorQ1
import Derived.Test.YtmclngahdklfkaaGreatDoorQ6
import Derived.Test.YtmclngahdklfkaaGreatDoorQ4
import Derived.Test.YtmclngahdklfkaaGreatDoorQ9
import Derived.Test.YtmclngahdklfkaaGreatDoorQ10
import Derived.Test.YtmclngahdklfkaaGreatDoorQ11
import Derived.Test.YtmclngahdklfkaaGreatDoorQ13
import Derived.Test.YtmclngahdklfkaaGreatDoorQ14
import Derived.Test.YtmclngahdklfkaaGreatDoorQ15
/- bytes.IndexAny at short rows. -/
namespace Go.Proofs.YtmclngahdklfkaaGreatDoor
open Go.ChangeShapes Go.WideShapes Go.ChangeAt Go.RowKit
set_option linter.unusedVariables false
theorem utf8_below {a b B : Nat} {w w' : World} (h : Lib.Utf8Tabs a b w) (hb : Below B w w') (ha : a < B) (hb' : b < B) : Lib.Utf8Tabs a b w' :=
  ⟨fun c hc => (hb.cell (p := ⟨a, c, none⟩) ha).trans (h.1 c hc), fun i hi => ⟨(hb.cell (p := ⟨b, _, none⟩) hb').trans (h.2 i hi).1, (hb.cell (p := ⟨b, _, none⟩) hb').trans (h.2 i hi).2⟩⟩
theorem utf8_lt {a b : Nat} {w : World} (h : Lib.Utf8Tabs a b w) : a < w.heap.size ∧ b < w.heap.size :=
  ⟨World.block_lt_of_cell? w _ (h.1 0 (by decide)), World.block_lt_of_cell? w _ (h.2 0 (by decide)).1⟩
theorem ixb_ge {c : UInt8} (h : amL.contains c = true) : (0 : Int) ≤ Lib.indexByte amL c := by
  have := Lib.contains_iff_indexByte amL c
  rw [h] at this
  exact of_decide_eq_true this.symm
theorem ixb_lt {c : UInt8} (h : amL.contains c = false) : ¬ (0 : Int) ≤ Lib.indexByte amL c := by
  have := Lib.contains_iff_indexByte amL c
  rw [h] at this
  exact of_decide_eq_false this.symm
set_option maxRecDepth 100000 in
set_option maxHeartbeats 8000000 in
theorem ixAm_one (A : Option Addr) (cap : Nat) (l : List UInt8) (w : World) (h : Byt w w.heap.size A 1 cap l) :
    Calls Tryz.prog 102 #[.slice A 1 cap, .string ⟨#[60, 38]⟩] w fun e w' => e = .returned (.int .i64 (Lib.indexAny l amL)) ∧ Below w.heap.size w w' := by
  have hln := h.length
  obtain ⟨b, o, c, rfl, hbB, hc, hcell⟩ := h.cell (i := 0) (by decide)
  obtain rfl : l = [c] := by
    match l, hln with
    | [x], _ => simp at hc; subst hc; rfl
  rw [Nat.add_zero] at hcell
  have hix := fun W => run_ixByte c W
  have c0 : (0 : Int) ≤ (c.toNat : Int) := by omega
  have c9 : (c.toNat : Int) ≤ 255 := by have := c.toNat_lt; omega
  clear h hln hc
  by_cases h128 : c.toNat < 128
  · have hci : ¬ (128 : Int) ≤ (c.toNat : Int) := by omega
    have hix1 : Lib.indexAny [c] amL = if amL.contains c = true then 0 else -1 := by
      unfold Lib.indexAny
      split
      · rfl
      · rfl
    rw [hix1]
    clear hix1
    cases hq : amL.contains c with
    | true =>
      have hg := ixb_ge hq
      generalize Lib.indexByte amL c = X at *
      go_enter Tryz.func102, Tryz.ntmps102
      go_wp2
      go_ret
      exact ⟨rfl, Below.refl _ _⟩
    | false =>
      have hg := ixb_lt hq
      generalize Lib.indexByte amL c = X at *
      go_enter Tryz.func102, Tryz.ntmps102
      go_wp2
      go_ret
      exact ⟨rfl, Below.refl _ _⟩
  · have hci : (128 : Int) ≤ (c.toNat : Int) := by omega
    have hix1 : Lib.indexAny [c] amL = -1 := by
      unfold Lib.indexAny
      rw [am_no c (by omega)]
      rfl
    rw [hix1]
    clear hix1 hix
    go_enter Tryz.func102, Tryz.ntmps102
    go_wp2_with fail
    go_loopg [5] 2 (fun g _ wx => ∃ i : Nat, i + g = 2 ∧ wx = w.iter ⟨#[60, 38]⟩ i)
    case atStart => exact ⟨0, by omega, rfl⟩
    case round =>
      obtain ⟨i, hig, rfl⟩ := hrel
      cases gk with
      | zero =>
        obtain rfl : i = 2 := by omega
        have hnx := fun ty => run_next_end (P := Tryz.prog) w ⟨#[60, 38]⟩ 2 ty (by decide)
        go_wp2
        go_ret
        exact ⟨rfl, (Below.refl _ _).alloc (Nat.le_refl _) _⟩
      | succ g =>
        have hi : i = 0 ∨ i = 1 := by omega
        rcases hi with rfl | rfl
        · have hnx := fun ty => run_next_ascii (P := Tryz.prog) w ⟨#[60, 38]⟩ 0 ty (by decide) (by decide)
          rw [show ((⟨#[60, 38]⟩ : ByteArray)[0]'(by decide)).toNat = 60 by rfl] at hnx
          go_wp2
          go_roundg g
          case measure => omega
          case rel => exact ⟨1, by omega, rfl⟩
        · have hnx := fun ty => run_next_ascii (P := Tryz.prog) w ⟨#[60, 38]⟩ 1 ty (by decide) (by decide)
          rw [show ((⟨#[60, 38]⟩ : ByteArray)[1]'(by decide)).toNat = 38 by rfl] at hnx
          go_wp2
          go_roundg g
          case measure => omega
          case rel => exact ⟨2, by omega, rfl⟩
theorem dec60 : Utf8.decode ⟨#[60, 38]⟩ 0 = (60, 1) := by kernel_rfl
theorem dec38 : Utf8.decode ⟨#[60, 38]⟩ 1 = (38, 1) := by kernel_rfl
set_option maxRecDepth 100000 in
set_option maxHeartbeats 8000000 in
theorem ixAm_short (A : Option Addr) (n cap : Nat) (l : List UInt8) (w : World) (h : Byt w w.heap.size A n cap l) (hT : Lib.Utf8Tabs 8 9 w) (hM : MaxL w) (hm : n ≤ 8) (hn1 : n ≠ 1) :
    Calls Tryz.prog 102 #[.slice A n cap, .string ⟨#[60, 38]⟩] w fun e w' => e = .returned (.int .i64 (Lib.indexAny l amL)) ∧ Below w.heap.size w w' := by
  have hln := h.length
  have h8z : decide ((8 : Int) < (n : Int)) = false := decide_eq_false (by omega)
  have n1 : ((n : Int) == 1) = false := by simp; omega
  have CU := Lib.hid fun W => useSet_c (n : Int) W
  have CD : Hid (∀ t, t < n → ∀ W, Below w.heap.size w W → ∀ c, l[t]? = some c → 128 ≤ c.toNat → Calls Tryz.prog 140 #[.slice (cutA A cap t) (n - t) (cap - t)] W fun e w' => e = .returned (.tuple #[.int .i32 (decU (l.drop t)).1, .int .i64 (decU (l.drop t)).2]) ∧ Below W.heap.size W w') := Lib.hid fun t ht W hb c hc h128 => by
    have hB := ((h.below hb).more hb.size).drop (k := t) (by omega)
    have h0 : (l.drop t)[0]? = some c := by rw [List.getElem?_drop]; exact hc
    obtain ⟨b, o, _, e, _⟩ := hB.cell (i := 0) (by omega)
    rw [e] at hB ⊢
    exact decRune_c b o _ _ _ W hB (by omega) (by omega) (utf8_below hT hb (utf8_lt hT).1 (utf8_lt hT).2) c h0 h128
  have HM : Hid (∀ W, Below w.heap.size w W → MaxL W) := Lib.hid fun W hb => hM.below hb hM.lt
  have HB := Lib.hid h
  have HLn := Lib.hid hln
  have hrf := fun (W : World) t (ht : t ≤ n) => run_from (w := W) A n cap t ht
  have HRF := Lib.hid hrf
  clear h hT hM hln hrf
  go_enter Tryz.func102, Tryz.ntmps102
  go_wp2_with fail
  refine (CU.out _).mono ?_
  rintro e w1 ⟨rfl, hw⟩
  rw [hw, h8z]
  clear hw w1 h8z
  go_wp2_with fail
  go_loopg [12] n (fun g i wr => ∃ t : Nat, i = .int .i64 (t : Int) ∧ t ≤ n ∧ Hid (g = n - t) ∧ Hid (Below w.heap.size w wr) ∧ Hid (Lib.NoAny l amL t))
  case atStart => exact ⟨0, rfl, Nat.zero_le _, Lib.hid rfl, Lib.hid (Below.refl _ _), Lib.hid (Lib.NoAny.zero _ _)⟩
  case round =>
    obtain ⟨t, rfl, ht, hg, HN0, HN⟩ := hrel
    by_cases htn : t < n
    · have hti : (t : Int) < (n : Int) := by omega
      have htb : (t : Int) ≤ 8 := by omega
      have ht0 : (0 : Int) ≤ (t : Int) := by omega
      obtain ⟨b, o, c, e, hbB, hc, hcell⟩ := (HB.out.below HN0.out).cell htn
      have HC := Lib.hid hc
      have c0 : (0 : Int) ≤ (c.toNat : Int) := by omega
      have c9 : (c.toNat : Int) ≤ 255 := by have := c.toNat_lt; omega
      by_cases h128 : c.toNat < 128
      · have hci : (c.toNat : Int) < 128 := by omega
        have hix := fun W => run_ixByte c W
        clear hc
        subst e
        cases hq : amL.contains c with
        | true =>
          have HI := Lib.hid (Lib.indexAny_hit HN.out HC.out hq)
          have hg := ixb_ge hq
          generalize Lib.indexByte amL c = X at *
          go_wp2
          go_ret
          rw [HI.out]
          exact ⟨rfl, HN0.out⟩
        | false =>
          have HN2 := Lib.hid (HN.out.succ HC.out hq)
          have hgl := ixb_lt hq
          generalize Lib.indexByte amL c = X at *
          go_wp2
          go_roundg (n - (t + 1))
          case measure => have := hg.out; omega
          case rel => exact ⟨t + 1, by go_num, by omega, Lib.hid rfl, HN0, HN2⟩
      · have hci : ¬ (c.toNat : Int) < 128 := by omega
        have CD1 := Lib.hid (CD.out t htn _ HN0.out c hc (by omega))
        have hsp := decU_span (l.drop t) c (by rw [List.getElem?_drop]; exact hc) (by omega)
        have hcs := decU_cases (l.drop t) c (by rw [List.getElem?_drop]; exact hc) (by omega)
        rw [List.length_drop, HLn.out] at hsp
        have hrf := HRF.out wr t (by omega)
        generalize hdc : decU (l.drop t) = dc at *
        obtain ⟨r, m⟩ := dc
        simp only at hsp hcs CD1
        have HN2 : Hid (Lib.NoAny l amL (t + m)) := Lib.hid (noAny_am HN.out fun j x h1 h2 h3 => hsp.2.2 (j - t) x (by omega) (by rw [List.getElem?_drop, show t + (j - t) = j by omega]; exact h3))
        have hm0 : (1 : Int) ≤ (m : Int) := by omega
        have hm9 : (m : Int) ≤ 8 := by omega
        have hr0 : (128 : Int) ≤ (r : Int) := by
          rcases hcs with h | h | h | h
          · cases h; decide
          all_goals omega
        have hr9 : (r : Int) ≤ 1114111 := by
          rcases hcs with h | h | h | h
          · cases h; decide
          all_goals omega
        have htm : t + m ≤ n := by omega
        clear hc hsp hdc h128
        subst e
        have B := Lib.hid HN0.out.size
        have r60 : ((r : Int) == 60) = false := by simp; omega
        have r38 : ((r : Int) == 38) = false := by simp; omega
        by_cases hE : r = 65533
        · have hEi : ((r : Int) == 65533) = true := by simp; omega
          clear hcs hE
          go_wp2_with fail
          refine CD1.out.mono ?_
          rintro e w2 ⟨rfl, hb2⟩
          have B2 := Lib.hid (HN0.out.trans (hb2.mono HN0.out.size))
          clear hb2
          go_wp2_with fail
          go_loopg [15] 2 (fun g _ wx => ∃ i : Nat, i + g = 2 ∧ wx.heap[w2.heap.size]? = some (.stringIter ⟨#[60, 38]⟩ i) ∧ Hid (Below w.heap.size w wx))
          case atStart => exact ⟨0, by omega, hp_new _ _, Lib.hid (B2.out.alloc B2.out.size _)⟩
          case round =>
            obtain ⟨i, hig, hit, HX⟩ := hrel
            cases gk with
            | zero =>
              obtain rfl : i = 2 := by omega
              have hnx := fun ty => run_next_end_at wr w2.heap.size ⟨#[60, 38]⟩ 2 ty hit (by decide)
              go_wp2
              go_roundg (n - (t + m))
              case measure => have := hg.out; omega
              case rel => exact ⟨t + m, by go_num, htm, Lib.hid rfl, HX, HN2⟩
            | succ g =>
              have hi : i = 0 ∨ i = 1 := by omega
              rcases hi with rfl | rfl
              · have hnx := fun ty => run_next_at wr w2.heap.size ⟨#[60, 38]⟩ 0 ty hit (by decide)
                rw [dec60] at hnx
                simp only at hnx
                have hat := itW_at (p := 0 + 1) hit
                have HX1 := Lib.hid (HX.out.trans ((itW_below (W := wr) (b := w2.heap.size) (p := 0 + 1) (s := ⟨#[60, 38]⟩)).mono B2.out.size))
                clear hit
                generalize itW wr w2.heap.size ⟨#[60, 38]⟩ (0 + 1) = wi at *
                go_wp2
                go_roundg g
                case measure => omega
                case rel => exact ⟨1, by omega, hat, HX1⟩
              · have hnx := fun ty => run_next_at wr w2.heap.size ⟨#[60, 38]⟩ 1 ty hit (by decide)
                rw [dec38] at hnx
                simp only at hnx
                have hat := itW_at (p := 1 + 1) hit
                have HX1 := Lib.hid (HX.out.trans ((itW_below (W := wr) (b := w2.heap.size) (p := 1 + 1) (s := ⟨#[60, 38]⟩)).mono B2.out.size))
                clear hit
                generalize itW wr w2.heap.size ⟨#[60, 38]⟩ (1 + 1) = wi at *
                go_wp2
                go_roundg g
                case measure => omega
                case rel => exact ⟨2, by omega, hat, HX1⟩
        · have hEi : ((r : Int) == 65533) = false := by simp; omega
          have kv := fun W => run_convert_int_string (P := Tryz.prog) W 21 9 .i32 (r : Int) (by kernel_rfl) (by kernel_rfl)
          have hcs2 : (m = 2 ∧ 128 ≤ r ∧ r < 2048) ∨ (m = 3 ∧ 2048 ≤ r ∧ r < 65536 ∧ (r < 55296 ∨ 57344 ≤ r)) ∨ (m = 4 ∧ 65536 ≤ r ∧ r ≤ 1114111) := by
            rcases hcs with h | h | h | h
            · exact absurd (congrArg Prod.fst h) hE
            · exact .inl h
            · exact .inr (.inl h)
            · exact .inr (.inr h)
          clear hcs hE
          rcases hcs2 with ⟨rfl, h1, h2⟩ | hcs3
          · obtain ⟨x, y, he, hy⟩ := enc2 r h1 h2
            rw [he] at kv
            have h38 : ((38 : UInt8) == y) = false := by
              have hy38 : (38 : UInt8) ≠ y := fun e => by subst e; simp at hy
              simp [hy38]
            clear h1 h2 he hy
            go_wp2_with fail
            refine CD1.out.mono ?_
            rintro e w2 ⟨rfl, hb2⟩
            have B2 := Lib.hid (HN0.out.trans (hb2.mono HN0.out.size))
            clear hb2
            go_wp2
            go_roundg (n - (t + 2))
            case measure => have := hg.out; omega
            case rel => exact ⟨t + 2, by go_num, htm, Lib.hid rfl, B2, HN2⟩
          · have hz : ∃ z : ByteArray, Utf8.encode (r : Int) = z ∧ z.size = m := by
              rcases hcs3 with ⟨rfl, h1, h2, h3⟩ | ⟨rfl, h1, h2⟩
              · obtain ⟨a1, a2, a3, he⟩ := enc3 r h1 h2 h3
                exact ⟨_, he, rfl⟩
              · obtain ⟨a1, a2, a3, a4, he⟩ := enc4 r h1 h2
                exact ⟨_, he, rfl⟩
            obtain ⟨z, he, hzm⟩ := hz
            have hm3 : 3 ≤ m := by rcases hcs3 with h | h <;> omega
            rw [he] at kv
            have m2 : ((2 : Int) == (m : Int)) = false := by simp; omega
            clear hcs3 he
            go_wp2_with fail
            refine CD1.out.mono ?_
            rintro e w2 ⟨rfl, hb2⟩
            have B2 := Lib.hid (HN0.out.trans (hb2.mono HN0.out.size))
            clear hb2
            obtain ⟨mx, hmx⟩ := HM.out w2 B2.out
            by_cases hmm : (m : Int) ≤ mx
            · have hxs := run_ixStr z mx w2 hmx (by omega) (by omega)
              go_wp2
              go_roundg (n - (t + m))
              case measure => have := hg.out; omega
              case rel => exact ⟨t + m, by go_num, htm, Lib.hid rfl, B2, HN2⟩
            · clear kv hzm
              go_wp2_with fail
              go_loopg [15] 2 (fun g _ wx => ∃ i : Nat, i + g = 2 ∧ wx.heap[w2.heap.size]? = some (.stringIter ⟨#[60, 38]⟩ i) ∧ Hid (Below w.heap.size w wx))
              case atStart => exact ⟨0, by omega, hp_new _ _, Lib.hid (B2.out.alloc B2.out.size _)⟩
              case round =>
                obtain ⟨i, hig, hit, HX⟩ := hrel
                cases gk with
                | zero =>
                  obtain rfl : i = 2 := by omega
                  have hnx := fun ty => run_next_end_at wr w2.heap.size ⟨#[60, 38]⟩ 2 ty hit (by decide)
                  go_wp2
                  go_roundg (n - (t + m))
                  case measure => have := hg.out; omega
                  case rel => exact ⟨t + m, by go_num, htm, Lib.hid rfl, HX, HN2⟩
                | succ g =>
                  have hi : i = 0 ∨ i = 1 := by omega
                  rcases hi with rfl | rfl
                  · have hnx := fun ty => run_next_at wr w2.heap.size ⟨#[60, 38]⟩ 0 ty hit (by decide)
                    rw [dec60] at hnx
                    simp only at hnx
                    have hat := itW_at (p := 0 + 1) hit
                    have HX1 := Lib.hid (HX.out.trans ((itW_below (W := wr) (b := w2.heap.size) (p := 0 + 1) (s := ⟨#[60, 38]⟩)).mono B2.out.size))
                    clear hit
                    generalize itW wr w2.heap.size ⟨#[60, 38]⟩ (0 + 1) = wi at *
                    go_wp2
                    go_roundg g
                    case measure => omega
                    case rel => exact ⟨1, by omega, hat, HX1⟩
                  · have hnx := fun ty => run_next_at wr w2.heap.size ⟨#[60, 38]⟩ 1 ty hit (by decide)
                    rw [dec38] at hnx
                    simp only at hnx
                    have hat := itW_at (p := 1 + 1) hit
                    have HX1 := Lib.hid (HX.out.trans ((itW_below (W := wr) (b := w2.heap.size) (p := 1 + 1) (s := ⟨#[60, 38]⟩)).mono B2.out.size))
                    clear hit
                    generalize itW wr w2.heap.size ⟨#[60, 38]⟩ (1 + 1) = wi at *
                    go_wp2
                    go_roundg g
                    case measure => omega
                    case rel => exact ⟨2, by omega, hat, HX1⟩
    · have hti : ¬ (t : Int) < (n : Int) := by omega
      have HI : Hid (Lib.indexAny l amL = -1) := Lib.hid (Lib.indexAny_none (by have := HN.out; rwa [show t = l.length by rw [HLn.out]; omega] at this))
      go_wp2
      go_ret
      rw [HI.out]
      exact ⟨rfl, HN0.out⟩
/-- bytes.IndexAny of '<' and '&'. -/
theorem indexAm_c (A : Option Addr) (n cap : Nat) (l : List UInt8) (w : World) (h : Byt w w.heap.size A n cap l) (hT : Lib.Utf8Tabs 8 9 w) (hM : MaxL w) (hm : n ≤ 1000000) :
    Calls Tryz.prog 102 #[.slice A n cap, .string ⟨#[60, 38]⟩] w fun e w' => e = .returned (.int .i64 (Lib.indexAny l amL)) ∧ Below w.heap.size w w' := by
  by_cases h1 : n = 1
  · subst h1
    exact ixAm_one A cap l w h
  · by_cases h8 : 8 < n
    · exact ixAm_long A n cap l w h hm h8
    · exact ixAm_short A n cap l w h hT hM (by omega) h1
end Go.Proofs.YtmclngahdklfkaaGreatDoor
