/- Texts of ours, joined: IxB4, Tok1, Tok3a. -/
import Derived.Test.YtmclngahdklfkaaGreatDoorRows
import Derived.WalkKit
import Derived.ProofKit
import Derived.OpenShut
import Derived.ShutString
import Derived.ChangeOld
import Derived.Below
import Derived.BigQuiet
import Derived.Deep.QuietTactic
import Derived.Lib.Hide
import Derived.Deep.RegionHeld3
import Derived.Lib.SlBytesConst
import Derived.Laws.CopyOwn
import Derived.Laws.CopyRow
import Derived.Lib.Bytes
import Derived.Deep.LoopGhost
import Derived.Deep.DeepFit
import Derived.Deep.DeepMust
import Derived.WalkSpells
import Derived.WalkLawsBesides
import Derived.Lib.AsciiSet
import Derived.Deep.WholeRow
import Derived.Laws.ResultCell
import Derived.Laws.RangeString
import Derived.Laws.Runes
import Derived.Laws.RangeAny
import Derived.Laws.Rows
import Derived.LoopN
import Derived.Lib.IndexAny
import Derived.Lib.IndexBytes
import Derived.Lib.Bytealg
import Derived.Lib.IndexEntry
import Derived.Laws.Externs
import Derived.Test.YtmclngahdklfkaaGreatDoorQ1
import Derived.Test.YtmclngahdklfkaaGreatDoorQ7
import Derived.Test.YtmclngahdklfkaaGreatDoorQ5
import Derived.Test.YtmclngahdklfkaaGreatDoorQ6
import Derived.Test.YtmclngahdklfkaaGreatDoorQ9
import Derived.Test.YtmclngahdklfkaaGreatDoorQ10
import Derived.Test.YtmclngahdklfkaaGreatDoorQ12
import Derived.Maps.OwnOps
import Derived.Maps.OwnSet
import Derived.Maps.Views
import Derived.Laws.EntriesVeiled
import Derived.Maps.AppendAt
import Derived.Lib.SmallJoins
import Derived.Test.YtmclngahdklfkaaGreatDoorQ3
import Derived.Test.YtmclngahdklfkaaGreatDoorQ2
import Derived.Test.YtmclngahdklfkaaGreatDoorQ8
import Derived.Test.YtmclngahdklfkaaGreatDoorQ11
/- bytes.IndexAny at short rows. -/
namespace Go.Proofs.YtmclngahdklfkaaGreatDoor
open Go.ChangeShapes Go.WideShapes Go.ChangeAt Go.RowKit
set_option linter.unusedVariables false
theorem utf8_below {a b B : Nat} {w w' : World} (h : Lib.Utf8Tabs a b w) (hb : Below B w w') (ha : a < B) (hb' : b < B) : Lib.Utf8Tabs a b w' :=
  ⟨fun c hc => (hb.cell (p := ⟨a, c, none⟩) ha).trans (h.1 c hc), fun i hi => ⟨(hb.cell (p := ⟨b, _, none⟩) hb').trans (h.2 i hi).1, (hb.cell (p := ⟨b, _, none⟩) hb').trans (h.2 i hi).2⟩⟩
theorem utf8_lt {a b : Nat} {w : World} (h : Lib.Utf8Tabs a b w) : a < w.heap.size ∧ b < w.heap.size :=
  ⟨World.block_lt_of_cell? w _ (h.1 0 (by decide)), World.block_lt_of_cell? w _ (h.2 0 (by decide)).1⟩
theorem ixb_ge {c : UInt8} (h : amL.contains c = true) : (0 : Int) ≤ Lib.indexByte amL c := by
  have := Lib.contains_iff_indexByte amL c
  rw [h] at this
  exact of_decide_eq_true this.symm
theorem ixb_lt {c : UInt8} (h : amL.contains c = false) : ¬ (0 : Int) ≤ Lib.indexByte amL c := by
  have := Lib.contains_iff_indexByte amL c
  rw [h] at this
  exact of_decide_eq_false this.symm
set_option maxRecDepth 100000 in
set_option maxHeartbeats 8000000 in
theorem ixAm_one (A : Option Addr) (cap : Nat) (l : List UInt8) (w : World) (h : Byt w w.heap.size A 1 cap l) :
    Calls Tryz.prog 102 #[.slice A 1 cap, .string ⟨#[60, 38]⟩] w fun e w' => e = .returned (.int .i64 (Lib.indexAny l amL)) ∧ Below w.heap.size w w' := by
  have hln := h.length
  obtain ⟨b, o, c, rfl, hbB, hc, hcell⟩ := h.cell (i := 0) (by decide)
  obtain rfl : l = [c] := by
    match l, hln with
    | [x], _ => simp at hc; subst hc; rfl
  rw [Nat.add_zero] at hcell
  have hix := fun W => run_ixByte c W
  have c0 : (0 : Int) ≤ (c.toNat : Int) := by omega
  have c9 : (c.toNat : Int) ≤ 255 := by have := c.toNat_lt; omega
  clear h hln hc
  by_cases h128 : c.toNat < 128
  · have hci : ¬ (128 : Int) ≤ (c.toNat : Int) := by omega
    have hix1 : Lib.indexAny [c] amL = if amL.contains c = true then 0 else -1 := by
      unfold Lib.indexAny
      split
      · rfl
      · rfl
    rw [hix1]
    clear hix1
    cases hq : amL.contains c with
    | true =>
      have hg := ixb_ge hq
      generalize Lib.indexByte amL c = X at *
      go_enter Tryz.func102, Tryz.ntmps102
      go_wp2
      go_ret
      exact ⟨rfl, Below.refl _ _⟩
    | false =>
      have hg := ixb_lt hq
      generalize Lib.indexByte amL c = X at *
      go_enter Tryz.func102, Tryz.ntmps102
      go_wp2
      go_ret
      exact ⟨rfl, Below.refl _ _⟩
  · have hci : (128 : Int) ≤ (c.toNat : Int) := by omega
    have hix1 : Lib.indexAny [c] amL = -1 := by
      unfold Lib.indexAny
      rw [am_no c (by omega)]
      rfl
    rw [hix1]
    clear hix1 hix
    go_enter Tryz.func102, Tryz.ntmps102
    go_wp2_with fail
    go_loopg [5] 2 (fun g _ wx => ∃ i : Nat, i + g = 2 ∧ wx = w.iter ⟨#[60, 38]⟩ i)
    case atStart => exact ⟨0, by omega, rfl⟩
    case round =>
      obtain ⟨i, hig, rfl⟩ := hrel
      cases gk with
      | zero =>
        obtain rfl : i = 2 := by omega
        have hnx := fun ty => run_next_end (P := Tryz.prog) w ⟨#[60, 38]⟩ 2 ty (by decide)
        go_wp2
        go_ret
        exact ⟨rfl, (Below.refl _ _).alloc (Nat.le_refl _) _⟩
      | succ g =>
        have hi : i = 0 ∨ i = 1 := by omega
        rcases hi with rfl | rfl
        · have hnx := fun ty => run_next_ascii (P := Tryz.prog) w ⟨#[60, 38]⟩ 0 ty (by decide) (by decide)
          rw [show ((⟨#[60, 38]⟩ : ByteArray)[0]'(by decide)).toNat = 60 by rfl] at hnx
          go_wp2
          go_roundg g
          case measure => omega
          case rel => exact ⟨1, by omega, rfl⟩
        · have hnx := fun ty => run_next_ascii (P := Tryz.prog) w ⟨#[60, 38]⟩ 1 ty (by decide) (by decide)
          rw [show ((⟨#[60, 38]⟩ : ByteArray)[1]'(by decide)).toNat = 38 by rfl] at hnx
          go_wp2
          go_roundg g
          case measure => omega
          case rel => exact ⟨2, by omega, rfl⟩
theorem dec60 : Utf8.decode ⟨#[60, 38]⟩ 0 = (60, 1) := by kernel_rfl
theorem dec38 : Utf8.decode ⟨#[60, 38]⟩ 1 = (38, 1) := by kernel_rfl
set_option maxRecDepth 100000 in
set_option maxHeartbeats 8000000 in
theorem ixAm_short (A : Option Addr) (n cap : Nat) (l : List UInt8) (w : World) (h : Byt w w.heap.size A n cap l) (hT : Lib.Utf8Tabs 8 9 w) (hM : MaxL w) (hm : n ≤ 8) (hn1 : n ≠ 1) :
    Calls Tryz.prog 102 #[.slice A n cap, .string ⟨#[60, 38]⟩] w fun e w' => e = .returned (.int .i64 (Lib.indexAny l amL)) ∧ Below w.heap.size w w' := by
  have hln := h.length
  have h8z : decide ((8 : Int) < (n : Int)) = false := decide_eq_false (by omega)
  have n1 : ((n : Int) == 1) = false := by simp; omega
  have CU := Lib.hid fun W => useSet_c (n : Int) W
  have CD : Hid (∀ t, t < n → ∀ W, Below w.heap.size w W → ∀ c, l[t]? = some c → 128 ≤ c.toNat → Calls Tryz.prog 140 #[.slice (cutA A cap t) (n - t) (cap - t)] W fun e w' => e = .returned (.tuple #[.int .i32 (decU (l.drop t)).1, .int .i64 (decU (l.drop t)).2]) ∧ Below W.heap.size W w') := Lib.hid fun t ht W hb c hc h128 => by
    have hB := ((h.below hb).more hb.size).drop (k := t) (by omega)
    have h0 : (l.drop t)[0]? = some c := by rw [List.getElem?_drop]; exact hc
    obtain ⟨b, o, _, e, _⟩ := hB.cell (i := 0) (by omega)
    rw [e] at hB ⊢
    exact decRune_c b o _ _ _ W hB (by omega) (by omega) (utf8_below hT hb (utf8_lt hT).1 (utf8_lt hT).2) c h0 h128
  have HM : Hid (∀ W, Below w.heap.size w W → MaxL W) := Lib.hid fun W hb => hM.below hb hM.lt
  have HB := Lib.hid h
  have HLn := Lib.hid hln
  have hrf := fun (W : World) t (ht : t ≤ n) => run_from (w := W) A n cap t ht
  have HRF := Lib.hid hrf
  clear h hT hM hln hrf
  go_enter Tryz.func102, Tryz.ntmps102
  go_wp2_with fail
  refine (CU.out _).mono ?_
  rintro e w1 ⟨rfl, hw⟩
  rw [hw, h8z]
  clear hw w1 h8z
  go_wp2_with fail
  go_loopg [12] n (fun g i wr => ∃ t : Nat, i = .int .i64 (t : Int) ∧ t ≤ n ∧ Hid (g = n - t) ∧ Hid (Below w.heap.size w wr) ∧ Hid (Lib.NoAny l amL t))
  case atStart => exact ⟨0, rfl, Nat.zero_le _, Lib.hid rfl, Lib.hid (Below.refl _ _), Lib.hid (Lib.NoAny.zero _ _)⟩
  case round =>
    obtain ⟨t, rfl, ht, hg, HN0, HN⟩ := hrel
    by_cases htn : t < n
    · have hti : (t : Int) < (n : Int) := by omega
      have htb : (t : Int) ≤ 8 := by omega
      have ht0 : (0 : Int) ≤ (t : Int) := by omega
      obtain ⟨b, o, c, e, hbB, hc, hcell⟩ := (HB.out.below HN0.out).cell htn
      have HC := Lib.hid hc
      have c0 : (0 : Int) ≤ (c.toNat : Int) := by omega
      have c9 : (c.toNat : Int) ≤ 255 := by have := c.toNat_lt; omega
      by_cases h128 : c.toNat < 128
      · have hci : (c.toNat : Int) < 128 := by omega
        have hix := fun W => run_ixByte c W
        clear hc
        subst e
        cases hq : amL.contains c with
        | true =>
          have HI := Lib.hid (Lib.indexAny_hit HN.out HC.out hq)
          have hg := ixb_ge hq
          generalize Lib.indexByte amL c = X at *
          go_wp2
          go_ret
          rw [HI.out]
          exact ⟨rfl, HN0.out⟩
        | false =>
          have HN2 := Lib.hid (HN.out.succ HC.out hq)
          have hgl := ixb_lt hq
          generalize Lib.indexByte amL c = X at *
          go_wp2
          go_roundg (n - (t + 1))
          case measure => have := hg.out; omega
          case rel => exact ⟨t + 1, by go_num, by omega, Lib.hid rfl, HN0, HN2⟩
      · have hci : ¬ (c.toNat : Int) < 128 := by omega
        have CD1 := Lib.hid (CD.out t htn _ HN0.out c hc (by omega))
        have hsp := decU_span (l.drop t) c (by rw [List.getElem?_drop]; exact hc) (by omega)
        have hcs := decU_cases (l.drop t) c (by rw [List.getElem?_drop]; exact hc) (by omega)
        rw [List.length_drop, HLn.out] at hsp
        have hrf := HRF.out wr t (by omega)
        generalize hdc : decU (l.drop t) = dc at *
        obtain ⟨r, m⟩ := dc
        simp only at hsp hcs CD1
        have HN2 : Hid (Lib.NoAny l amL (t + m)) := Lib.hid (noAny_am HN.out fun j x h1 h2 h3 => hsp.2.2 (j - t) x (by omega) (by rw [List.getElem?_drop, show t + (j - t) = j by omega]; exact h3))
        have hm0 : (1 : Int) ≤ (m : Int) := by omega
        have hm9 : (m : Int) ≤ 8 := by omega
        have hr0 : (128 : Int) ≤ (r : Int) := by
          rcases hcs with h | h | h | h
          · cases h; decide
          all_goals omega
        have hr9 : (r : Int) ≤ 1114111 := by
          rcases hcs with h | h | h | h
          · cases h; decide
          all_goals omega
        have htm : t + m ≤ n := by omega
        clear hc hsp hdc h128
        subst e
        have B := Lib.hid HN0.out.size
        have r60 : ((r : Int) == 60) = false := by simp; omega
        have r38 : ((r : Int) == 38) = false := by simp; omega
        by_cases hE : r = 65533
        · have hEi : ((r : Int) == 65533) = true := by simp; omega
          clear hcs hE
          go_wp2_with fail
          refine CD1.out.mono ?_
          rintro e w2 ⟨rfl, hb2⟩
          have B2 := Lib.hid (HN0.out.trans (hb2.mono HN0.out.size))
          clear hb2
          go_wp2_with fail
          go_loopg [15] 2 (fun g _ wx => ∃ i : Nat, i + g = 2 ∧ wx.heap[w2.heap.size]? = some (.stringIter ⟨#[60, 38]⟩ i) ∧ Hid (Below w.heap.size w wx))
          case atStart => exact ⟨0, by omega, hp_new _ _, Lib.hid (B2.out.alloc B2.out.size _)⟩
          case round =>
            obtain ⟨i, hig, hit, HX⟩ := hrel
            cases gk with
            | zero =>
              obtain rfl : i = 2 := by omega
              have hnx := fun ty => run_next_end_at wr w2.heap.size ⟨#[60, 38]⟩ 2 ty hit (by decide)
              go_wp2
              go_roundg (n - (t + m))
              case measure => have := hg.out; omega
              case rel => exact ⟨t + m, by go_num, htm, Lib.hid rfl, HX, HN2⟩
            | succ g =>
              have hi : i = 0 ∨ i = 1 := by omega
              rcases hi with rfl | rfl
              · have hnx := fun ty => run_next_at wr w2.heap.size ⟨#[60, 38]⟩ 0 ty hit (by decide)
                rw [dec60] at hnx
                simp only at hnx
                have hat := itW_at (p := 0 + 1) hit
                have HX1 := Lib.hid (HX.out.trans ((itW_below (W := wr) (b := w2.heap.size) (p := 0 + 1) (s := ⟨#[60, 38]⟩)).mono B2.out.size))
                clear hit
                generalize itW wr w2.heap.size ⟨#[60, 38]⟩ (0 + 1) = wi at *
                go_wp2
                go_roundg g
                case measure => omega
                case rel => exact ⟨1, by omega, hat, HX1⟩
              · have hnx := fun ty => run_next_at wr w2.heap.size ⟨#[60, 38]⟩ 1 ty hit (by decide)
                rw [dec38] at hnx
                simp only at hnx
                have hat := itW_at (p := 1 + 1) hit
                have HX1 := Lib.hid (HX.out.trans ((itW_below (W := wr) (b := w2.heap.size) (p := 1 + 1) (s := ⟨#[60, 38]⟩)).mono B2.out.size))
                clear hit
                generalize itW wr w2.heap.size ⟨#[60, 38]⟩ (1 + 1) = wi at *
                go_wp2
                go_roundg g
                case measure => omega
                case rel => exact ⟨2, by omega, hat, HX1⟩
        · have hEi : ((r : Int) == 65533) = false := by simp; omega
          have kv := fun W => run_convert_int_string (P := Tryz.prog) W 21 9 .i32 (r : Int) (by kernel_rfl) (by kernel_rfl)
          have hcs2 : (m = 2 ∧ 128 ≤ r ∧ r < 2048) ∨ (m = 3 ∧ 2048 ≤ r ∧ r < 65536 ∧ (r < 55296 ∨ 57344 ≤ r)) ∨ (m = 4 ∧ 65536 ≤ r ∧ r ≤ 1114111) := by
            rcases hcs with h | h | h | h
            · exact absurd (congrArg Prod.fst h) hE
            · exact .inl h
            · exact .inr (.inl h)
            · exact .inr (.inr h)
          clear hcs hE
          rcases hcs2 with ⟨rfl, h1, h2⟩ | hcs3
          · obtain ⟨x, y, he, hy⟩ := enc2 r h1 h2
            rw [he] at kv
            have h38 : ((38 : UInt8) == y) = false := by
              have hy38 : (38 : UInt8) ≠ y := fun e => by subst e; simp at hy
              simp [hy38]
            clear h1 h2 he hy
            go_wp2_with fail
            refine CD1.out.mono ?_
            rintro e w2 ⟨rfl, hb2⟩
            have B2 := Lib.hid (HN0.out.trans (hb2.mono HN0.out.size))
            clear hb2
            go_wp2
            go_roundg (n - (t + 2))
            case measure => have := hg.out; omega
            case rel => exact ⟨t + 2, by go_num, htm, Lib.hid rfl, B2, HN2⟩
          · have hz : ∃ z : ByteArray, Utf8.encode (r : Int) = z ∧ z.size = m := by
              rcases hcs3 with ⟨rfl, h1, h2, h3⟩ | ⟨rfl, h1, h2⟩
              · obtain ⟨a1, a2, a3, he⟩ := enc3 r h1 h2 h3
                exact ⟨_, he, rfl⟩
              · obtain ⟨a1, a2, a3, a4, he⟩ := enc4 r h1 h2
                exact ⟨_, he, rfl⟩
            obtain ⟨z, he, hzm⟩ := hz
            have hm3 : 3 ≤ m := by rcases hcs3 with h | h <;> omega
            rw [he] at kv
            have m2 : ((2 : Int) == (m : Int)) = false := by simp; omega
            clear hcs3 he
            go_wp2_with fail
            refine CD1.out.mono ?_
            rintro e w2 ⟨rfl, hb2⟩
            have B2 := Lib.hid (HN0.out.trans (hb2.mono HN0.out.size))
            clear hb2
            obtain ⟨mx, hmx⟩ := HM.out w2 B2.out
            by_cases hmm : (m : Int) ≤ mx
            · have hxs := run_ixStr z mx w2 hmx (by omega) (by omega)
              go_wp2
              go_roundg (n - (t + m))
              case measure => have := hg.out; omega
              case rel => exact ⟨t + m, by go_num, htm, Lib.hid rfl, B2, HN2⟩
            · clear kv hzm
              go_wp2_with fail
              go_loopg [15] 2 (fun g _ wx => ∃ i : Nat, i + g = 2 ∧ wx.heap[w2.heap.size]? = some (.stringIter ⟨#[60, 38]⟩ i) ∧ Hid (Below w.heap.size w wx))
              case atStart => exact ⟨0, by omega, hp_new _ _, Lib.hid (B2.out.alloc B2.out.size _)⟩
              case round =>
                obtain ⟨i, hig, hit, HX⟩ := hrel
                cases gk with
                | zero =>
                  obtain rfl : i = 2 := by omega
                  have hnx := fun ty => run_next_end_at wr w2.heap.size ⟨#[60, 38]⟩ 2 ty hit (by decide)
                  go_wp2
                  go_roundg (n - (t + m))
                  case measure => have := hg.out; omega
                  case rel => exact ⟨t + m, by go_num, htm, Lib.hid rfl, HX, HN2⟩
                | succ g =>
                  have hi : i = 0 ∨ i = 1 := by omega
                  rcases hi with rfl | rfl
                  · have hnx := fun ty => run_next_at wr w2.heap.size ⟨#[60, 38]⟩ 0 ty hit (by decide)
                    rw [dec60] at hnx
                    simp only at hnx
                    have hat := itW_at (p := 0 + 1) hit
                    have HX1 := Lib.hid (HX.out.trans ((itW_below (W := wr) (b := w2.heap.size) (p := 0 + 1) (s := ⟨#[60, 38]⟩)).mono B2.out.size))
                    clear hit
                    generalize itW wr w2.heap.size ⟨#[60, 38]⟩ (0 + 1) = wi at *
                    go_wp2
                    go_roundg g
                    case measure => omega
                    case rel => exact ⟨1, by omega, hat, HX1⟩
                  · have hnx := fun ty => run_next_at wr w2.heap.size ⟨#[60, 38]⟩ 1 ty hit (by decide)
                    rw [dec38] at hnx
                    simp only at hnx
                    have hat := itW_at (p := 1 + 1) hit
                    have HX1 := Lib.hid (HX.out.trans ((itW_below (W := wr) (b := w2.heap.size) (p := 1 + 1) (s := ⟨#[60, 38]⟩)).mono B2.out.size))
                    clear hit
                    generalize itW wr w2.heap.size ⟨#[60, 38]⟩ (1 + 1) = wi at *
                    go_wp2
                    go_roundg g
                    case measure => omega
                    case rel => exact ⟨2, by omega, hat, HX1⟩
    · have hti : ¬ (t : Int) < (n : Int) := by omega
      have HI : Hid (Lib.indexAny l amL = -1) := Lib.hid (Lib.indexAny_none (by have := HN.out; rwa [show t = l.length by rw [HLn.out]; omega] at this))
      go_wp2
      go_ret
      rw [HI.out]
      exact ⟨rfl, HN0.out⟩
/-- bytes.IndexAny of '<' and '&'. -/
theorem indexAm_c (A : Option Addr) (n cap : Nat) (l : List UInt8) (w : World) (h : Byt w w.heap.size A n cap l) (hT : Lib.Utf8Tabs 8 9 w) (hM : MaxL w) (hm : n ≤ 1000000) :
    Calls Tryz.prog 102 #[.slice A n cap, .string ⟨#[60, 38]⟩] w fun e w' => e = .returned (.int .i64 (Lib.indexAny l amL)) ∧ Below w.heap.size w w' := by
  by_cases h1 : n = 1
  · subst h1
    exact ixAm_one A cap l w h
  · by_cases h8 : 8 < n
    · exact ixAm_long A n cap l w h hm h8
    · exact ixAm_short A n cap l w h hT hM (by omega) h1
end Go.Proofs.YtmclngahdklfkaaGreatDoor
/- tok.opened, tok.text, the test of what stands at a place. -/
namespace Go.Proofs.YtmclngahdklfkaaGreatDoor
open Go.ChangeShapes Go.WideShapes Go.ChangeAt Go.RowKit
set_option linter.unusedVariables false
/-- What is asked of the world. -/
structure W11 (w : World) : Prop where
  tabs : Tabs w
  forms : Forms w
  maxl : MaxL w
  fold : FoldT w
  u8 : Lib.Utf8Tabs 8 9 w
theorem W11.below {w w' : World} (h : W11 w) (hb : Below w.heap.size w w') : W11 w' :=
  ⟨h.tabs.below hb (h.tabs.low h.forms), h.forms.below hb h.forms.lt, h.maxl.below hb h.maxl.lt, h.fold.below hb h.fold.lt, utf8_below h.u8 hb (utf8_lt h.u8).1 (utf8_lt h.u8).2⟩
theorem W11.w10 {w : World} (h : W11 w) : W10 w := ⟨h.tabs, h.forms⟩
theorem W11.w8f {w : World} (h : W11 w) : W8F w := ⟨⟨h.tabs.n, h.forms, h.maxl⟩, h.fold⟩
set_option maxRecDepth 100000 in
set_option maxHeartbeats 4000000 in
theorem stands1_c (A : Option Addr) (n cap : Nat) (l : List UInt8) (k bb ab : Nat) (p : List UInt8) (w : World) (h : Byt w w.heap.size A n cap l) (hk : k ≤ n) (hp : p.length ≤ 100) (hzb : w.cell? ⟨bb, 0, none⟩ = some (.slice A n cap)) (hza : w.cell? ⟨ab, 0, none⟩ = some (.int .i64 (k : Int))) :
    Calls Tryz.prog 59 #[.string ⟨p.toArray⟩, .pointer (some ⟨bb, 0, none⟩), .pointer (some ⟨ab, 0, none⟩)] w fun e w' => e = .returned (.bool (p.isPrefixOf (l.drop k))) ∧ Below w.heap.size w w' := by
  have hrf := run_from (w := w) A n cap k hk
  have cv := run_toBytes w p
  have hb1 := Go.Joins.below_bytesWorld w.heap.size w 5 ⟨p.toArray⟩ (Nat.le_refl _)
  have C1 := Lib.hid (hasPrefix_c _ _ _ _ _ _ _ _ _ _ _ ((h.drop hk).below hb1) (byt_new w p (by omega)))
  have HB := Lib.hid hb1
  clear h hb1
  go_enter Tryz.func59, Tryz.ntmps59
  go_wp2_with fail
  refine C1.out.mono ?_
  rintro e wq ⟨rfl, hwq⟩
  subst hwq
  go_wp2
  go_ret
  exact ⟨rfl, HB.out⟩
/-- What a token's reading leaves: it, its row of attributes made anew, the error. -/
def TokPost (o : TokL × Nat) (w : World) (e : Ending) (w' : World) : Prop :=
  ∃ v : TokV, v.t = o.1 ∧ e = .returned (.tuple #[.agg v.cells.toArray, .int .i64 (o.2 : Int)]) ∧ PRd w' w'.heap.size v.A v.n v.c v.t.pairs ∧ Below w.heap.size w w' ∧ ∀ b i, v.A = some ⟨b, i, none⟩ → w.heap.size ≤ b
def openTok (l : List UInt8) (k : Nat) : TokL × Nat := (⟨if (openOut l k).1.empty = true then 8 else 7, 0, ((openOut l k).2.1 : Int), (openOut l k).1.name, [], (openOut l k).1.pairs, 0⟩, (openOut l k).2.2)
set_option maxRecDepth 100000 in
set_option maxHeartbeats 8000000 in
theorem tokOpened_c (A : Option Addr) (n cap : Nat) (l : List UInt8) (k : Nat) (w : World) (h : Byt w w.heap.size A n cap l) (hW : W11 w) (hm : n ≤ 40000) (hk : k ≤ n) :
    Calls Tryz.prog 65 #[.slice A n cap, .int .i64 (k : Int)] w fun e w' => TokPost (openTok l k) w e w' := by
  have hJ := CJ.start 26 w #[.int .i64 0, .int .i64 0, .int .i64 0, .string ⟨#[]⟩, .string ⟨#[]⟩, .slice none 0 0, .int .i64 0]
  have hi : (Tryz.prog.info? 26).map (·.size) = some 7 := by kernel_rfl
  obtain ⟨d, hu⟩ := isStruct_of (P := Tryz.prog) (t := 26) (by kernel_rfl)
  have HU := Lib.hid (And.intro hi hu)
  have C1 := Lib.hid (tagOpenF_in A n cap l k _ ((h.below hJ.1).more hJ.1.size) (hW.below hJ.1).w10 hm hk)
  unfold openTok
  have J0 := Lib.hid hJ
  clear h hW hJ hi hu
  generalize openOut l k = o at *
  obtain ⟨⟨s, ps, em⟩, to, e⟩ := o
  simp only
  cases em
  · simp only [Bool.false_eq_true, if_false]
    go_enter Tryz.func65, Tryz.ntmps65
    go_wp2_with fail
    refine C1.out.mono ?_
    rintro e0 w1 ⟨PA, pn, pc, rfl, hpr, hb, hlo⟩
    have J1 := J0.out.kept hb
    have HP := Lib.hid (And.intro hpr (fun b i h => Nat.lt_of_lt_of_le (lt_of J0.out.2) (hlo b i h)))
    have hq := hp_new w1 (.cells #[.string ⟨s.toArray⟩, .slice PA pn pc, .bool false] 87)
    have ka := (Below.refl _ w1).alloc (Nat.le_refl _) (.cells #[.string ⟨s.toArray⟩, .slice PA pn pc, .bool false] 87)
    have kb := ka.alloc (by simp) (.cells #[.int .i64 7, .int .i64 0, .int .i64 (to : Int), .string ⟨s.toArray⟩, .string ⟨#[]⟩, .slice PA pn pc, .int .i64 0] 26)
    have z2 : ((w1.alloc (.cells #[.string ⟨s.toArray⟩, .slice PA pn pc, .bool false] 87)).alloc (.cells #[.int .i64 7, .int .i64 0, .int .i64 (to : Int), .string ⟨s.toArray⟩, .string ⟨#[]⟩, .slice PA pn pc, .int .i64 0] 26)).cell? ⟨w1.heap.size, 2, none⟩ = some (.bool false) := by
      have : ((w1.alloc (.cells #[.string ⟨s.toArray⟩, .slice PA pn pc, .bool false] 87)).alloc (.cells #[.int .i64 7, .int .i64 0, .int .i64 (to : Int), .string ⟨s.toArray⟩, .string ⟨#[]⟩, .slice PA pn pc, .int .i64 0] 26)).heap[w1.heap.size]? = some (.cells #[.string ⟨s.toArray⟩, .slice PA pn pc, .bool false] 87) := by
        rw [Below.heap_alloc _ _ _ (by simp)]
        exact hq
      exact cell_of 2 this
    have hq4 : ((w1.alloc (.cells #[.string ⟨s.toArray⟩, .slice PA pn pc, .bool false] 87)).alloc (.cells #[.int .i64 7, .int .i64 0, .int .i64 (to : Int), .string ⟨s.toArray⟩, .string ⟨#[]⟩, .slice PA pn pc, .int .i64 0] 26)).heap[w1.heap.size + 1]? = some (.cells #[.int .i64 7, .int .i64 0, .int .i64 (to : Int), .string ⟨s.toArray⟩, .string ⟨#[]⟩, .slice PA pn pc, .int .i64 0] 26) := by
      have := hp_new (w1.alloc (.cells #[.string ⟨s.toArray⟩, .slice PA pn pc, .bool false] 87)) (.cells #[.int .i64 7, .int .i64 0, .int .i64 (to : Int), .string ⟨s.toArray⟩, .string ⟨#[]⟩, .slice PA pn pc, .int .i64 0] 26)
      rwa [World.size_alloc] at this
    have J4 := Lib.hid (J1.kept kb)
    have HQ4 := Lib.hid hq4
    have JF := Lib.hid (J4.out.row #[.int .i64 7, .int .i64 0, .int .i64 (to : Int), .string ⟨s.toArray⟩, .string ⟨#[]⟩, .slice PA pn pc, .int .i64 0])
    clear hpr hb hlo J1 ka kb hq hq4
    go_wp2_with (first | (refine wpList_load_row rfl _ _ rfl (w1.heap.size + 1) rfl _ _ _ _ HQ4.out HU.out.2 rfl HU.out.1 ?_) | (refine wpList_store_row rfl _ _ _ rfl w.heap.size #[.int .i64 7, .int .i64 0, .int .i64 (to : Int), .string ⟨s.toArray⟩, .string ⟨#[]⟩, .slice PA pn pc, .int .i64 0] rfl rfl _ _ J4.out.2 (by kernel_rfl) rfl (by kernel_rfl) ?_))
    (try simp only [Exit.inBlock, Exit.then])
    refine bodyPost_ret (results_cell2 rfl _ _ w.heap.size _ _ _ _ rfl JF.out.2 HU.out.2 rfl HU.out.1) rfl ⟨⟨⟨7, 0, (to : Int), s, [], ps, 0⟩, PA, pn, pc⟩, rfl, rfl, HP.out.1.move ?_ ?_, JF.out.1, fun b i h => Nat.le_of_lt (HP.out.2 b i h)⟩
    · simp [World.setRow]; omega
    · intro b' i' hA hb'
      have hlt := HP.out.2 b' i' hA
      rw [setRow_at _ _ _ _ (by omega), Below.heap_alloc _ _ _ (by simp; omega), Below.heap_alloc _ _ _ hb']
  · simp only [if_true]
    go_enter Tryz.func65, Tryz.ntmps65
    go_wp2_with fail
    refine C1.out.mono ?_
    rintro e0 w1 ⟨PA, pn, pc, rfl, hpr, hb, hlo⟩
    have J1 := J0.out.kept hb
    have HP := Lib.hid (And.intro hpr (fun b i h => Nat.lt_of_lt_of_le (lt_of J0.out.2) (hlo b i h)))
    have hq := hp_new w1 (.cells #[.string ⟨s.toArray⟩, .slice PA pn pc, .bool true] 87)
    have ka := (Below.refl _ w1).alloc (Nat.le_refl _) (.cells #[.string ⟨s.toArray⟩, .slice PA pn pc, .bool true] 87)
    have kb := ka.alloc (by simp) (.cells #[.int .i64 8, .int .i64 0, .int .i64 (to : Int), .string ⟨s.toArray⟩, .string ⟨#[]⟩, .slice PA pn pc, .int .i64 0] 26)
    have z2 : ((w1.alloc (.cells #[.string ⟨s.toArray⟩, .slice PA pn pc, .bool true] 87)).alloc (.cells #[.int .i64 7, .int .i64 0, .int .i64 (to : Int), .string ⟨s.toArray⟩, .string ⟨#[]⟩, .slice PA pn pc, .int .i64 0] 26)).cell? ⟨w1.heap.size, 2, none⟩ = some (.bool true) := by
      have : ((w1.alloc (.cells #[.string ⟨s.toArray⟩, .slice PA pn pc, .bool true] 87)).alloc (.cells #[.int .i64 7, .int .i64 0, .int .i64 (to : Int), .string ⟨s.toArray⟩, .string ⟨#[]⟩, .slice PA pn pc, .int .i64 0] 26)).heap[w1.heap.size]? = some (.cells #[.string ⟨s.toArray⟩, .slice PA pn pc, .bool true] 87) := by
        rw [Below.heap_alloc _ _ _ (by simp)]
        exact hq
      exact cell_of 2 this
    have hq4 : ((w1.alloc (.cells #[.string ⟨s.toArray⟩, .slice PA pn pc, .bool true] 87)).alloc (.cells #[.int .i64 8, .int .i64 0, .int .i64 (to : Int), .string ⟨s.toArray⟩, .string ⟨#[]⟩, .slice PA pn pc, .int .i64 0] 26)).heap[w1.heap.size + 1]? = some (.cells #[.int .i64 8, .int .i64 0, .int .i64 (to : Int), .string ⟨s.toArray⟩, .string ⟨#[]⟩, .slice PA pn pc, .int .i64 0] 26) := by
      have := hp_new (w1.alloc (.cells #[.string ⟨s.toArray⟩, .slice PA pn pc, .bool true] 87)) (.cells #[.int .i64 8, .int .i64 0, .int .i64 (to : Int), .string ⟨s.toArray⟩, .string ⟨#[]⟩, .slice PA pn pc, .int .i64 0] 26)
      rwa [World.size_alloc] at this
    have J4 := Lib.hid (J1.kept kb)
    have HQ4 := Lib.hid hq4
    have JF := Lib.hid (J4.out.row #[.int .i64 8, .int .i64 0, .int .i64 (to : Int), .string ⟨s.toArray⟩, .string ⟨#[]⟩, .slice PA pn pc, .int .i64 0])
    clear hpr hb hlo J1 ka kb hq hq4
    go_wp2_with (first | (refine wpList_load_row rfl _ _ rfl (w1.heap.size + 1) rfl _ _ _ _ HQ4.out HU.out.2 rfl HU.out.1 ?_) | (refine wpList_store_row rfl _ _ _ rfl w.heap.size #[.int .i64 8, .int .i64 0, .int .i64 (to : Int), .string ⟨s.toArray⟩, .string ⟨#[]⟩, .slice PA pn pc, .int .i64 0] rfl rfl _ _ J4.out.2 (by kernel_rfl) rfl (by kernel_rfl) ?_))
    (try simp only [Exit.inBlock, Exit.then])
    refine bodyPost_ret (results_cell2 rfl _ _ w.heap.size _ _ _ _ rfl JF.out.2 HU.out.2 rfl HU.out.1) rfl ⟨⟨⟨8, 0, (to : Int), s, [], ps, 0⟩, PA, pn, pc⟩, rfl, rfl, HP.out.1.move ?_ ?_, JF.out.1, fun b i h => Nat.le_of_lt (HP.out.2 b i h)⟩
    · simp [World.setRow]; omega
    · intro b' i' hA hb'
      have hlt := HP.out.2 b' i' hA
      rw [setRow_at _ _ _ _ (by omega), Below.heap_alloc _ _ _ (by simp; omega), Below.heap_alloc _ _ _ hb']
set_option maxRecDepth 100000 in
set_option maxHeartbeats 8000000 in
theorem tokText_c (A : Option Addr) (n cap : Nat) (l : List UInt8) (k : Nat) (w : World) (h : Byt w w.heap.size A n cap l) (hW : W11 w) (hm : n ≤ 40000) (hk : k ≤ n) :
    Calls Tryz.prog 68 #[.slice A n cap, .int .i64 (k : Int)] w fun e w' => TokPost (textTok l k) w e w' := by
  have hln := h.length
  have hJ := CJ.start 26 w #[.int .i64 0, .int .i64 0, .int .i64 0, .string ⟨#[]⟩, .string ⟨#[]⟩, .slice none 0 0, .int .i64 0]
  have hi : (Tryz.prog.info? 26).map (·.size) = some 7 := by kernel_rfl
  obtain ⟨d, hu⟩ := isStruct_of (P := Tryz.prog) (t := 26) (by kernel_rfl)
  have HU := Lib.hid (And.intro hi hu)
  have hB := (h.below hJ.1).more hJ.1.size
  have hX := ix_txt (l.drop k)
  have hld : (l.drop k).length = n - k := by rw [List.length_drop, hln]
  have htl := txt_le (l.drop k)
  have hpre : txt (l.drop k) = (l.drop k).take (txt (l.drop k)).length := List.prefix_iff_eq_take.1 (List.takeWhile_prefix _)
  have C1 := Lib.hid (indexAm_c _ _ _ _ _ (hB.drop hk) (hW.below hJ.1).u8 (hW.below hJ.1).maxl (by omega))
  have C2 : Hid (∀ W, Below w.heap.size w W → Calls Tryz.prog 45 #[.string ⟨(txt (l.drop k)).toArray⟩, .string ⟨#[93, 93, 62]⟩] W fun e w' => e = .returned (.bool (Lib.contains (txt (l.drop k)) [93, 93, 62])) ∧ W = w') := Lib.hid fun W hb => contains_c (txt (l.drop k)) [93, 93, 62] W (hW.below hb).maxl (by omega)
  have hst : ∀ W, Below w.heap.size w W → (convert 22 9 (.slice (cutA A cap k) (txt (l.drop k)).length (cap - k))).run Tryz.prog W = .ok (.string ⟨(txt (l.drop k)).toArray⟩) W := fun W hb => by
    have := (((h.below hb).drop hk).take (k := (txt (l.drop k)).length) (by omega)).str
    rwa [← hpre] at this
  have hrf := fun W : World => run_from (w := W) A n cap k hk
  have hcap := h.le
  have hft := fun W : World => run_fromTo (w := W) A n cap k (k + (txt (l.drop k)).length) (by omega) (by omega)
  unfold textTok
  rw [hX] at C1
  have J0 := Lib.hid hJ
  clear h hW hJ hi hu hB hX hpre
  generalize txt (l.drop k) = s at *
  have hk0 : (0 : Int) ≤ (k : Int) := by omega
  have hk1 : (k : Int) ≤ 40000 := by omega
  have hs1 : (s.length : Int) ≤ 40000 := by omega
  rw [show ((k + s.length : Nat) : Int) = (k : Int) + (s.length : Int) by omega, show k + s.length - k = s.length by omega] at hft
  rw [show ((k + s.length : Nat) : Int) = (k : Int) + (s.length : Int) by omega]
  generalize Lib.contains s [93, 93, 62] = ct at *
  rw [hld] at C1
  by_cases hsl : s.length < n - k
  · rw [if_pos hsl] at C1
    have hs0 : ¬ (s.length : Int) < 0 := by omega
    have HST := Lib.hid hst
    cases ct
    · simp only [Bool.false_eq_true, if_false]
      go_enter Tryz.func68, Tryz.ntmps68
      go_wp2_with fail
      refine C1.out.mono ?_
      rintro e0 w1 ⟨rfl, hb⟩
      have J1 := Lib.hid (J0.out.kept hb)
      have hst1 := HST.out w1 J1.out.1
      have JF := Lib.hid (J1.out.row #[.int .i64 1, .int .i64 0, .int .i64 ((k : Int) + (s.length : Int)), .string ⟨#[]⟩, .string ⟨s.toArray⟩, .slice none 0 0, .int .i64 0])
      clear hb
      go_wp2_with fail
      refine (C2.out _ J1.out.1).mono ?_
      rintro e0 wq ⟨rfl, hwq⟩
      subst hwq
      go_wp2_with (refine wpList_store_row rfl _ _ _ rfl w.heap.size #[.int .i64 1, .int .i64 0, .int .i64 ((k : Int) + (s.length : Int)), .string ⟨#[]⟩, .string ⟨s.toArray⟩, .slice none 0 0, .int .i64 0] rfl rfl _ _ J1.out.2 (by kernel_rfl) rfl (by kernel_rfl) ?_)
      (try simp only [Exit.inBlock, Exit.then])
      exact bodyPost_ret (results_cell2 rfl _ _ w.heap.size _ _ _ _ rfl JF.out.2 HU.out.2 rfl HU.out.1) rfl ⟨⟨⟨1, 0, (k : Int) + (s.length : Int), [], s, [], 0⟩, none, 0, 0⟩, rfl, rfl, PRd.nilR _ _, JF.out.1, fun b i h => by cases h⟩
    · simp only [if_true]
      go_enter Tryz.func68, Tryz.ntmps68
      go_wp2_with fail
      refine C1.out.mono ?_
      rintro e0 w1 ⟨rfl, hb⟩
      have J1 := Lib.hid (J0.out.kept hb)
      have hst1 := HST.out w1 J1.out.1
      have JF := Lib.hid (J1.out.row #[.int .i64 0, .int .i64 0, .int .i64 0, .string ⟨#[]⟩, .string ⟨#[]⟩, .slice none 0 0, .int .i64 0])
      clear hb
      go_wp2_with fail
      refine (C2.out _ J1.out.1).mono ?_
      rintro e0 wq ⟨rfl, hwq⟩
      subst hwq
      go_wp2_with (refine wpList_store_row rfl _ _ _ rfl w.heap.size #[.int .i64 0, .int .i64 0, .int .i64 0, .string ⟨#[]⟩, .string ⟨#[]⟩, .slice none 0 0, .int .i64 0] rfl rfl _ _ J1.out.2 (by kernel_rfl) rfl (by kernel_rfl) ?_)
      (try simp only [Exit.inBlock, Exit.then])
      exact bodyPost_ret (results_cell2 rfl _ _ w.heap.size _ _ _ _ rfl JF.out.2 HU.out.2 rfl HU.out.1) rfl ⟨⟨noTok, none, 0, 0⟩, rfl, rfl, PRd.nilR _ _, JF.out.1, fun b i h => by cases h⟩
  · rw [if_neg hsl] at C1
    have hse : s.length = n - k := by omega
    have hnk : (n : Int) - (k : Int) = (s.length : Int) := by omega
    clear hse hsl
    have HST := Lib.hid hst
    cases ct
    · simp only [Bool.false_eq_true, if_false]
      go_enter Tryz.func68, Tryz.ntmps68
      go_wp2_with fail
      refine C1.out.mono ?_
      rintro e0 w1 ⟨rfl, hb⟩
      have J1 := Lib.hid (J0.out.kept hb)
      have hst1 := HST.out w1 J1.out.1
      have JF := Lib.hid (J1.out.row #[.int .i64 1, .int .i64 0, .int .i64 ((k : Int) + (s.length : Int)), .string ⟨#[]⟩, .string ⟨s.toArray⟩, .slice none 0 0, .int .i64 0])
      clear hb
      go_wp2_with fail
      refine (C2.out _ J1.out.1).mono ?_
      rintro e0 wq ⟨rfl, hwq⟩
      subst hwq
      go_wp2_with (refine wpList_store_row rfl _ _ _ rfl w.heap.size #[.int .i64 1, .int .i64 0, .int .i64 ((k : Int) + (s.length : Int)), .string ⟨#[]⟩, .string ⟨s.toArray⟩, .slice none 0 0, .int .i64 0] rfl rfl _ _ J1.out.2 (by kernel_rfl) rfl (by kernel_rfl) ?_)
      (try simp only [Exit.inBlock, Exit.then])
      exact bodyPost_ret (results_cell2 rfl _ _ w.heap.size _ _ _ _ rfl JF.out.2 HU.out.2 rfl HU.out.1) rfl ⟨⟨⟨1, 0, (k : Int) + (s.length : Int), [], s, [], 0⟩, none, 0, 0⟩, rfl, rfl, PRd.nilR _ _, JF.out.1, fun b i h => by cases h⟩
    · simp only [if_true]
      go_enter Tryz.func68, Tryz.ntmps68
      go_wp2_with fail
      refine C1.out.mono ?_
      rintro e0 w1 ⟨rfl, hb⟩
      have J1 := Lib.hid (J0.out.kept hb)
      have hst1 := HST.out w1 J1.out.1
      have JF := Lib.hid (J1.out.row #[.int .i64 0, .int .i64 0, .int .i64 0, .string ⟨#[]⟩, .string ⟨#[]⟩, .slice none 0 0, .int .i64 0])
      clear hb
      go_wp2_with fail
      refine (C2.out _ J1.out.1).mono ?_
      rintro e0 wq ⟨rfl, hwq⟩
      subst hwq
      go_wp2_with (refine wpList_store_row rfl _ _ _ rfl w.heap.size #[.int .i64 0, .int .i64 0, .int .i64 0, .string ⟨#[]⟩, .string ⟨#[]⟩, .slice none 0 0, .int .i64 0] rfl rfl _ _ J1.out.2 (by kernel_rfl) rfl (by kernel_rfl) ?_)
      (try simp only [Exit.inBlock, Exit.then])
      exact bodyPost_ret (results_cell2 rfl _ _ w.heap.size _ _ _ _ rfl JF.out.2 HU.out.2 rfl HU.out.1) rfl ⟨⟨noTok, none, 0, 0⟩, rfl, rfl, PRd.nilR _ _, JF.out.1, fun b i h => by cases h⟩
end Go.Proofs.YtmclngahdklfkaaGreatDoor
/- What a token's reading leaves. -/
namespace Go.Proofs.YtmclngahdklfkaaGreatDoor
open Go.ChangeShapes Go.WideShapes Go.ChangeAt Go.RowKit
set_option linter.unusedVariables false
theorem TokPost.out {o : TokL × Nat} {w w' : World} {e : Ending} (h : TokPost o w e w') : ∃ PA pn pc, e = .returned (.tuple #[.agg #[.int .i64 o.1.kind, .int .i64 o.1.fro, .int .i64 o.1.to_, .string ⟨o.1.name.toArray⟩, .string ⟨o.1.text.toArray⟩, .slice PA pn pc, .int .i64 o.1.r], .int .i64 (o.2 : Int)]) ∧ PRd w' w'.heap.size PA pn pc o.1.pairs ∧ Below w.heap.size w w' ∧ ∀ b i, PA = some ⟨b, i, none⟩ → w.heap.size ≤ b := by
  obtain ⟨v, hv, he, hp, hb, hl⟩ := h
  refine ⟨v.A, v.n, v.c, ?_, by rw [← hv]; exact hp, hb, hl⟩
  rw [he, ← hv]
  rfl
theorem TokPost.of {o : TokL × Nat} {w w' : World} {e : Ending} (PA : Option Addr) (pn pc : Nat) (he : e = .returned (.tuple #[.agg #[.int .i64 o.1.kind, .int .i64 o.1.fro, .int .i64 o.1.to_, .string ⟨o.1.name.toArray⟩, .string ⟨o.1.text.toArray⟩, .slice PA pn pc, .int .i64 o.1.r], .int .i64 (o.2 : Int)])) (hp : PRd w' w'.heap.size PA pn pc o.1.pairs) (hb : Below w.heap.size w w') (hl : ∀ b i, PA = some ⟨b, i, none⟩ → w.heap.size ≤ b) : TokPost o w e w' :=
  ⟨⟨o.1, PA, pn, pc⟩, rfl, he, hp, hb, hl⟩
theorem TokPost.no {x : Nat} {w w' : World} {e : Ending} (he : e = .returned (.tuple #[.agg #[.int .i64 0, .int .i64 0, .int .i64 0, .string ⟨#[]⟩, .string ⟨#[]⟩, .slice none 0 0, .int .i64 0], .int .i64 (x : Int)])) (hb : Below w.heap.size w w') : TokPost (noTok, x) w e w' :=
  TokPost.of none 0 0 he (PRd.nilR _ _) hb (fun b i h => by cases h)
end Go.Proofs.YtmclngahdklfkaaGreatDoor
