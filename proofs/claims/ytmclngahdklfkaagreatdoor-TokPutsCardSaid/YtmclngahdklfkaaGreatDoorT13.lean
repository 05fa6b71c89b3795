/- Texts of ours, joined: IxB2, IxB3, IxB4, Tok1, Tag8, Tag9, Tok3a, Tok4, Tok4c, Known, EscP, Text, TkP, TkW. -/
import Derived.Test.YtmclngahdklfkaaGreatDoorRows
import Derived.WalkKit
import Derived.ProofKit
import Derived.OpenShut
import Derived.ShutString
import Derived.ChangeOld
import Derived.Below
import Derived.BigQuiet
import Derived.Deep.QuietTactic
import Derived.Lib.Hide
import Derived.Deep.RegionHeld3
import Derived.Lib.SlBytesConst
import Derived.Laws.CopyOwn
import Derived.Laws.CopyRow
import Derived.Lib.Bytes
import Derived.Deep.LoopGhost
import Derived.Deep.DeepFit
import Derived.Deep.DeepMust
import Derived.WalkSpells
import Derived.WalkLawsBesides
import Derived.Lib.AsciiSet
import Derived.Deep.WholeRow
import Derived.Laws.ResultCell
import Derived.Laws.RangeString
import Derived.Laws.Runes
import Derived.Laws.RangeAny
import Derived.Laws.Rows
import Derived.LoopN
import Derived.Lib.IndexAny
import Derived.Lib.IndexBytes
import Derived.Lib.Bytealg
import Derived.Lib.IndexEntry
import Derived.Laws.Externs
import Derived.Test.YtmclngahdklfkaaGreatDoorT1
import Derived.Test.YtmclngahdklfkaaGreatDoorT6
import Derived.Test.YtmclngahdklfkaaGreatDoorT4
import Derived.Test.YtmclngahdklfkaaGreatDoorT5
import Derived.Test.YtmclngahdklfkaaGreatDoorT8
import Derived.Test.YtmclngahdklfkaaGreatDoorT9
import Derived.Test.YtmclngahdklfkaaGreatDoorT10
import Derived.Test.YtmclngahdklfkaaGreatDoorT12
import Derived.Test.YtmclngahdklfkaaGreatDoorT11
import Derived.Maps.OwnOps
import Derived.Maps.OwnSet
import Derived.Maps.Views
import Derived.Laws.EntriesVeiled
import Derived.Maps.AppendAt
import Derived.Lib.SmallJoins
import Derived.Test.YtmclngahdklfkaaGreatDoorT2
import Derived.Test.YtmclngahdklfkaaGreatDoorT7
import Derived.Lib.AppendIntMem
import Derived.Deep.AppendLies
import Derived.Deep.RegionLaw
import Derived.Deep.RegionWith
/- bytes.IndexAny of '<' and '&': its parts. -/
namespace Go.Proofs.YtmclngahdklfkaaGreatDoor
open Go.ChangeShapes Go.WideShapes Go.ChangeAt Go.RowKit
set_option linter.unusedVariables false
theorem decN_cases (n b0 b1 b2 b3 : Nat) (h0 : 128 ≤ b0) (hb : b0 < 256) : (Lib.decodeN n b0 b1 b2 b3 = (65533, 1)) ∨
    ((Lib.decodeN n b0 b1 b2 b3).2 = 2 ∧ 128 ≤ (Lib.decodeN n b0 b1 b2 b3).1 ∧ (Lib.decodeN n b0 b1 b2 b3).1 < 2048) ∨
    ((Lib.decodeN n b0 b1 b2 b3).2 = 3 ∧ 2048 ≤ (Lib.decodeN n b0 b1 b2 b3).1 ∧ (Lib.decodeN n b0 b1 b2 b3).1 < 65536 ∧ ((Lib.decodeN n b0 b1 b2 b3).1 < 55296 ∨ 57344 ≤ (Lib.decodeN n b0 b1 b2 b3).1)) ∨
    ((Lib.decodeN n b0 b1 b2 b3).2 = 4 ∧ 65536 ≤ (Lib.decodeN n b0 b1 b2 b3).1 ∧ (Lib.decodeN n b0 b1 b2 b3).1 ≤ 1114111) := by
  unfold Lib.decodeN
  rw [if_neg (by omega)]
  repeat' split
  all_goals first | exact .inl rfl | exact .inr (.inl ⟨rfl, by show 128 ≤ _; omega, by show _ < 2048; omega⟩) | exact .inr (.inr (.inl ⟨rfl, by show 2048 ≤ _; omega, by show _ < 65536; omega, by show _ < 55296 ∨ 57344 ≤ _; omega⟩)) | exact .inr (.inr (.inr ⟨rfl, by show 65536 ≤ _; omega, by show _ ≤ 1114111; omega⟩))
theorem enc2 (r : Nat) (h0 : 128 ≤ r) (h1 : r < 2048) : ∃ a b : UInt8, Utf8.encode (r : Int) = ⟨#[a, b]⟩ ∧ 128 ≤ b.toNat := by
  rcases enc_cases (r : Int) (by omega) with h | ⟨a, b, c, h⟩ | ⟨a, b, c, d, h⟩
  · exact h
  all_goals
    exfalso
    unfold Utf8.encode at h
    have hv : Utf8.valid (r : Int) = true := by unfold Utf8.valid; simp; omega
    simp only [hv, if_true, Int.toNat_natCast] at h
    rw [if_neg (by omega), if_pos (by omega)] at h
    have := congrArg ByteArray.size h
    simp [ByteArray.size] at this
theorem enc3 (r : Nat) (h0 : 2048 ≤ r) (h1 : r < 65536) (h2 : r < 55296 ∨ 57344 ≤ r) : ∃ a b c : UInt8, Utf8.encode (r : Int) = ⟨#[a, b, c]⟩ := by
  unfold Utf8.encode
  have hv : Utf8.valid (r : Int) = true := by unfold Utf8.valid; simp; omega
  simp only [hv, if_true, Int.toNat_natCast]
  rw [if_neg (by omega), if_neg (by omega), if_pos (by omega)]
  exact ⟨_, _, _, rfl⟩
theorem enc4 (r : Nat) (h0 : 65536 ≤ r) (h1 : r ≤ 1114111) : ∃ a b c d : UInt8, Utf8.encode (r : Int) = ⟨#[a, b, c, d]⟩ := by
  unfold Utf8.encode
  have hv : Utf8.valid (r : Int) = true := by unfold Utf8.valid; simp; omega
  simp only [hv, if_true, Int.toNat_natCast]
  rw [if_neg (by omega), if_neg (by omega), if_neg (by omega)]
  exact ⟨_, _, _, _, rfl⟩
theorem decU_cases (l : List UInt8) (c : UInt8) (hc : l[0]? = some c) (h : 128 ≤ c.toNat) : decU l = (65533, 1) ∨ ((decU l).2 = 2 ∧ 128 ≤ (decU l).1 ∧ (decU l).1 < 2048) ∨ ((decU l).2 = 3 ∧ 2048 ≤ (decU l).1 ∧ (decU l).1 < 65536 ∧ ((decU l).1 < 55296 ∨ 57344 ≤ (decU l).1)) ∨ ((decU l).2 = 4 ∧ 65536 ≤ (decU l).1 ∧ (decU l).1 ≤ 1114111) := by
  unfold decU
  rw [Lib.decode_at]
  have : (⟨l.toArray⟩ : ByteArray).get! 0 = c := getB hc
  rw [this]
  exact decN_cases _ _ _ _ _ h c.toNat_lt
theorem decU_span (l : List UInt8) (c : UInt8) (hc : l[0]? = some c) (h : 128 ≤ c.toNat) : 1 ≤ (decU l).2 ∧ (decU l).2 ≤ l.length ∧ ∀ j b, j < (decU l).2 → l[j]? = some b → 128 ≤ b.toNat := by
  have hk := (List.getElem?_eq_some_iff.1 hc).1
  have hs : (⟨l.toArray⟩ : ByteArray).size = l.length := by simp [ByteArray.size]
  have h0 : 128 ≤ ((⟨l.toArray⟩ : ByteArray)[0]'(by rw [hs]; exact hk)).toNat := by
    have e : (⟨l.toArray⟩ : ByteArray)[0]'(by rw [hs]; exact hk) = l[0] := rfl
    rw [List.getElem?_eq_getElem hk] at hc
    cases hc
    rw [e]
    exact h
  have h1 := decode_span ⟨l.toArray⟩ 0 (by rw [hs]; exact hk) h0
  have h2 := decode_high ⟨l.toArray⟩ 0 (by rw [hs]; exact hk) h0
  refine ⟨h2.2, by have := h1.1; rw [hs, Nat.zero_add] at this; exact this, fun j b hj hb => ?_⟩
  obtain ⟨hj', hh⟩ := h1.2 j (Nat.zero_le _) (by rw [Nat.zero_add]; exact hj)
  have e : (⟨l.toArray⟩ : ByteArray)[j]'hj' = l[j]'(by rw [← hs]; exact hj') := rfl
  rw [e] at hh
  rw [List.getElem?_eq_getElem (by rw [← hs]; exact hj')] at hb
  cases hb
  exact hh
set_option maxRecDepth 100000 in
set_option maxHeartbeats 4000000 in
theorem decRune_c (b o n cap : Nat) (l : List UInt8) (w : World) (h : Byt w w.heap.size (some ⟨b, o, none⟩) n cap l) (hn : 0 < n) (hm : n ≤ 1000000) (hT : Lib.Utf8Tabs 8 9 w) (c0 : UInt8) (hc : l[0]? = some c0) (h128 : 128 ≤ c0.toNat) :
    Calls Tryz.prog 140 #[.slice (some ⟨b, o, none⟩) n cap] w fun e w' => e = .returned (.tuple #[.int .i32 (decU l).1, .int .i64 (decU l).2]) ∧ Below w.heap.size w w' := by
  have C := Lib.hid (decSlow_c b o n cap l w h hn hm hT c0 hc h128)
  have hcell : w.cell? ⟨b, o, none⟩ = some (.int .u8 c0.toNat) := by
    obtain ⟨b', o', c', e, hb, h1, h2⟩ := h.cell hn
    cases e
    rw [hc] at h1
    cases h1
    exact h2
  have hn0 : (0 : Int) < (n : Int) := by omega
  have hc0 : ¬ (c0.toNat : Int) < 128 := by omega
  generalize decU l = dc at *
  clear h hT hc
  go_enter Tryz.func140, Tryz.ntmps140
  go_wp2_with fail
  go_loopg [8] 1 (fun g i wr => i = .int .i64 0 ∧ wr = w)
  case atStart => exact ⟨rfl, rfl⟩
  case round =>
    obtain ⟨rfl, rfl⟩ := hrel
    go_wp2_with fail
    refine C.out.mono ?_
    rintro e w1 ⟨rfl, hb⟩
    have B := Lib.hid hb
    clear hb
    go_wp2
    go_ret2
    exact ⟨rfl, B.out⟩
theorem ix_long (s sub : List UInt8) (h : s.length < sub.length) : Lib.index s sub = -1 := by
  rcases Lib.index_spec s sub with ⟨h1, _⟩ | ⟨i, h1, hi, ho, _⟩
  · exact h1
  · exfalso
    unfold Lib.occAt at ho
    have := (List.isPrefixOf_iff_prefix.1 ho).length_le
    rw [List.length_drop] at this
    omega
theorem run_ixByte (c : UInt8) (W : World) : (callFunc 135 #[.string ⟨#[60, 38]⟩, .int .u8 (c.toNat : Int)]).run Tryz.prog W = .ok (.value (.int .i64 (Lib.indexByte amL c))) W := by
  rw [run_callFunc_extern Tryz.func135 (by kernel_rfl) (by kernel_rfl) (by kernel_rfl) (e := Extern.BytealgIndexByte.indexByte) (by kernel_rfl), Lib.run_indexByteString]
  simp only [Result.andThen]
  have : ((c.toNat : Int)).toNat.toUInt8 = c := by simp
  rw [this]
  rfl
theorem run_ixStr (z : ByteArray) (m : Int) (W : World) (hM : W.cell? ⟨1, 0, none⟩ = some (.int .i64 m)) (h3 : 3 ≤ z.size) (hm : (z.size : Int) ≤ m) :
    (callFunc 141 #[.string ⟨#[60, 38]⟩, .string z]).run Tryz.prog W = .ok (.value (.int .i64 (-1))) W := by
  rw [run_callFunc_extern Tryz.func141 (by kernel_rfl) (by kernel_rfl) (by kernel_rfl) (e := Extern.BytealgIndex.index) (by kernel_rfl), Lib.run_indexString ⟨#[60, 38]⟩ z W 1 m (by kernel_rfl) hM (by omega) hm (by decide)]
  simp only [Result.andThen]
  rw [ix_long _ _ (by rw [Lib.size_eq] at h3; show 2 < _; omega)]
end Go.Proofs.YtmclngahdklfkaaGreatDoor
/- bytes.IndexAny of '<' and '&'. -/
namespace Go.Proofs.YtmclngahdklfkaaGreatDoor
open Go.ChangeShapes Go.WideShapes Go.ChangeAt Go.RowKit
set_option linter.unusedVariables false
set_option maxRecDepth 100000 in
set_option maxHeartbeats 8000000 in
theorem ixAm_long (A : Option Addr) (n cap : Nat) (l : List UInt8) (w : World) (h : Byt w w.heap.size A n cap l) (hm : n ≤ 1000000) (h8 : 8 < n) :
    Calls Tryz.prog 102 #[.slice A n cap, .string ⟨#[60, 38]⟩] w fun e w' => e = .returned (.int .i64 (Lib.indexAny l amL)) ∧ Below w.heap.size w w' := by
  have hln := h.length
  have hi := (zero_of_info (P := Tryz.prog) set_info).2
  have h8z : decide ((8 : Int) < (n : Int)) = true := decide_eq_true (by omega)
  have n1 : ((n : Int) == 1) = false := by simp; omega
  have CU := Lib.hid fun W => useSet_c (n : Int) W
  have CM := Lib.hid (amSet_c w)
  obtain ⟨S, hS⟩ : ∃ S, Lib.setCells amL = S := ⟨_, rfl⟩
  have hsz := Lib.setCells_size amL
  have h1 := Lib.setCells_one amL
  have hat := fun x : UInt8 => Lib.setCells_at amL x
  rw [hS] at CM hsz hat h1
  have hsc := run_storeCells_new (P := Tryz.prog) (w.alloc (.cells S 157)) 157 Tryz.zeroCells157 S (by rw [hsz]; exact hi) (by rw [hsz]; rfl) h1
  rw [World.size_alloc] at hsc
  have HB := Lib.hid h
  have hW2 := hp_new (w.alloc (.cells S 157)) (.cells S 157)
  rw [World.size_alloc] at hW2
  have hB2 : Below w.heap.size w ((w.alloc (.cells S 157)).alloc (.cells S 157)) := ((Below.refl w.heap.size w).alloc (Nat.le_refl _) (.cells S 157)).alloc (by simp) (.cells S 157)
  have H2 := Lib.hid (And.intro hW2 hB2)
  have HA := Lib.hid hat
  have HLn := Lib.hid hln
  clear h hi hat hS hW2 hB2 hln h1
  go_enter Tryz.func102, Tryz.ntmps102
  go_wp2_with fail
  refine (CU.out _).mono ?_
  rintro e w1 ⟨rfl, hw⟩
  rw [hw, h8z]
  clear hw w1
  go_wp2_with fail
  refine CM.out.mono ?_
  rintro e w1 ⟨rfl, hw⟩
  subst hw
  go_wp2_with fail
  clear hsc hsz
  have hsz2 : w.heap.size + 2 = w.heap.size + 1 + 1 := rfl
  generalize (w.alloc (.cells S 157)).alloc (.cells S 157) = w2 at *
  have CH : Hid (∀ x : UInt8, Calls Tryz.prog 139 #[.pointer (some ⟨w.heap.size + 1, 0, none⟩), .int .u8 x.toNat] w2 fun e w' => e = .returned (.bool (amL.contains x)) ∧ w' = w2) := Lib.hid fun x => setHas_c (w.heap.size + 1) x _ w2 (by rw [cell_of _ H2.out.1]; exact HA.out x)
  go_loopg [62] n (fun g i wr => ∃ t : Nat, i = .int .i64 (t : Int) ∧ t ≤ n ∧ Hid (g + t = n) ∧ wr = w2 ∧ Hid (Lib.NoAny l amL t))
  case atStart => exact ⟨0, rfl, Nat.zero_le _, Lib.hid (by omega), rfl, Lib.hid (Lib.NoAny.zero _ _)⟩
  case round =>
    obtain ⟨t, rfl, ht, hg, rfl, HN⟩ := hrel
    by_cases htn : t < n
    · have hti : (t : Int) < (n : Int) := by omega
      obtain ⟨b, o, c, rfl, hbB, hc, hcell⟩ := (HB.out.below H2.out.2).cell htn
      have HC := Lib.hid hc
      have CH1 := Lib.hid (CH.out c)
      clear hc
      cases hq : amL.contains c with
      | true =>
        have HI := Lib.hid (Lib.indexAny_hit HN.out HC.out hq)
        rw [hq] at CH1
        go_wp2_with fail
        refine CH1.out.mono ?_
        rintro e w3 ⟨rfl, rfl⟩
        go_wp2
        go_ret
        rw [HI.out]
        exact ⟨rfl, H2.out.2⟩
      | false =>
        have HN2 := Lib.hid (HN.out.succ HC.out hq)
        rw [hq] at CH1
        go_wp2_with fail
        refine CH1.out.mono ?_
        rintro e w3 ⟨rfl, rfl⟩
        go_wp2
        go_roundg (n - (t + 1))
        case measure => have := hg.out; omega
        case rel => exact ⟨t + 1, by go_num, by omega, Lib.hid (by omega), rfl, HN2⟩
    · have hti : ¬ (t : Int) < (n : Int) := by omega
      have HI : Hid (Lib.indexAny l amL = -1) := Lib.hid (Lib.indexAny_none (by have := HN.out; rwa [show t = l.length by rw [HLn.out]; omega] at this))
      go_wp2
      go_ret
      rw [HI.out]
      exact ⟨rfl, H2.out.2⟩
end Go.Proofs.YtmclngahdklfkaaGreatDoor
/- bytes.IndexAny at short rows. -/
namespace Go.Proofs.YtmclngahdklfkaaGreatDoor
open Go.ChangeShapes Go.WideShapes Go.ChangeAt Go.RowKit
set_option linter.unusedVariables false
theorem utf8_below {a b B : Nat} {w w' : World} (h : Lib.Utf8Tabs a b w) (hb : Below B w w') (ha : a < B) (hb' : b < B) : Lib.Utf8Tabs a b w' :=
  ⟨fun c hc => (hb.cell (p := ⟨a, c, none⟩) ha).trans (h.1 c hc), fun i hi => ⟨(hb.cell (p := ⟨b, _, none⟩) hb').trans (h.2 i hi).1, (hb.cell (p := ⟨b, _, none⟩) hb').trans (h.2 i hi).2⟩⟩
theorem utf8_lt {a b : Nat} {w : World} (h : Lib.Utf8Tabs a b w) : a < w.heap.size ∧ b < w.heap.size :=
  ⟨World.block_lt_of_cell? w _ (h.1 0 (by decide)), World.block_lt_of_cell? w _ (h.2 0 (by decide)).1⟩
theorem ixb_ge {c : UInt8} (h : amL.contains c = true) : (0 : Int) ≤ Lib.indexByte amL c := by
  have := Lib.contains_iff_indexByte amL c
  rw [h] at this
  exact of_decide_eq_true this.symm
theorem ixb_lt {c : UInt8} (h : amL.contains c = false) : ¬ (0 : Int) ≤ Lib.indexByte amL c := by
  have := Lib.contains_iff_indexByte amL c
  rw [h] at this
  exact of_decide_eq_false this.symm
set_option maxRecDepth 100000 in
set_option maxHeartbeats 8000000 in
theorem ixAm_one (A : Option Addr) (cap : Nat) (l : List UInt8) (w : World) (h : Byt w w.heap.size A 1 cap l) :
    Calls Tryz.prog 102 #[.slice A 1 cap, .string ⟨#[60, 38]⟩] w fun e w' => e = .returned (.int .i64 (Lib.indexAny l amL)) ∧ Below w.heap.size w w' := by
  have hln := h.length
  obtain ⟨b, o, c, rfl, hbB, hc, hcell⟩ := h.cell (i := 0) (by decide)
  obtain rfl : l = [c] := by
    match l, hln with
    | [x], _ => simp at hc; subst hc; rfl
  rw [Nat.add_zero] at hcell
  have hix := fun W => run_ixByte c W
  have c0 : (0 : Int) ≤ (c.toNat : Int) := by omega
  have c9 : (c.toNat : Int) ≤ 255 := by have := c.toNat_lt; omega
  clear h hln hc
  by_cases h128 : c.toNat < 128
  · have hci : ¬ (128 : Int) ≤ (c.toNat : Int) := by omega
    have hix1 : Lib.indexAny [c] amL = if amL.contains c = true then 0 else -1 := by
      unfold Lib.indexAny
      split
      · rfl
      · rfl
    rw [hix1]
    clear hix1
    cases hq : amL.contains c with
    | true =>
      have hg := ixb_ge hq
      generalize Lib.indexByte amL c = X at *
      go_enter Tryz.func102, Tryz.ntmps102
      go_wp2
      go_ret
      exact ⟨rfl, Below.refl _ _⟩
    | false =>
      have hg := ixb_lt hq
      generalize Lib.indexByte amL c = X at *
      go_enter Tryz.func102, Tryz.ntmps102
      go_wp2
      go_ret
      exact ⟨rfl, Below.refl _ _⟩
  · have hci : (128 : Int) ≤ (c.toNat : Int) := by omega
    have hix1 : Lib.indexAny [c] amL = -1 := by
      unfold Lib.indexAny
      rw [am_no c (by omega)]
      rfl
    rw [hix1]
    clear hix1 hix
    go_enter Tryz.func102, Tryz.ntmps102
    go_wp2_with fail
    go_loopg [5] 2 (fun g _ wx => ∃ i : Nat, i + g = 2 ∧ wx = w.iter ⟨#[60, 38]⟩ i)
    case atStart => exact ⟨0, by omega, rfl⟩
    case round =>
      obtain ⟨i, hig, rfl⟩ := hrel
      cases gk with
      | zero =>
        obtain rfl : i = 2 := by omega
        have hnx := fun ty => run_next_end (P := Tryz.prog) w ⟨#[60, 38]⟩ 2 ty (by decide)
        go_wp2
        go_ret
        exact ⟨rfl, (Below.refl _ _).alloc (Nat.le_refl _) _⟩
      | succ g =>
        have hi : i = 0 ∨ i = 1 := by omega
        rcases hi with rfl | rfl
        · have hnx := fun ty => run_next_ascii (P := Tryz.prog) w ⟨#[60, 38]⟩ 0 ty (by decide) (by decide)
          rw [show ((⟨#[60, 38]⟩ : ByteArray)[0]'(by decide)).toNat = 60 by rfl] at hnx
          go_wp2
          go_roundg g
          case measure => omega
          case rel => exact ⟨1, by omega, rfl⟩
        · have hnx := fun ty => run_next_ascii (P := Tryz.prog) w ⟨#[60, 38]⟩ 1 ty (by decide) (by decide)
          rw [show ((⟨#[60, 38]⟩ : ByteArray)[1]'(by decide)).toNat = 38 by rfl] at hnx
          go_wp2
          go_roundg g
          case measure => omega
          case rel => exact ⟨2, by omega, rfl⟩
theorem dec60 : Utf8.decode ⟨#[60, 38]⟩ 0 = (60, 1) := by kernel_rfl
theorem dec38 : Utf8.decode ⟨#[60, 38]⟩ 1 = (38, 1) := by kernel_rfl
set_option maxRecDepth 100000 in
set_option maxHeartbeats 8000000 in
theorem ixAm_short (A : Option Addr) (n cap : Nat) (l : List UInt8) (w : World) (h : Byt w w.heap.size A n cap l) (hT : Lib.Utf8Tabs 8 9 w) (hM : MaxL w) (hm : n ≤ 8) (hn1 : n ≠ 1) :
    Calls Tryz.prog 102 #[.slice A n cap, .string ⟨#[60, 38]⟩] w fun e w' => e = .returned (.int .i64 (Lib.indexAny l amL)) ∧ Below w.heap.size w w' := by
  have hln := h.length
  have h8z : decide ((8 : Int) < (n : Int)) = false := decide_eq_false (by omega)
  have n1 : ((n : Int) == 1) = false := by simp; omega
  have CU := Lib.hid fun W => useSet_c (n : Int) W
  have CD : Hid (∀ t, t < n → ∀ W, Below w.heap.size w W → ∀ c, l[t]? = some c → 128 ≤ c.toNat → Calls Tryz.prog 140 #[.slice (cutA A cap t) (n - t) (cap - t)] W fun e w' => e = .returned (.tuple #[.int .i32 (decU (l.drop t)).1, .int .i64 (decU (l.drop t)).2]) ∧ Below W.heap.size W w') := Lib.hid fun t ht W hb c hc h128 => by
    have hB := ((h.below hb).more hb.size).drop (k := t) (by omega)
    have h0 : (l.drop t)[0]? = some c := by rw [List.getElem?_drop]; exact hc
    obtain ⟨b, o, _, e, _⟩ := hB.cell (i := 0) (by omega)
    rw [e] at hB ⊢
    exact decRune_c b o _ _ _ W hB (by omega) (by omega) (utf8_below hT hb (utf8_lt hT).1 (utf8_lt hT).2) c h0 h128
  have HM : Hid (∀ W, Below w.heap.size w W → MaxL W) := Lib.hid fun W hb => hM.below hb hM.lt
  have HB := Lib.hid h
  have HLn := Lib.hid hln
  have hrf := fun (W : World) t (ht : t ≤ n) => run_from (w := W) A n cap t ht
  have HRF := Lib.hid hrf
  clear h hT hM hln hrf
  go_enter Tryz.func102, Tryz.ntmps102
  go_wp2_with fail
  refine (CU.out _).mono ?_
  rintro e w1 ⟨rfl, hw⟩
  rw [hw, h8z]
  clear hw w1 h8z
  go_wp2_with fail
  go_loopg [12] n (fun g i wr => ∃ t : Nat, i = .int .i64 (t : Int) ∧ t ≤ n ∧ Hid (g = n - t) ∧ Hid (Below w.heap.size w wr) ∧ Hid (Lib.NoAny l amL t))
  case atStart => exact ⟨0, rfl, Nat.zero_le _, Lib.hid rfl, Lib.hid (Below.refl _ _), Lib.hid (Lib.NoAny.zero _ _)⟩
  case round =>
    obtain ⟨t, rfl, ht, hg, HN0, HN⟩ := hrel
    by_cases htn : t < n
    · have hti : (t : Int) < (n : Int) := by omega
      have htb : (t : Int) ≤ 8 := by omega
      have ht0 : (0 : Int) ≤ (t : Int) := by omega
      obtain ⟨b, o, c, e, hbB, hc, hcell⟩ := (HB.out.below HN0.out).cell htn
      have HC := Lib.hid hc
      have c0 : (0 : Int) ≤ (c.toNat : Int) := by omega
      have c9 : (c.toNat : Int) ≤ 255 := by have := c.toNat_lt; omega
      by_cases h128 : c.toNat < 128
      · have hci : (c.toNat : Int) < 128 := by omega
        have hix := fun W => run_ixByte c W
        clear hc
        subst e
        cases hq : amL.contains c with
        | true =>
          have HI := Lib.hid (Lib.indexAny_hit HN.out HC.out hq)
          have hg := ixb_ge hq
          generalize Lib.indexByte amL c = X at *
          go_wp2
          go_ret
          rw [HI.out]
          exact ⟨rfl, HN0.out⟩
        | false =>
          have HN2 := Lib.hid (HN.out.succ HC.out hq)
          have hgl := ixb_lt hq
          generalize Lib.indexByte amL c = X at *
          go_wp2
          go_roundg (n - (t + 1))
          case measure => have := hg.out; omega
          case rel => exact ⟨t + 1, by go_num, by omega, Lib.hid rfl, HN0, HN2⟩
      · have hci : ¬ (c.toNat : Int) < 128 := by omega
        have CD1 := Lib.hid (CD.out t htn _ HN0.out c hc (by omega))
        have hsp := decU_span (l.drop t) c (by rw [List.getElem?_drop]; exact hc) (by omega)
        have hcs := decU_cases (l.drop t) c (by rw [List.getElem?_drop]; exact hc) (by omega)
        rw [List.length_drop, HLn.out] at hsp
        have hrf := HRF.out wr t (by omega)
        generalize hdc : decU (l.drop t) = dc at *
        obtain ⟨r, m⟩ := dc
        simp only at hsp hcs CD1
        have HN2 : Hid (Lib.NoAny l amL (t + m)) := Lib.hid (noAny_am HN.out fun j x h1 h2 h3 => hsp.2.2 (j - t) x (by omega) (by rw [List.getElem?_drop, show t + (j - t) = j by omega]; exact h3))
        have hm0 : (1 : Int) ≤ (m : Int) := by omega
        have hm9 : (m : Int) ≤ 8 := by omega
        have hr0 : (128 : Int) ≤ (r : Int) := by
          rcases hcs with h | h | h | h
          · cases h; decide
          all_goals omega
        have hr9 : (r : Int) ≤ 1114111 := by
          rcases hcs with h | h | h | h
          · cases h; decide
          all_goals omega
        have htm : t + m ≤ n := by omega
        clear hc hsp hdc h128
        subst e
        have B := Lib.hid HN0.out.size
        have r60 : ((r : Int) == 60) = false := by simp; omega
        have r38 : ((r : Int) == 38) = false := by simp; omega
        by_cases hE : r = 65533
        · have hEi : ((r : Int) == 65533) = true := by simp; omega
          clear hcs hE
          go_wp2_with fail
          refine CD1.out.mono ?_
          rintro e w2 ⟨rfl, hb2⟩
          have B2 := Lib.hid (HN0.out.trans (hb2.mono HN0.out.size))
          clear hb2
          go_wp2_with fail
          go_loopg [15] 2 (fun g _ wx => ∃ i : Nat, i + g = 2 ∧ wx.heap[w2.heap.size]? = some (.stringIter ⟨#[60, 38]⟩ i) ∧ Hid (Below w.heap.size w wx))
          case atStart => exact ⟨0, by omega, hp_new _ _, Lib.hid (B2.out.alloc B2.out.size _)⟩
          case round =>
            obtain ⟨i, hig, hit, HX⟩ := hrel
            cases gk with
            | zero =>
              obtain rfl : i = 2 := by omega
              have hnx := fun ty => run_next_end_at wr w2.heap.size ⟨#[60, 38]⟩ 2 ty hit (by decide)
              go_wp2
              go_roundg (n - (t + m))
              case measure => have := hg.out; omega
              case rel => exact ⟨t + m, by go_num, htm, Lib.hid rfl, HX, HN2⟩
            | succ g =>
              have hi : i = 0 ∨ i = 1 := by omega
              rcases hi with rfl | rfl
              · have hnx := fun ty => run_next_at wr w2.heap.size ⟨#[60, 38]⟩ 0 ty hit (by decide)
                rw [dec60] at hnx
                simp only at hnx
                have hat := itW_at (p := 0 + 1) hit
                have HX1 := Lib.hid (HX.out.trans ((itW_below (W := wr) (b := w2.heap.size) (p := 0 + 1) (s := ⟨#[60, 38]⟩)).mono B2.out.size))
                clear hit
                generalize itW wr w2.heap.size ⟨#[60, 38]⟩ (0 + 1) = wi at *
                go_wp2
                go_roundg g
                case measure => omega
                case rel => exact ⟨1, by omega, hat, HX1⟩
              · have hnx := fun ty => run_next_at wr w2.heap.size ⟨#[60, 38]⟩ 1 ty hit (by decide)
                rw [dec38] at hnx
                simp only at hnx
                have hat := itW_at (p := 1 + 1) hit
                have HX1 := Lib.hid (HX.out.trans ((itW_below (W := wr) (b := w2.heap.size) (p := 1 + 1) (s := ⟨#[60, 38]⟩)).mono B2.out.size))
                clear hit
                generalize itW wr w2.heap.size ⟨#[60, 38]⟩ (1 + 1) = wi at *
                go_wp2
                go_roundg g
                case measure => omega
                case rel => exact ⟨2, by omega, hat, HX1⟩
        · have hEi : ((r : Int) == 65533) = false := by simp; omega
          have kv := fun W => run_convert_int_string (P := Tryz.prog) W 21 9 .i32 (r : Int) (by kernel_rfl) (by kernel_rfl)
          have hcs2 : (m = 2 ∧ 128 ≤ r ∧ r < 2048) ∨ (m = 3 ∧ 2048 ≤ r ∧ r < 65536 ∧ (r < 55296 ∨ 57344 ≤ r)) ∨ (m = 4 ∧ 65536 ≤ r ∧ r ≤ 1114111) := by
            rcases hcs with h | h | h | h
            · exact absurd (congrArg Prod.fst h) hE
            · exact .inl h
            · exact .inr (.inl h)
            · exact .inr (.inr h)
          clear hcs hE
          rcases hcs2 with ⟨rfl, h1, h2⟩ | hcs3
          · obtain ⟨x, y, he, hy⟩ := enc2 r h1 h2
            rw [he] at kv
            have h38 : ((38 : UInt8) == y) = false := by
              have hy38 : (38 : UInt8) ≠ y := fun e => by subst e; simp at hy
              simp [hy38]
            clear h1 h2 he hy
            go_wp2_with fail
            refine CD1.out.mono ?_
            rintro e w2 ⟨rfl, hb2⟩
            have B2 := Lib.hid (HN0.out.trans (hb2.mono HN0.out.size))
            clear hb2
            go_wp2
            go_roundg (n - (t + 2))
            case measure => have := hg.out; omega
            case rel => exact ⟨t + 2, by go_num, htm, Lib.hid rfl, B2, HN2⟩
          · have hz : ∃ z : ByteArray, Utf8.encode (r : Int) = z ∧ z.size = m := by
              rcases hcs3 with ⟨rfl, h1, h2, h3⟩ | ⟨rfl, h1, h2⟩
              · obtain ⟨a1, a2, a3, he⟩ := enc3 r h1 h2 h3
                exact ⟨_, he, rfl⟩
              · obtain ⟨a1, a2, a3, a4, he⟩ := enc4 r h1 h2
                exact ⟨_, he, rfl⟩
            obtain ⟨z, he, hzm⟩ := hz
            have hm3 : 3 ≤ m := by rcases hcs3 with h | h <;> omega
            rw [he] at kv
            have m2 : ((2 : Int) == (m : Int)) = false := by simp; omega
            clear hcs3 he
            go_wp2_with fail
            refine CD1.out.mono ?_
            rintro e w2 ⟨rfl, hb2⟩
            have B2 := Lib.hid (HN0.out.trans (hb2.mono HN0.out.size))
            clear hb2
            obtain ⟨mx, hmx⟩ := HM.out w2 B2.out
            by_cases hmm : (m : Int) ≤ mx
            · have hxs := run_ixStr z mx w2 hmx (by omega) (by omega)
              go_wp2
              go_roundg (n - (t + m))
              case measure => have := hg.out; omega
              case rel => exact ⟨t + m, by go_num, htm, Lib.hid rfl, B2, HN2⟩
            · clear kv hzm
              go_wp2_with fail
              go_loopg [15] 2 (fun g _ wx => ∃ i : Nat, i + g = 2 ∧ wx.heap[w2.heap.size]? = some (.stringIter ⟨#[60, 38]⟩ i) ∧ Hid (Below w.heap.size w wx))
              case atStart => exact ⟨0, by omega, hp_new _ _, Lib.hid (B2.out.alloc B2.out.size _)⟩
              case round =>
                obtain ⟨i, hig, hit, HX⟩ := hrel
                cases gk with
                | zero =>
                  obtain rfl : i = 2 := by omega
                  have hnx := fun ty => run_next_end_at wr w2.heap.size ⟨#[60, 38]⟩ 2 ty hit (by decide)
                  go_wp2
                  go_roundg (n - (t + m))
                  case measure => have := hg.out; omega
                  case rel => exact ⟨t + m, by go_num, htm, Lib.hid rfl, HX, HN2⟩
                | succ g =>
                  have hi : i = 0 ∨ i = 1 := by omega
                  rcases hi with rfl | rfl
                  · have hnx := fun ty => run_next_at wr w2.heap.size ⟨#[60, 38]⟩ 0 ty hit (by decide)
                    rw [dec60] at hnx
                    simp only at hnx
                    have hat := itW_at (p := 0 + 1) hit
                    have HX1 := Lib.hid (HX.out.trans ((itW_below (W := wr) (b := w2.heap.size) (p := 0 + 1) (s := ⟨#[60, 38]⟩)).mono B2.out.size))
                    clear hit
                    generalize itW wr w2.heap.size ⟨#[60, 38]⟩ (0 + 1) = wi at *
                    go_wp2
                    go_roundg g
                    case measure => omega
                    case rel => exact ⟨1, by omega, hat, HX1⟩
                  · have hnx := fun ty => run_next_at wr w2.heap.size ⟨#[60, 38]⟩ 1 ty hit (by decide)
                    rw [dec38] at hnx
                    simp only at hnx
                    have hat := itW_at (p := 1 + 1) hit
                    have HX1 := Lib.hid (HX.out.trans ((itW_below (W := wr) (b := w2.heap.size) (p := 1 + 1) (s := ⟨#[60, 38]⟩)).mono B2.out.size))
                    clear hit
                    generalize itW wr w2.heap.size ⟨#[60, 38]⟩ (1 + 1) = wi at *
                    go_wp2
                    go_roundg g
                    case measure => omega
                    case rel => exact ⟨2, by omega, hat, HX1⟩
    · have hti : ¬ (t : Int) < (n : Int) := by omega
      have HI : Hid (Lib.indexAny l amL = -1) := Lib.hid (Lib.indexAny_none (by have := HN.out; rwa [show t = l.length by rw [HLn.out]; omega] at this))
      go_wp2
      go_ret
      rw [HI.out]
      exact ⟨rfl, HN0.out⟩
/-- bytes.IndexAny of '<' and '&'. -/
theorem indexAm_c (A : Option Addr) (n cap : Nat) (l : List UInt8) (w : World) (h : Byt w w.heap.size A n cap l) (hT : Lib.Utf8Tabs 8 9 w) (hM : MaxL w) (hm : n ≤ 1000000) :
    Calls Tryz.prog 102 #[.slice A n cap, .string ⟨#[60, 38]⟩] w fun e w' => e = .returned (.int .i64 (Lib.indexAny l amL)) ∧ Below w.heap.size w w' := by
  by_cases h1 : n = 1
  · subst h1
    exact ixAm_one A cap l w h
  · by_cases h8 : 8 < n
    · exact ixAm_long A n cap l w h hm h8
    · exact ixAm_short A n cap l w h hT hM (by omega) h1
end Go.Proofs.YtmclngahdklfkaaGreatDoor
/- tok.opened, tok.text, the test of what stands at a place. -/
namespace Go.Proofs.YtmclngahdklfkaaGreatDoor
open Go.ChangeShapes Go.WideShapes Go.ChangeAt Go.RowKit
set_option linter.unusedVariables false
/-- What is asked of the world. -/
structure W11 (w : World) : Prop where
  tabs : Tabs w
  forms : Forms w
  maxl : MaxL w
  fold : FoldT w
  u8 : Lib.Utf8Tabs 8 9 w
theorem W11.below {w w' : World} (h : W11 w) (hb : Below w.heap.size w w') : W11 w' :=
  ⟨h.tabs.below hb (h.tabs.low h.forms), h.forms.below hb h.forms.lt, h.maxl.below hb h.maxl.lt, h.fold.below hb h.fold.lt, utf8_below h.u8 hb (utf8_lt h.u8).1 (utf8_lt h.u8).2⟩
theorem W11.w10 {w : World} (h : W11 w) : W10 w := ⟨h.tabs, h.forms⟩
theorem W11.w8f {w : World} (h : W11 w) : W8F w := ⟨⟨h.tabs.n, h.forms, h.maxl⟩, h.fold⟩
set_option maxRecDepth 100000 in
set_option maxHeartbeats 4000000 in
theorem stands1_c (A : Option Addr) (n cap : Nat) (l : List UInt8) (k bb ab : Nat) (p : List UInt8) (w : World) (h : Byt w w.heap.size A n cap l) (hk : k ≤ n) (hp : p.length ≤ 100) (hzb : w.cell? ⟨bb, 0, none⟩ = some (.slice A n cap)) (hza : w.cell? ⟨ab, 0, none⟩ = some (.int .i64 (k : Int))) :
    Calls Tryz.prog 59 #[.string ⟨p.toArray⟩, .pointer (some ⟨bb, 0, none⟩), .pointer (some ⟨ab, 0, none⟩)] w fun e w' => e = .returned (.bool (p.isPrefixOf (l.drop k))) ∧ Below w.heap.size w w' := by
  have hrf := run_from (w := w) A n cap k hk
  have cv := run_toBytes w p
  have hb1 := Go.Joins.below_bytesWorld w.heap.size w 5 ⟨p.toArray⟩ (Nat.le_refl _)
  have C1 := Lib.hid (hasPrefix_c _ _ _ _ _ _ _ _ _ _ _ ((h.drop hk).below hb1) (byt_new w p (by omega)))
  have HB := Lib.hid hb1
  clear h hb1
  go_enter Tryz.func59, Tryz.ntmps59
  go_wp2_with fail
  refine C1.out.mono ?_
  rintro e wq ⟨rfl, hwq⟩
  subst hwq
  go_wp2
  go_ret
  exact ⟨rfl, HB.out⟩
/-- What a token's reading leaves: it, its row of attributes made anew, the error. -/
def TokPost (o : TokL × Nat) (w : World) (e : Ending) (w' : World) : Prop :=
  ∃ v : TokV, v.t = o.1 ∧ e = .returned (.tuple #[.agg v.cells.toArray, .int .i64 (o.2 : Int)]) ∧ PRd w' w'.heap.size v.A v.n v.c v.t.pairs ∧ Below w.heap.size w w' ∧ ∀ b i, v.A = some ⟨b, i, none⟩ → w.heap.size ≤ b
def openTok (l : List UInt8) (k : Nat) : TokL × Nat := (⟨if (openOut l k).1.empty = true then 8 else 7, 0, ((openOut l k).2.1 : Int), (openOut l k).1.name, [], (openOut l k).1.pairs, 0⟩, (openOut l k).2.2)
set_option maxRecDepth 100000 in
set_option maxHeartbeats 8000000 in
theorem tokOpened_c (A : Option Addr) (n cap : Nat) (l : List UInt8) (k : Nat) (w : World) (h : Byt w w.heap.size A n cap l) (hW : W11 w) (hm : n ≤ 40000) (hk : k ≤ n) :
    Calls Tryz.prog 65 #[.slice A n cap, .int .i64 (k : Int)] w fun e w' => TokPost (openTok l k) w e w' := by
  have hJ := CJ.start 26 w #[.int .i64 0, .int .i64 0, .int .i64 0, .string ⟨#[]⟩, .string ⟨#[]⟩, .slice none 0 0, .int .i64 0]
  have hi : (Tryz.prog.info? 26).map (·.size) = some 7 := by kernel_rfl
  obtain ⟨d, hu⟩ := isStruct_of (P := Tryz.prog) (t := 26) (by kernel_rfl)
  have HU := Lib.hid (And.intro hi hu)
  have C1 := Lib.hid (tagOpenF_in A n cap l k _ ((h.below hJ.1).more hJ.1.size) (hW.below hJ.1).w10 hm hk)
  unfold openTok
  have J0 := Lib.hid hJ
  clear h hW hJ hi hu
  generalize openOut l k = o at *
  obtain ⟨⟨s, ps, em⟩, to, e⟩ := o
  simp only
  cases em
  · simp only [Bool.false_eq_true, if_false]
    go_enter Tryz.func65, Tryz.ntmps65
    go_wp2_with fail
    refine C1.out.mono ?_
    rintro e0 w1 ⟨PA, pn, pc, rfl, hpr, hb, hlo⟩
    have J1 := J0.out.kept hb
    have HP := Lib.hid (And.intro hpr (fun b i h => Nat.lt_of_lt_of_le (lt_of J0.out.2) (hlo b i h)))
    have hq := hp_new w1 (.cells #[.string ⟨s.toArray⟩, .slice PA pn pc, .bool false] 87)
    have ka := (Below.refl _ w1).alloc (Nat.le_refl _) (.cells #[.string ⟨s.toArray⟩, .slice PA pn pc, .bool false] 87)
    have kb := ka.alloc (by simp) (.cells #[.int .i64 7, .int .i64 0, .int .i64 (to : Int), .string ⟨s.toArray⟩, .string ⟨#[]⟩, .slice PA pn pc, .int .i64 0] 26)
    have z2 : ((w1.alloc (.cells #[.string ⟨s.toArray⟩, .slice PA pn pc, .bool false] 87)).alloc (.cells #[.int .i64 7, .int .i64 0, .int .i64 (to : Int), .string ⟨s.toArray⟩, .string ⟨#[]⟩, .slice PA pn pc, .int .i64 0] 26)).cell? ⟨w1.heap.size, 2, none⟩ = some (.bool false) := by
      have : ((w1.alloc (.cells #[.string ⟨s.toArray⟩, .slice PA pn pc, .bool false] 87)).alloc (.cells #[.int .i64 7, .int .i64 0, .int .i64 (to : Int), .string ⟨s.toArray⟩, .string ⟨#[]⟩, .slice PA pn pc, .int .i64 0] 26)).heap[w1.heap.size]? = some (.cells #[.string ⟨s.toArray⟩, .slice PA pn pc, .bool false] 87) := by
        rw [Below.heap_alloc _ _ _ (by simp)]
        exact hq
      exact cell_of 2 this
    have hq4 : ((w1.alloc (.cells #[.string ⟨s.toArray⟩, .slice PA pn pc, .bool false] 87)).alloc (.cells #[.int .i64 7, .int .i64 0, .int .i64 (to : Int), .string ⟨s.toArray⟩, .string ⟨#[]⟩, .slice PA pn pc, .int .i64 0] 26)).heap[w1.heap.size + 1]? = some (.cells #[.int .i64 7, .int .i64 0, .int .i64 (to : Int), .string ⟨s.toArray⟩, .string ⟨#[]⟩, .slice PA pn pc, .int .i64 0] 26) := by
      have := hp_new (w1.alloc (.cells #[.string ⟨s.toArray⟩, .slice PA pn pc, .bool false] 87)) (.cells #[.int .i64 7, .int .i64 0, .int .i64 (to : Int), .string ⟨s.toArray⟩, .string ⟨#[]⟩, .slice PA pn pc, .int .i64 0] 26)
      rwa [World.size_alloc] at this
    have J4 := Lib.hid (J1.kept kb)
    have HQ4 := Lib.hid hq4
    have JF := Lib.hid (J4.out.row #[.int .i64 7, .int .i64 0, .int .i64 (to : Int), .string ⟨s.toArray⟩, .string ⟨#[]⟩, .slice PA pn pc, .int .i64 0])
    clear hpr hb hlo J1 ka kb hq hq4
    go_wp2_with (first | (refine wpList_load_row rfl _ _ rfl (w1.heap.size + 1) rfl _ _ _ _ HQ4.out HU.out.2 rfl HU.out.1 ?_) | (refine wpList_store_row rfl _ _ _ rfl w.heap.size #[.int .i64 7, .int .i64 0, .int .i64 (to : Int), .string ⟨s.toArray⟩, .string ⟨#[]⟩, .slice PA pn pc, .int .i64 0] rfl rfl _ _ J4.out.2 (by kernel_rfl) rfl (by kernel_rfl) ?_))
    (try simp only [Exit.inBlock, Exit.then])
    refine bodyPost_ret (results_cell2 rfl _ _ w.heap.size _ _ _ _ rfl JF.out.2 HU.out.2 rfl HU.out.1) rfl ⟨⟨⟨7, 0, (to : Int), s, [], ps, 0⟩, PA, pn, pc⟩, rfl, rfl, HP.out.1.move ?_ ?_, JF.out.1, fun b i h => Nat.le_of_lt (HP.out.2 b i h)⟩
    · simp [World.setRow]; omega
    · intro b' i' hA hb'
      have hlt := HP.out.2 b' i' hA
      rw [setRow_at _ _ _ _ (by omega), Below.heap_alloc _ _ _ (by simp; omega), Below.heap_alloc _ _ _ hb']
  · simp only [if_true]
    go_enter Tryz.func65, Tryz.ntmps65
    go_wp2_with fail
    refine C1.out.mono ?_
    rintro e0 w1 ⟨PA, pn, pc, rfl, hpr, hb, hlo⟩
    have J1 := J0.out.kept hb
    have HP := Lib.hid (And.intro hpr (fun b i h => Nat.lt_of_lt_of_le (lt_of J0.out.2) (hlo b i h)))
    have hq := hp_new w1 (.cells #[.string ⟨s.toArray⟩, .slice PA pn pc, .bool true] 87)
    have ka := (Below.refl _ w1).alloc (Nat.le_refl _) (.cells #[.string ⟨s.toArray⟩, .slice PA pn pc, .bool true] 87)
    have kb := ka.alloc (by simp) (.cells #[.int .i64 8, .int .i64 0, .int .i64 (to : Int), .string ⟨s.toArray⟩, .string ⟨#[]⟩, .slice PA pn pc, .int .i64 0] 26)
    have z2 : ((w1.alloc (.cells #[.string ⟨s.toArray⟩, .slice PA pn pc, .bool true] 87)).alloc (.cells #[.int .i64 7, .int .i64 0, .int .i64 (to : Int), .string ⟨s.toArray⟩, .string ⟨#[]⟩, .slice PA pn pc, .int .i64 0] 26)).cell? ⟨w1.heap.size, 2, none⟩ = some (.bool true) := by
      have : ((w1.alloc (.cells #[.string ⟨s.toArray⟩, .slice PA pn pc, .bool true] 87)).alloc (.cells #[.int .i64 7, .int .i64 0, .int .i64 (to : Int), .string ⟨s.toArray⟩, .string ⟨#[]⟩, .slice PA pn pc, .int .i64 0] 26)).heap[w1.heap.size]? = some (.cells #[.string ⟨s.toArray⟩, .slice PA pn pc, .bool true] 87) := by
        rw [Below.heap_alloc _ _ _ (by simp)]
        exact hq
      exact cell_of 2 this
    have hq4 : ((w1.alloc (.cells #[.string ⟨s.toArray⟩, .slice PA pn pc, .bool true] 87)).alloc (.cells #[.int .i64 8, .int .i64 0, .int .i64 (to : Int), .string ⟨s.toArray⟩, .string ⟨#[]⟩, .slice PA pn pc, .int .i64 0] 26)).heap[w1.heap.size + 1]? = some (.cells #[.int .i64 8, .int .i64 0, .int .i64 (to : Int), .string ⟨s.toArray⟩, .string ⟨#[]⟩, .slice PA pn pc, .int .i64 0] 26) := by
      have := hp_new (w1.alloc (.cells #[.string ⟨s.toArray⟩, .slice PA pn pc, .bool true] 87)) (.cells #[.int .i64 8, .int .i64 0, .int .i64 (to : Int), .string ⟨s.toArray⟩, .string ⟨#[]⟩, .slice PA pn pc, .int .i64 0] 26)
      rwa [World.size_alloc] at this
    have J4 := Lib.hid (J1.kept kb)
    have HQ4 := Lib.hid hq4
    have JF := Lib.hid (J4.out.row #[.int .i64 8, .int .i64 0, .int .i64 (to : Int), .string ⟨s.toArray⟩, .string ⟨#[]⟩, .slice PA pn pc, .int .i64 0])
    clear hpr hb hlo J1 ka kb hq hq4
    go_wp2_with (first | (refine wpList_load_row rfl _ _ rfl (w1.heap.size + 1) rfl _ _ _ _ HQ4.out HU.out.2 rfl HU.out.1 ?_) | (refine wpList_store_row rfl _ _ _ rfl w.heap.size #[.int .i64 8, .int .i64 0, .int .i64 (to : Int), .string ⟨s.toArray⟩, .string ⟨#[]⟩, .slice PA pn pc, .int .i64 0] rfl rfl _ _ J4.out.2 (by kernel_rfl) rfl (by kernel_rfl) ?_))
    (try simp only [Exit.inBlock, Exit.then])
    refine bodyPost_ret (results_cell2 rfl _ _ w.heap.size _ _ _ _ rfl JF.out.2 HU.out.2 rfl HU.out.1) rfl ⟨⟨⟨8, 0, (to : Int), s, [], ps, 0⟩, PA, pn, pc⟩, rfl, rfl, HP.out.1.move ?_ ?_, JF.out.1, fun b i h => Nat.le_of_lt (HP.out.2 b i h)⟩
    · simp [World.setRow]; omega
    · intro b' i' hA hb'
      have hlt := HP.out.2 b' i' hA
      rw [setRow_at _ _ _ _ (by omega), Below.heap_alloc _ _ _ (by simp; omega), Below.heap_alloc _ _ _ hb']
set_option maxRecDepth 100000 in
set_option maxHeartbeats 8000000 in
theorem tokText_c (A : Option Addr) (n cap : Nat) (l : List UInt8) (k : Nat) (w : World) (h : Byt w w.heap.size A n cap l) (hW : W11 w) (hm : n ≤ 40000) (hk : k ≤ n) :
    Calls Tryz.prog 68 #[.slice A n cap, .int .i64 (k : Int)] w fun e w' => TokPost (textTok l k) w e w' := by
  have hln := h.length
  have hJ := CJ.start 26 w #[.int .i64 0, .int .i64 0, .int .i64 0, .string ⟨#[]⟩, .string ⟨#[]⟩, .slice none 0 0, .int .i64 0]
  have hi : (Tryz.prog.info? 26).map (·.size) = some 7 := by kernel_rfl
  obtain ⟨d, hu⟩ := isStruct_of (P := Tryz.prog) (t := 26) (by kernel_rfl)
  have HU := Lib.hid (And.intro hi hu)
  have hB := (h.below hJ.1).more hJ.1.size
  have hX := ix_txt (l.drop k)
  have hld : (l.drop k).length = n - k := by rw [List.length_drop, hln]
  have htl := txt_le (l.drop k)
  have hpre : txt (l.drop k) = (l.drop k).take (txt (l.drop k)).length := List.prefix_iff_eq_take.1 (List.takeWhile_prefix _)
  have C1 := Lib.hid (indexAm_c _ _ _ _ _ (hB.drop hk) (hW.below hJ.1).u8 (hW.below hJ.1).maxl (by omega))
  have C2 : Hid (∀ W, Below w.heap.size w W → Calls Tryz.prog 45 #[.string ⟨(txt (l.drop k)).toArray⟩, .string ⟨#[93, 93, 62]⟩] W fun e w' => e = .returned (.bool (Lib.contains (txt (l.drop k)) [93, 93, 62])) ∧ W = w') := Lib.hid fun W hb => contains_c (txt (l.drop k)) [93, 93, 62] W (hW.below hb).maxl (by omega)
  have hst : ∀ W, Below w.heap.size w W → (convert 22 9 (.slice (cutA A cap k) (txt (l.drop k)).length (cap - k))).run Tryz.prog W = .ok (.string ⟨(txt (l.drop k)).toArray⟩) W := fun W hb => by
    have := (((h.below hb).drop hk).take (k := (txt (l.drop k)).length) (by omega)).str
    rwa [← hpre] at this
  have hrf := fun W : World => run_from (w := W) A n cap k hk
  have hcap := h.le
  have hft := fun W : World => run_fromTo (w := W) A n cap k (k + (txt (l.drop k)).length) (by omega) (by omega)
  unfold textTok
  rw [hX] at C1
  have J0 := Lib.hid hJ
  clear h hW hJ hi hu hB hX hpre
  generalize txt (l.drop k) = s at *
  have hk0 : (0 : Int) ≤ (k : Int) := by omega
  have hk1 : (k : Int) ≤ 40000 := by omega
  have hs1 : (s.length : Int) ≤ 40000 := by omega
  rw [show ((k + s.length : Nat) : Int) = (k : Int) + (s.length : Int) by omega, show k + s.length - k = s.length by omega] at hft
  rw [show ((k + s.length : Nat) : Int) = (k : Int) + (s.length : Int) by omega]
  generalize Lib.contains s [93, 93, 62] = ct at *
  rw [hld] at C1
  by_cases hsl : s.length < n - k
  · rw [if_pos hsl] at C1
    have hs0 : ¬ (s.length : Int) < 0 := by omega
    have HST := Lib.hid hst
    cases ct
    · simp only [Bool.false_eq_true, if_false]
      go_enter Tryz.func68, Tryz.ntmps68
      go_wp2_with fail
      refine C1.out.mono ?_
      rintro e0 w1 ⟨rfl, hb⟩
      have J1 := Lib.hid (J0.out.kept hb)
      have hst1 := HST.out w1 J1.out.1
      have JF := Lib.hid (J1.out.row #[.int .i64 1, .int .i64 0, .int .i64 ((k : Int) + (s.length : Int)), .string ⟨#[]⟩, .string ⟨s.toArray⟩, .slice none 0 0, .int .i64 0])
      clear hb
      go_wp2_with fail
      refine (C2.out _ J1.out.1).mono ?_
      rintro e0 wq ⟨rfl, hwq⟩
      subst hwq
      go_wp2_with (refine wpList_store_row rfl _ _ _ rfl w.heap.size #[.int .i64 1, .int .i64 0, .int .i64 ((k : Int) + (s.length : Int)), .string ⟨#[]⟩, .string ⟨s.toArray⟩, .slice none 0 0, .int .i64 0] rfl rfl _ _ J1.out.2 (by kernel_rfl) rfl (by kernel_rfl) ?_)
      (try simp only [Exit.inBlock, Exit.then])
      exact bodyPost_ret (results_cell2 rfl _ _ w.heap.size _ _ _ _ rfl JF.out.2 HU.out.2 rfl HU.out.1) rfl ⟨⟨⟨1, 0, (k : Int) + (s.length : Int), [], s, [], 0⟩, none, 0, 0⟩, rfl, rfl, PRd.nilR _ _, JF.out.1, fun b i h => by cases h⟩
    · simp only [if_true]
      go_enter Tryz.func68, Tryz.ntmps68
      go_wp2_with fail
      refine C1.out.mono ?_
      rintro e0 w1 ⟨rfl, hb⟩
      have J1 := Lib.hid (J0.out.kept hb)
      have hst1 := HST.out w1 J1.out.1
      have JF := Lib.hid (J1.out.row #[.int .i64 0, .int .i64 0, .int .i64 0, .string ⟨#[]⟩, .string ⟨#[]⟩, .slice none 0 0, .int .i64 0])
      clear hb
      go_wp2_with fail
      refine (C2.out _ J1.out.1).mono ?_
      rintro e0 wq ⟨rfl, hwq⟩
      subst hwq
      go_wp2_with (refine wpList_store_row rfl _ _ _ rfl w.heap.size #[.int .i64 0, .int .i64 0, .int .i64 0, .string ⟨#[]⟩, .string ⟨#[]⟩, .slice none 0 0, .int .i64 0] rfl rfl _ _ J1.out.2 (by kernel_rfl) rfl (by kernel_rfl) ?_)
      (try simp only [Exit.inBlock, Exit.then])
      exact bodyPost_ret (results_cell2 rfl _ _ w.heap.size _ _ _ _ rfl JF.out.2 HU.out.2 rfl HU.out.1) rfl ⟨⟨noTok, none, 0, 0⟩, rfl, rfl, PRd.nilR _ _, JF.out.1, fun b i h => by cases h⟩
  · rw [if_neg hsl] at C1
    have hse : s.length = n - k := by omega
    have hnk : (n : Int) - (k : Int) = (s.length : Int) := by omega
    clear hse hsl
    have HST := Lib.hid hst
    cases ct
    · simp only [Bool.false_eq_true, if_false]
      go_enter Tryz.func68, Tryz.ntmps68
      go_wp2_with fail
      refine C1.out.mono ?_
      rintro e0 w1 ⟨rfl, hb⟩
      have J1 := Lib.hid (J0.out.kept hb)
      have hst1 := HST.out w1 J1.out.1
      have JF := Lib.hid (J1.out.row #[.int .i64 1, .int .i64 0, .int .i64 ((k : Int) + (s.length : Int)), .string ⟨#[]⟩, .string ⟨s.toArray⟩, .slice none 0 0, .int .i64 0])
      clear hb
      go_wp2_with fail
      refine (C2.out _ J1.out.1).mono ?_
      rintro e0 wq ⟨rfl, hwq⟩
      subst hwq
      go_wp2_with (refine wpList_store_row rfl _ _ _ rfl w.heap.size #[.int .i64 1, .int .i64 0, .int .i64 ((k : Int) + (s.length : Int)), .string ⟨#[]⟩, .string ⟨s.toArray⟩, .slice none 0 0, .int .i64 0] rfl rfl _ _ J1.out.2 (by kernel_rfl) rfl (by kernel_rfl) ?_)
      (try simp only [Exit.inBlock, Exit.then])
      exact bodyPost_ret (results_cell2 rfl _ _ w.heap.size _ _ _ _ rfl JF.out.2 HU.out.2 rfl HU.out.1) rfl ⟨⟨⟨1, 0, (k : Int) + (s.length : Int), [], s, [], 0⟩, none, 0, 0⟩, rfl, rfl, PRd.nilR _ _, JF.out.1, fun b i h => by cases h⟩
    · simp only [if_true]
      go_enter Tryz.func68, Tryz.ntmps68
      go_wp2_with fail
      refine C1.out.mono ?_
      rintro e0 w1 ⟨rfl, hb⟩
      have J1 := Lib.hid (J0.out.kept hb)
      have hst1 := HST.out w1 J1.out.1
      have JF := Lib.hid (J1.out.row #[.int .i64 0, .int .i64 0, .int .i64 0, .string ⟨#[]⟩, .string ⟨#[]⟩, .slice none 0 0, .int .i64 0])
      clear hb
      go_wp2_with fail
      refine (C2.out _ J1.out.1).mono ?_
      rintro e0 wq ⟨rfl, hwq⟩
      subst hwq
      go_wp2_with (refine wpList_store_row rfl _ _ _ rfl w.heap.size #[.int .i64 0, .int .i64 0, .int .i64 0, .string ⟨#[]⟩, .string ⟨#[]⟩, .slice none 0 0, .int .i64 0] rfl rfl _ _ J1.out.2 (by kernel_rfl) rfl (by kernel_rfl) ?_)
      (try simp only [Exit.inBlock, Exit.then])
      exact bodyPost_ret (results_cell2 rfl _ _ w.heap.size _ _ _ _ rfl JF.out.2 HU.out.2 rfl HU.out.1) rfl ⟨⟨noTok, none, 0, 0⟩, rfl, rfl, PRd.nilR _ _, JF.out.1, fun b i h => by cases h⟩
end Go.Proofs.YtmclngahdklfkaaGreatDoor
/- narthexref10.Pairs -/
namespace Go.Proofs.YtmclngahdklfkaaGreatDoor
open Go.ChangeShapes Go.WideShapes Go.ChangeAt Go.RowKit
set_option linter.unusedVariables false
end Go.Proofs.YtmclngahdklfkaaGreatDoor
/- narthexref10: Open, Close -/
namespace Go.Proofs.YtmclngahdklfkaaGreatDoor
open Go.ChangeShapes Go.WideShapes Go.ChangeAt Go.RowKit
set_option linter.unusedVariables false
end Go.Proofs.YtmclngahdklfkaaGreatDoor
/- What a token's reading leaves. -/
namespace Go.Proofs.YtmclngahdklfkaaGreatDoor
open Go.ChangeShapes Go.WideShapes Go.ChangeAt Go.RowKit
set_option linter.unusedVariables false
theorem TokPost.out {o : TokL × Nat} {w w' : World} {e : Ending} (h : TokPost o w e w') : ∃ PA pn pc, e = .returned (.tuple #[.agg #[.int .i64 o.1.kind, .int .i64 o.1.fro, .int .i64 o.1.to_, .string ⟨o.1.name.toArray⟩, .string ⟨o.1.text.toArray⟩, .slice PA pn pc, .int .i64 o.1.r], .int .i64 (o.2 : Int)]) ∧ PRd w' w'.heap.size PA pn pc o.1.pairs ∧ Below w.heap.size w w' ∧ ∀ b i, PA = some ⟨b, i, none⟩ → w.heap.size ≤ b := by
  obtain ⟨v, hv, he, hp, hb, hl⟩ := h
  refine ⟨v.A, v.n, v.c, ?_, by rw [← hv]; exact hp, hb, hl⟩
  rw [he, ← hv]
  rfl
theorem TokPost.of {o : TokL × Nat} {w w' : World} {e : Ending} (PA : Option Addr) (pn pc : Nat) (he : e = .returned (.tuple #[.agg #[.int .i64 o.1.kind, .int .i64 o.1.fro, .int .i64 o.1.to_, .string ⟨o.1.name.toArray⟩, .string ⟨o.1.text.toArray⟩, .slice PA pn pc, .int .i64 o.1.r], .int .i64 (o.2 : Int)])) (hp : PRd w' w'.heap.size PA pn pc o.1.pairs) (hb : Below w.heap.size w w') (hl : ∀ b i, PA = some ⟨b, i, none⟩ → w.heap.size ≤ b) : TokPost o w e w' :=
  ⟨⟨o.1, PA, pn, pc⟩, rfl, he, hp, hb, hl⟩
theorem TokPost.no {x : Nat} {w w' : World} {e : Ending} (he : e = .returned (.tuple #[.agg #[.int .i64 0, .int .i64 0, .int .i64 0, .string ⟨#[]⟩, .string ⟨#[]⟩, .slice none 0 0, .int .i64 0], .int .i64 (x : Int)])) (hb : Below w.heap.size w w') : TokPost (noTok, x) w e w' :=
  TokPost.of none 0 0 he (PRd.nilR _ _) hb (fun b i h => by cases h)
end Go.Proofs.YtmclngahdklfkaaGreatDoor
/- narthexref11.Next, arm by arm. -/
namespace Go.Proofs.YtmclngahdklfkaaGreatDoor
open Go.ChangeShapes Go.WideShapes Go.ChangeAt Go.RowKit
set_option linter.unusedVariables false
/-- While the document's token is read: the result's block, the token's own. -/
structure RN (w W : World) (rs vs : Array Value) : Prop where
  below : Below w.heap.size w W
  size : w.heap.size + 1 < W.heap.size
  res : W.heap[w.heap.size]? = some (.cells rs 30)
  tok : W.heap[w.heap.size + 1]? = some (.cells vs 30)
theorem RN.start (k : Nat) (w : World) : RN w ((w.alloc (.cells #[.int .i64 0, .int .i64 0, .int .i64 0, .string ⟨#[]⟩, .string ⟨#[]⟩, .slice none 0 0, .int .i64 0] 30)).alloc (.cells #[.int .i64 0, .int .i64 (k : Int), .int .i64 0, .string ⟨#[]⟩, .string ⟨#[]⟩, .slice none 0 0, .int .i64 0] 30)) #[.int .i64 0, .int .i64 0, .int .i64 0, .string ⟨#[]⟩, .string ⟨#[]⟩, .slice none 0 0, .int .i64 0] #[.int .i64 0, .int .i64 (k : Int), .int .i64 0, .string ⟨#[]⟩, .string ⟨#[]⟩, .slice none 0 0, .int .i64 0] := by
  have b1 := (Below.refl w.heap.size w).alloc (Nat.le_refl _) (.cells #[.int .i64 0, .int .i64 0, .int .i64 0, .string ⟨#[]⟩, .string ⟨#[]⟩, .slice none 0 0, .int .i64 0] 30)
  refine ⟨b1.alloc (by simp) (.cells #[.int .i64 0, .int .i64 (k : Int), .int .i64 0, .string ⟨#[]⟩, .string ⟨#[]⟩, .slice none 0 0, .int .i64 0] 30), by simp, ?_, ?_⟩
  · rw [Below.heap_alloc _ _ _ (by simp)]; exact hp_new _ _
  · have := hp_new (w.alloc (.cells #[.int .i64 0, .int .i64 0, .int .i64 0, .string ⟨#[]⟩, .string ⟨#[]⟩, .slice none 0 0, .int .i64 0] 30)) (.cells #[.int .i64 0, .int .i64 (k : Int), .int .i64 0, .string ⟨#[]⟩, .string ⟨#[]⟩, .slice none 0 0, .int .i64 0] 30)
    rwa [World.size_alloc] at this
theorem RN.kept {w W W' : World} {rs vs : Array Value} (h : RN w W rs vs) (hb : Below W.heap.size W W') : RN w W' rs vs :=
  ⟨h.below.trans (hb.mono h.below.size), by have := hb.size; have := h.size; omega, by rw [hb.block _ (by have := h.size; omega)]; exact h.res, by rw [hb.block _ h.size]; exact h.tok⟩
theorem RN.set {w W : World} {rs vs : Array Value} (h : RN w W rs vs) (i : Nat) (v : Value) : RN w (W.setCell ⟨w.heap.size + 1, i, none⟩ v) rs (vs.setIfInBounds i v) :=
  ⟨h.below.setCell (p := ⟨w.heap.size + 1, i, none⟩) (Nat.le_succ _) v, by simpa using h.size, by rw [hp_other (by omega)]; exact h.res, hp_set h.tok⟩
theorem RN.row {w W : World} {rs vs : Array Value} (h : RN w W rs vs) (cs : Array Value) : RN w (W.setRow w.heap.size cs) cs vs := by
  refine ⟨⟨h.below.os, h.below.tape, h.below.output, ?_, fun j hj => ?_⟩, ?_, setRow_heap _ _ _ _ _ _ h.res, ?_⟩
  · have := h.below.size; simpa [World.setRow] using this
  · rw [setRow_other _ _ _ _ (by omega)]; exact h.below.block j hj
  · simpa [World.setRow] using h.size
  · rw [setRow_other _ _ _ _ (by omega)]; exact h.tok
theorem RN.drewN {w W : World} {rs vs : Array Value} (h : RN w W rs vs) (q : Nat) : RN w (W.drewN q) rs vs := ⟨below_drewN' h.below, h.size, h.res, h.tok⟩
end Go.Proofs.YtmclngahdklfkaaGreatDoor
/- narthexref11.Next, at a text. -/
namespace Go.Proofs.YtmclngahdklfkaaGreatDoor
open Go.ChangeShapes Go.WideShapes Go.ChangeAt Go.RowKit
set_option linter.unusedVariables false
theorem contains_findI (s p : List UInt8) : Lib.contains s p = decide (0 ≤ findI s 0 p) := by
  unfold findI Lib.contains
  rw [List.drop_zero]
  by_cases h : Lib.index s p < 0
  · rw [if_pos h, decide_eq_false (by omega)]
    rfl
  · rw [if_neg h, decide_eq_true (by omega), decide_eq_true (by omega)]
end Go.Proofs.YtmclngahdklfkaaGreatDoor
/- Entities that are always known. -/
namespace Go.Proofs.YtmclngahdklfkaaGreatDoor
open Go.ChangeShapes Go.WideShapes Go.ChangeAt Go.RowKit
set_option linter.unusedVariables false
end Go.Proofs.YtmclngahdklfkaaGreatDoor
/- Escaped texts: plain law. -/
namespace Go.Proofs.YtmclngahdklfkaaGreatDoor
open Go.ChangeShapes Go.WideShapes Go.ChangeAt Go.RowKit
set_option linter.unusedVariables false
theorem getE_of_drop {X Y : List UInt8} {i : Nat} (h : X.drop i = Y) (j : Nat) : X[i + j]? = Y[j]? := by rw [← h, List.getElem?_drop]
theorem drop_of_drop {X Y : List UInt8} {i : Nat} (h : X.drop i = Y) (j : Nat) : X.drop (i + j) = Y.drop j := by rw [← h, List.drop_drop]
theorem digs_run (b : Int) (rest : List UInt8) (d : UInt8) (hd : digit b d.toNat < 0) : ∀ ds : List UInt8, (∀ c ∈ ds, 0 ≤ digit b c.toNat) → digs b (ds ++ d :: rest) = ds
  | [], _ => by
    show digs b (d :: rest) = []
    unfold digs
    rw [if_neg (by omega)]
  | c :: t, h => by
    show digs b (c :: (t ++ d :: rest)) = c :: t
    unfold digs
    rw [if_pos (h c List.mem_cons_self), digs_run b rest d hd t fun x hx => h x (List.mem_cons_of_mem _ hx)]
theorem char_num (ds rest X : List UInt8) (i : Nat) (h : X.drop i = 38 :: 35 :: (ds ++ 59 :: rest)) (h0 : ds ≠ []) (hd : ∀ c ∈ ds, 0 ≤ digit 10 c.toNat) : charOut X i = if isDoc (numU 10 ds) = true then (numU 10 ds, i + ds.length + 3, 0) else (0, 0, 6) := by
  have e0 : X[i]? = some 38 := by have := getE_of_drop h 0; simpa using this
  have e1 : X[i + 1]? = some 35 := by have := getE_of_drop h 1; simpa using this
  have e2 : ¬ X[i + 2]? = some 120 := by
    rw [getE_of_drop h]
    cases ds with
    | nil => exact absurd rfl h0
    | cons c t =>
      intro e
      have e' : c = 120 := by simpa using e
      have := hd c List.mem_cons_self
      rw [e'] at this
      exact absurd this (by decide +kernel)
  have ed : X.drop (i + 2) = ds ++ 59 :: rest := by have := drop_of_drop h 2; simpa using this
  have hds : digs 10 (X.drop (i + 2)) = ds := by rw [ed, digs_run 10 rest 59 (by decide +kernel) ds hd]
  have e3 : X[i + 2 + ds.length]? = some 59 := by rw [getE_of_drop ed]; simp
  have hc := cap_doc 10 2097152 (by omega) (by omega) ds hd
  unfold charOut
  rw [if_pos ⟨e0, e1⟩, if_neg e2]
  unfold charBody
  simp only [hds, e3]
  rw [if_neg (by simp; exact h0), hc.1]
  by_cases hdoc : isDoc (numU 10 ds) = true
  · rw [if_pos hdoc, if_pos hdoc, hc.2 hdoc]
    congr 2
    omega
  · rw [if_neg hdoc, if_neg hdoc]
theorem digit_dec (d : Nat) (h : d < 10) : digit 10 (UInt8.ofNat (48 + d)).toNat = d := by
  have : (UInt8.ofNat (48 + d)).toNat = 48 + d := UInt8.toNat_ofNat_of_lt' (by show 48 + d < 256; omega)
  rw [this]
  unfold digit
  rw [if_pos (by omega)]
  omega
theorem dec_digits (n : Nat) : (∀ c ∈ Lib.decDigits n, 0 ≤ digit 10 c.toNat) ∧ numU 10 (Lib.decDigits n) = n ∧ Lib.decDigits n ≠ [] := by
  induction n using Nat.strongRecOn with
  | _ n ih =>
    by_cases h : n < 10
    · rw [Lib.decDigits, dif_pos h]
      refine ⟨fun c hc => ?_, ?_, by simp⟩
      · rw [List.mem_singleton.1 hc, digit_dec n h]; omega
      · have := digit_dec n h
        simp only [numU, List.foldl_cons, List.foldl_nil, this]
        omega
    · have := ih (n / 10) (by omega)
      rw [Lib.decDigits, dif_neg h]
      refine ⟨fun c hc => ?_, ?_, by simp⟩
      · rcases List.mem_append.1 hc with hc | hc
        · exact this.1 c hc
        · rw [List.mem_singleton.1 hc, digit_dec _ (by omega)]; omega
      · rw [numU_snoc, this.2.1, digit_dec _ (by omega)]
        omega
end Go.Proofs.YtmclngahdklfkaaGreatDoor
/- cref.Text. -/
namespace Go.Proofs.YtmclngahdklfkaaGreatDoor
open Go.ChangeShapes Go.WideShapes Go.ChangeAt Go.RowKit
set_option linter.unusedVariables false
theorem TabIs_below {w w' : World} {B : Nat} {name : String} {k : IntKind} {zs : List Int} (h : Lib.TabIs Tryz.prog w name k zs) (hb : Below w.heap.size w w') : Lib.TabIs Tryz.prog w' name k zs := by
  unfold Lib.TabIs World.var? at *
  obtain ⟨g, hg, h⟩ := Option.bind_eq_some_iff.1 h
  rw [hg, Option.bind_some]
  cases ho : w.heap[g]? with
  | none => rw [ho] at h; cases h
  | some o =>
    rw [hb.block g (lt_of ho), ho]
    rw [ho] at h
    exact h
theorem grow_below {w w' : World} (h : ∃ k os, w' = Sort.grow (w.drewN k) os) : Below w.heap.size w w' := by
  obtain ⟨k, os, rfl⟩ := h
  exact Lib.below_grow _ w (Nat.le_refl _) k os
theorem itoa_c (n : Nat) (hn : n ≤ 2000000) (w : World) (hp : Lib.TabIs Tryz.prog w "internal/strconv.uint64pow10" .u64 Lib.pow10Tab) : Calls Tryz.prog 79 #[.int .i64 n] w fun e w' => e = .returned (.string ⟨(Lib.decDigits n).toArray⟩) ∧ Below w.heap.size w w' := by
  refine (Tryz.strconv_Itoa n (by omega) (by omega) w hp).mono fun e w' ⟨he, hw⟩ => ⟨?_, grow_below hw⟩
  rw [he]
  unfold Lib.itoa
  rw [if_neg (by omega)]
  simp
def textOut (r : Int) : List UInt8 := if isDoc r = true then 38 :: 35 :: (Lib.decDigits r.toNat ++ [59]) else []
set_option maxRecDepth 100000 in
set_option maxHeartbeats 2000000 in
theorem text_c (r : Int) (w : World) (hT : Tabs w) (hp : Lib.TabIs Tryz.prog w "internal/strconv.uint64pow10" .u64 Lib.pow10Tab) :
    Calls Tryz.prog 46 #[.int .i64 r] w fun e w' => e = .returned (.tuple #[.string ⟨(textOut r).toArray⟩, .int .i64 (if isDoc r = true then 0 else 6)]) ∧ Below w.heap.size w w' := by
  have c1 := char_c r w hT
  unfold textOut
  cases hd : isDoc r with
  | false =>
    rw [hd] at c1
    rw [if_neg (by decide), if_neg (by decide)]
    clear hd hT hp
    go_enter Tryz.func46, Tryz.ntmps46
    go_wp2_with fail
    refine c1.mono ?_
    rintro e w1 ⟨rfl, hb⟩
    have B1 := Lib.hid hb
    clear hb c1
    go_wp2
    go_ret2
    exact ⟨rfl, B1.out⟩
  | true =>
    have hr := (isDoc_iff r).1 hd
    rw [hd] at c1
    rw [if_pos rfl, if_pos rfl]
    obtain ⟨n, rfl⟩ : ∃ n : Nat, r = (n : Int) := ⟨r.toNat, by omega⟩
    have hn : n ≤ 2000000 := by omega
    rw [Int.toNat_natCast]
    have C2 : Hid (∀ w1, Below w.heap.size w w1 → Calls Tryz.prog 79 #[.int .i64 n] w1 fun e w' => e = .returned (.string ⟨(Lib.decDigits n).toArray⟩) ∧ Below w1.heap.size w1 w') := Lib.hid fun w1 hb => itoa_c n hn w1 (TabIs_below (B := 0) hp hb)
    have hle := decDigits_le n hn
    have hsp : ∀ w : World, (Op.stringOp .add ⟨#[38, 35]⟩ ⟨(Lib.decDigits n).toArray⟩).run Tryz.prog w = .ok (.string ⟨([38, 35] ++ Lib.decDigits n).toArray⟩) w := fun w => run_sop (w := w) [38, 35] (Lib.decDigits n) (by simp; omega)
    have hsp2 : ∀ w : World, (Op.stringOp .add ⟨([38, 35] ++ Lib.decDigits n).toArray⟩ ⟨#[59]⟩).run Tryz.prog w = .ok (.string ⟨([38, 35] ++ Lib.decDigits n ++ [59]).toArray⟩) w := fun w => run_sop (w := w) ([38, 35] ++ Lib.decDigits n) [59] (by simp; omega)
    have HE : Hid ([38, 35] ++ Lib.decDigits n ++ [59] = 38 :: 35 :: (Lib.decDigits n ++ [59])) := Lib.hid (by simp)
    rw [← HE.out]
    clear hd hT hp hr hle
    generalize [38, 35] ++ Lib.decDigits n ++ [59] = T2 at *
    generalize [38, 35] ++ Lib.decDigits n = T1 at *
    generalize Lib.decDigits n = T0 at *
    go_enter Tryz.func46, Tryz.ntmps46
    go_wp2_with fail
    refine c1.mono ?_
    rintro e w1 ⟨rfl, hb⟩
    have B1 := Lib.hid hb
    clear hb c1
    go_wp2_with fail
    refine (C2.out _ B1.out).mono ?_
    rintro e w2 ⟨rfl, hb⟩
    have B2 := Lib.hid (B1.out.trans (hb.mono B1.out.size))
    clear hb
    go_wp2
    go_ret2
    exact ⟨rfl, B2.out⟩
/-- A reference to a character that may stand in a document is read as it. -/
theorem text_read (r : Int) (h : isDoc r = true) : charAt (textOut r) 0 = (r, (textOut r).length, 0) := by
  have hr := (isDoc_iff r).1 h
  obtain ⟨n, rfl⟩ : ∃ n : Nat, r = (n : Int) := ⟨r.toNat, by omega⟩
  obtain ⟨h1, h2, h3⟩ := dec_digits n
  have e : textOut (n : Int) = 38 :: 35 :: (Lib.decDigits n ++ [59]) := by unfold textOut; rw [if_pos h, Int.toNat_natCast]
  have := char_num (Lib.decDigits n) [] (textOut n) 0 (by rw [e]; rfl) h3 h1
  unfold charAt
  rw [if_neg (by omega)]
  show charOut (textOut n) 0 = _
  rw [this, h2, if_pos h, e]
  simp
end Go.Proofs.YtmclngahdklfkaaGreatDoor
/- Tokens as they are written, and read again. -/
namespace Go.Proofs.YtmclngahdklfkaaGreatDoor
open Go.ChangeShapes Go.WideShapes Go.ChangeAt Go.RowKit
set_option linter.unusedVariables false
/-- What a token is written as, or why it can't be. -/
def putTok (t : TokL) : List UInt8 × Nat :=
  if t.kind = 1 then (if (t.text.any (amL.contains ·) || Lib.contains t.text [93, 93, 62]) = true then ([], 7) else (t.text, 0))
  else if t.kind = 2 then (textOut t.r, if isDoc t.r = true then 0 else 6)
  else if t.kind = 3 then (if isPl t.name = true then (38 :: (t.name ++ [59]), 0) else ([], 7))
  else if t.kind = 4 then putCDataOut t.text
  else if t.kind = 5 then putCommentOut t.text
  else if t.kind = 6 then putPiOut t.name t.text
  else if t.kind = 7 then putOut t.name t.pairs false
  else if t.kind = 8 then putOut t.name t.pairs true
  else if t.kind = 9 then (if checkT t.name [] = 0 then closeT t.name else [], checkT t.name [])
  else ([], 7)
theorem rt_text (l : List UInt8) (c : UInt8) (t : List UInt8) (h : l = c :: t) (h1 : c ≠ 60) (h2 : c ≠ 38) : readTok l 0 = textTok l 0 := by
  subst h
  unfold readTok
  simp only [List.drop_zero]
  rw [if_neg (by simp [Ne.symm h1]), if_neg (by simp [Ne.symm h1]), if_neg (by simp [Ne.symm h1]), if_neg (by simp [Ne.symm h1]), if_neg (by simp [Ne.symm h1]), if_neg (by simp [Ne.symm h2]), if_neg (by simp [Ne.symm h2])]
theorem rt_char (l : List UInt8) (t : List UInt8) (h : l = 38 :: 35 :: t) : readTok l 0 = (⟨2, 0, ((charOut l 0).2.1 : Int), [], [], [], (charOut l 0).1⟩, (charOut l 0).2.2) := by
  unfold readTok
  simp only [List.drop_zero]
  rw [if_neg (by simp [h]), if_neg (by simp [h]), if_neg (by simp [h]), if_neg (by simp [h]), if_neg (by simp [h]), if_pos (by simp [h])]
theorem rt_ref (l : List UInt8) (c : UInt8) (t : List UInt8) (h : l = 38 :: c :: t) (h1 : c ≠ 35) : readTok l 0 = (⟨3, 0, ((refOut 38 l 0).2.1 : Int), (refOut 38 l 0).1, [], [], 0⟩, (refOut 38 l 0).2.2) := by
  unfold readTok
  simp only [List.drop_zero]
  rw [if_neg (by simp [h]), if_neg (by simp [h]), if_neg (by simp [h]), if_neg (by simp [h]), if_neg (by simp [h]), if_neg (by simp [h, Ne.symm h1]), if_pos (by simp [h])]
theorem rt_comment (l : List UInt8) (h : [60, 33, 45, 45].isPrefixOf l = true) : readTok l 0 = (⟨5, 0, ((commentOut l 0).2.1 : Int), [], (commentOut l 0).1, [], 0⟩, (commentOut l 0).2.2) := by
  unfold readTok
  simp only [List.drop_zero]
  rw [if_pos h]
theorem rt_cdata (l t : List UInt8) (h : l = 60 :: 33 :: 91 :: 67 :: 68 :: 65 :: 84 :: 65 :: 91 :: t) : readTok l 0 = (⟨4, 0, ((cdataOut l 0).2.1 : Int), [], (cdataOut l 0).1, [], 0⟩, (cdataOut l 0).2.2) := by
  unfold readTok
  simp only [List.drop_zero]
  rw [if_neg (by simp [h]), if_pos (by simp [h])]
theorem rt_pi (l t : List UInt8) (h : l = 60 :: 63 :: t) : readTok l 0 = (⟨6, 0, ((piOut l 0).2.2.1 : Int), (piOut l 0).1, (piOut l 0).2.1, [], 0⟩, (piOut l 0).2.2.2) := by
  unfold readTok
  simp only [List.drop_zero]
  rw [if_neg (by simp [h]), if_neg (by simp [h]), if_pos (by simp [h])]
theorem rt_close (l t : List UInt8) (h : l = 60 :: 47 :: t) : readTok l 0 = (⟨9, 0, ((closeOut l 0).2.1 : Int), (closeOut l 0).1, [], [], 0⟩, (closeOut l 0).2.2) := by
  unfold readTok
  simp only [List.drop_zero]
  rw [if_neg (by simp [h]), if_neg (by simp [h]), if_neg (by simp [h]), if_pos (by simp [h])]
theorem rt_open (l : List UInt8) (c : UInt8) (t : List UInt8) (h : l = 60 :: c :: t) (h1 : c ≠ 33) (h2 : c ≠ 63) (h3 : c ≠ 47) : readTok l 0 = (⟨if (openOut l 0).1.empty = true then 8 else 7, 0, ((openOut l 0).2.1 : Int), (openOut l 0).1.name, [], (openOut l 0).1.pairs, 0⟩, (openOut l 0).2.2) := by
  unfold readTok
  simp only [List.drop_zero]
  rw [if_neg (by simp [h, Ne.symm h1]), if_neg (by simp [h, Ne.symm h1]), if_neg (by simp [h, Ne.symm h2]), if_neg (by simp [h, Ne.symm h3]), if_pos (by simp [h])]
theorem next_of {l : List UInt8} {k : TokL} (h : readTok l 0 = (k, 0)) : nextOut l 0 = ({ k with fro := 0 }, 0) := by
  unfold nextOut
  rw [h, if_pos rfl]
  rfl
theorem txt_all : ∀ (l : List UInt8), l.any (amL.contains ·) = false → txt l = l
  | [], _ => rfl
  | c :: l, h => by
    rw [List.any_cons, Bool.or_eq_false_iff] at h
    have h1 : c ≠ 60 := fun e => by rw [e] at h; exact absurd h.1 (by decide)
    have h2 : c ≠ 38 := fun e => by rw [e] at h; exact absurd h.1 (by decide)
    rw [txt_cons (by simp [inTx, h1, h2]), txt_all l h.2]
/-- A name begins with a character that may begin one, so with no mark. -/
theorem pl_head {s : List UInt8} (h : isPl s = true) : ∃ c t, s = c :: t ∧ c ≠ 35 := by
  unfold isPl wholeB at h
  cases s with
  | nil => cases h
  | cons c t =>
    refine ⟨c, t, rfl, fun e => ?_⟩
    subst e
    have he := (Bool.and_eq_true_iff.1 h).2
    rw [decide_eq_true_eq, endL_stop _ _ 35 t (by decide) (by decide +kernel)] at he
    simp at he
theorem pl_plain {s : List UInt8} (h : isPl s = true) : plainOut (38 :: (s ++ [59])) 1 = if 1024 < s.length then ([], 0, 11) else (s, 1 + s.length, 0) := by
  have hne : s ≠ [] := by
    intro e
    subst e
    simp [isPl, wholeB] at h
  have hend : endL (noColon isStart) (noColon isMore) s.length s = s.length := by
    unfold isPl at h
    rw [endL_wholeB _ _ _ hne] at h
    simpa using h
  have h0 : s.length ≠ 0 := fun e => hne (List.length_eq_zero_iff.1 e)
  unfold plainOut
  simp only [List.drop_succ_cons, List.drop_zero]
  rw [endL_app (noColon isMore) [59] (endL_stop _ _ 59 [] (by decide) (by decide +kernel)) s.length _ s _ hne (Nat.le_refl _) hend (by simp; omega)]
  rw [if_neg h0]
  split
  · rfl
  · rw [List.take_left]
theorem pl_ref {s : List UInt8} (h : isPl s = true) : refOut 38 (38 :: (s ++ [59])) 0 = if 1024 < s.length then ([], 0, 11) else (s, s.length + 2, 0) := by
  have hp := pl_plain h
  unfold refOut
  rw [show (38 :: (s ++ [59]))[0]? = some 38 by rfl]
  simp only [if_true, Nat.zero_add]
  rw [hp]
  by_cases hl : 1024 < s.length
  · rw [if_pos hl, if_pos hl, if_pos (by simp)]
  · rw [if_neg hl, if_neg hl, if_neg (by simp)]
    have : (38 :: (s ++ [59]))[1 + s.length]? = some 59 := by
      rw [show 1 + s.length = s.length + 1 by omega, List.getElem?_cons_succ, List.getElem?_append_right (Nat.le_refl _), Nat.sub_self]
      rfl
    simp only
    rw [this]
    simp only [if_true]
    rw [show 1 + s.length + 1 = s.length + 2 by omega]
theorem nameOk_head {s : List UInt8} (h : nameOk s = true) : ∃ c t, s = c :: t ∧ c ≠ 33 ∧ c ≠ 63 ∧ c ≠ 47 := by
  obtain ⟨hne, he, _⟩ := name_whole h
  cases s with
  | nil => exact absurd rfl hne
  | cons c t =>
    have key : ∀ d : UInt8, d.toNat < 128 → isStart (d.toNat : Int) = false → c ≠ d := by
      intro d hd hs e
      subst e
      rw [endL_stop _ _ c t hd hs] at he
      simp at he
    exact ⟨c, t, rfl, key 33 (by decide) (by decide +kernel), key 63 (by decide) (by decide +kernel), key 47 (by decide) (by decide +kernel)⟩
theorem back1 {t : TokL} (hk : t.kind = 1) {s : List UInt8} (hp : putTok t = (s, 0)) (hs : s ≠ []) : s = t.text ∧ nextOut s 0 = (⟨1, 0, (s.length : Int), [], t.text, [], 0⟩, 0) := by
  unfold putTok at hp
  rw [if_pos hk] at hp
  split at hp
  · cases hp
  · rename_i hb
    obtain ⟨rfl, _⟩ := Prod.mk.inj hp
    simp only [Bool.or_eq_true, not_or, Bool.not_eq_true] at hb
    refine ⟨rfl, next_of (k := ⟨1, 0, (t.text.length : Int), [], t.text, [], 0⟩) ?_⟩
    have ht := txt_all t.text hb.1
    have hf := hb.2
    have ha := hb.1
    generalize t.text = x at *
    cases x with
    | nil => exact absurd rfl hs
    | cons c u =>
      have := List.any_eq_false.1 ha c List.mem_cons_self
      rw [rt_text _ c u rfl (fun e => this (by subst e; decide)) (fun e => this (by subst e; decide))]
      unfold textTok
      rw [List.drop_zero, ht, if_neg (by rw [hf]; simp), Nat.zero_add]
theorem back2 {t : TokL} (hk : t.kind = 2) {s : List UInt8} (hp : putTok t = (s, 0)) : nextOut s 0 = (⟨2, 0, (s.length : Int), [], [], [], t.r⟩, 0) := by
  unfold putTok at hp
  rw [if_neg (by omega), if_pos hk] at hp
  cases hd : isDoc t.r with
  | false => rw [hd] at hp; cases hp
  | true =>
    obtain ⟨rfl, _⟩ := Prod.mk.inj hp
    have hr := text_read t.r hd
    unfold charAt at hr
    rw [if_neg (by omega)] at hr
    change charOut (textOut t.r) 0 = _ at hr
    have e : textOut t.r = 38 :: 35 :: (Lib.decDigits t.r.toNat ++ [59]) := by unfold textOut; rw [if_pos hd]
    refine next_of (k := ⟨2, 0, ((textOut t.r).length : Int), [], [], [], t.r⟩) ?_
    rw [rt_char _ _ e, hr]
theorem back3 {t : TokL} (hk : t.kind = 3) {s : List UInt8} (hp : putTok t = (s, 0)) : nextOut s 0 = if 1024 < t.name.length then (noTok, 11) else (⟨3, 0, (s.length : Int), t.name, [], [], 0⟩, 0) := by
  unfold putTok at hp
  rw [if_neg (by omega), if_neg (by omega), if_pos hk] at hp
  split at hp
  · rename_i hn
    obtain ⟨rfl, _⟩ := Prod.mk.inj hp
    obtain ⟨c, u, hc, h35⟩ := pl_head hn
    have hr := pl_ref hn
    have hrt := rt_ref (38 :: (t.name ++ [59])) c (u ++ [59]) (by rw [hc]; rfl) h35
    rw [hr] at hrt
    split
    · rename_i hl
      rw [if_pos hl] at hrt
      unfold nextOut
      rw [hrt, if_neg (by simp)]
    · rename_i hl
      rw [if_neg hl] at hrt
      refine next_of (k := ⟨3, 0, ((38 :: (t.name ++ [59])).length : Int), t.name, [], [], 0⟩) ?_
      rw [hrt]
      simp
      omega
  · cases hp
theorem back4 {t : TokL} (hk : t.kind = 4) {s : List UInt8} (hp : putTok t = (s, 0)) : nextOut s 0 = (⟨4, 0, (s.length : Int), [], t.text, [], 0⟩, 0) := by
  unfold putTok at hp
  rw [if_neg (by omega), if_neg (by omega), if_neg (by omega), if_pos hk] at hp
  unfold putCDataOut at hp
  split at hp
  · rename_i hm
    obtain ⟨rfl, _⟩ := Prod.mk.inj hp
    have hr := put_cdata t.text hm
    refine next_of (k := ⟨4, 0, (([60, 33, 91, 67, 68, 65, 84, 65, 91] ++ t.text ++ [93, 93, 62]).length : Int), [], t.text, [], 0⟩) ?_
    rw [rt_cdata _ (t.text ++ [93, 93, 62]) (by simp), hr]
    simp
    omega
  · cases hp
theorem back5 {t : TokL} (hk : t.kind = 5) {s : List UInt8} (hp : putTok t = (s, 0)) : nextOut s 0 = (⟨5, 0, (s.length : Int), [], t.text, [], 0⟩, 0) := by
  unfold putTok at hp
  rw [if_neg (by omega), if_neg (by omega), if_neg (by omega), if_neg (by omega), if_pos hk] at hp
  unfold putCommentOut at hp
  split at hp
  · rename_i hm
    obtain ⟨rfl, _⟩ := Prod.mk.inj hp
    have hr := put_comment t.text hm
    refine next_of (k := ⟨5, 0, (([60, 33, 45, 45] ++ t.text ++ [45, 45, 62]).length : Int), [], t.text, [], 0⟩) ?_
    rw [rt_comment _ (by simp), hr]
    simp
    omega
  · cases hp
theorem putPi_cases' (t d : List UInt8) : (putPiOut t d).2 ≠ 0 ∨ (isPl t = true ∧ resB t = false ∧ Lib.contains d [63, 62] = false ∧ blankHead d = false ∧ t.length ≤ 1024 ∧ putPiOut t d = ([60, 63] ++ t ++ dataOf d ++ [63, 62], 0)) := by
  by_cases h : isPl t = false ∨ resB t = true ∨ Lib.contains d [63, 62] = true ∨ blankHead d = true
  · left; rw [putPi_bad t d h]; simp
  · simp only [not_or, Bool.not_eq_true, Bool.not_eq_false] at h
    obtain ⟨h1, h2, h3, h4⟩ := h
    by_cases hl : 1024 < t.length
    · left; rw [putPi_long t d h1 h2 h3 h4 hl]; simp
    · right; exact ⟨h1, h2, h3, h4, by omega, putPi_ok t d h1 h2 h3 h4 hl⟩
theorem back6 {t : TokL} (hk : t.kind = 6) {s : List UInt8} (hp : putTok t = (s, 0)) : nextOut s 0 = (⟨6, 0, (s.length : Int), t.name, t.text, [], 0⟩, 0) := by
  unfold putTok at hp
  rw [if_neg (by omega), if_neg (by omega), if_neg (by omega), if_neg (by omega), if_neg (by omega), if_pos hk] at hp
  rcases putPi_cases' t.name t.text with h | ⟨h1, h2, h3, h4, h5, h6⟩
  · rw [hp] at h; exact absurd rfl h
  · rw [h6] at hp
    obtain ⟨rfl, _⟩ := Prod.mk.inj hp
    have hr := put_pi t.name t.text h5 h1 h2 h3 h4
    refine next_of (k := ⟨6, 0, (([60, 63] ++ t.name ++ dataOf t.text ++ [63, 62]).length : Int), t.name, t.text, [], 0⟩) ?_
    rw [rt_pi _ (t.name ++ dataOf t.text ++ [63, 62]) (by simp), hr]
theorem back_tag (n : List UInt8) (ps : List PairL) (em : Bool) {s : List UInt8} (hp : putOut n ps em = (s, 0)) : nextOut s 0 = (⟨if em = true then 8 else 7, 0, (s.length : Int), n, [], ps, 0⟩, 0) := by
  unfold putOut at hp
  split at hp
  · rename_i hc
    obtain ⟨rfl, _⟩ := Prod.mk.inj hp
    obtain ⟨h1, h2⟩ := checkT_ok hc
    have hr := tag_back ⟨n, ps, em⟩ h1 h2
    obtain ⟨c, u, hcu, h33, h63, h47⟩ := nameOk_head h1
    refine next_of (k := ⟨if em = true then 8 else 7, 0, ((tagT ⟨n, ps, em⟩).length : Int), n, [], ps, 0⟩) ?_
    rw [rt_open (tagT ⟨n, ps, em⟩) c (u ++ (pairsT ps ++ endT em)) (by simp [tagT, hcu]) h33 h63 h47, hr]
  · rename_i hc
    exact absurd (Prod.mk.inj hp).2 hc
theorem back7 {t : TokL} (hk : t.kind = 7) {s : List UInt8} (hp : putTok t = (s, 0)) : nextOut s 0 = (⟨7, 0, (s.length : Int), t.name, [], t.pairs, 0⟩, 0) := by
  unfold putTok at hp
  rw [if_neg (by omega), if_neg (by omega), if_neg (by omega), if_neg (by omega), if_neg (by omega), if_neg (by omega), if_pos hk] at hp
  exact back_tag _ _ _ hp
theorem back8 {t : TokL} (hk : t.kind = 8) {s : List UInt8} (hp : putTok t = (s, 0)) : nextOut s 0 = (⟨8, 0, (s.length : Int), t.name, [], t.pairs, 0⟩, 0) := by
  unfold putTok at hp
  rw [if_neg (by omega), if_neg (by omega), if_neg (by omega), if_neg (by omega), if_neg (by omega), if_neg (by omega), if_neg (by omega), if_pos hk] at hp
  exact back_tag _ _ _ hp
theorem back9 {t : TokL} (hk : t.kind = 9) {s : List UInt8} (hp : putTok t = (s, 0)) : nextOut s 0 = (⟨9, 0, (s.length : Int), t.name, [], [], 0⟩, 0) := by
  unfold putTok at hp
  rw [if_neg (by omega), if_neg (by omega), if_neg (by omega), if_neg (by omega), if_neg (by omega), if_neg (by omega), if_neg (by omega), if_neg (by omega), if_pos hk] at hp
  obtain ⟨h1, h2⟩ := Prod.mk.inj hp
  rw [if_pos h2] at h1
  subst h1
  have hr := close_back t.name (checkT_ok h2).1
  refine next_of (k := ⟨9, 0, ((closeT t.name).length : Int), t.name, [], [], 0⟩) ?_
  rw [rt_close (closeT t.name) (t.name ++ [62]) rfl, hr]
theorem put_none {t : TokL} (h : ∀ k : Int, 1 ≤ k → k ≤ 9 → t.kind ≠ k) : putTok t = ([], 7) := by
  unfold putTok
  rw [if_neg (h 1 (by omega) (by omega)), if_neg (h 2 (by omega) (by omega)), if_neg (h 3 (by omega) (by omega)), if_neg (h 4 (by omega) (by omega)), if_neg (h 5 (by omega) (by omega)), if_neg (h 6 (by omega) (by omega)), if_neg (h 7 (by omega) (by omega)), if_neg (h 8 (by omega) (by omega)), if_neg (h 9 (by omega) (by omega))]
end Go.Proofs.YtmclngahdklfkaaGreatDoor
/- tok.Put. -/
namespace Go.Proofs.YtmclngahdklfkaaGreatDoor
open Go.ChangeShapes Go.WideShapes Go.ChangeAt Go.RowKit
set_option linter.unusedVariables false
/-- What is asked of the world where tokens are put. -/
structure W11P (w : World) : Prop extends W11 w where
  pow : Lib.TabIs Tryz.prog w "internal/strconv.uint64pow10" .u64 Lib.pow10Tab
theorem W11P.up {w w' : World} (h : W11P w) (hb : Below w.heap.size w w') : W11P w' := ⟨h.toW11.below hb, TabIs_below (B := 0) h.pow hb⟩
theorem contains_mem (s : List UInt8) (c : UInt8) : Lib.contains s [c] = true ↔ c ∈ s := by
  rw [contains_iff s [c] (by simp)]
  constructor
  · rintro ⟨j, hj, hp⟩
    have := pre_get hp 0 (by simp)
    exact List.mem_of_getElem? this
  · intro h
    obtain ⟨j, hj⟩ := List.mem_iff_getElem?.1 h
    refine ⟨j, ?_, pre_of_get fun i hi => ?_⟩
    · have := (List.getElem?_eq_some_iff.1 hj).1
      simp
      omega
    · obtain rfl : i = 0 := by simpa using hi
      simpa using hj
theorem any_two (s : List UInt8) : s.any (amL.contains ·) = (Lib.contains s [60] || Lib.contains s [38]) := by
  rw [Bool.eq_iff_iff, List.any_eq_true, Bool.or_eq_true, contains_mem, contains_mem]
  constructor
  · rintro ⟨c, hc, h⟩
    have h1 : c = 60 ∨ c = 38 := by simpa [amL] using h
    rcases h1 with rfl | rfl
    · exact .inl hc
    · exact .inr hc
  · rintro (h | h)
    · exact ⟨_, h, by decide⟩
    · exact ⟨_, h, by decide⟩
set_option maxRecDepth 100000 in
set_option maxHeartbeats 4000000 in
theorem tokPut1_c (fro to_ r : Int) (name text : List UInt8) (PA : Option Addr) (pn pc : Nat) (ps : List PairL) (w : World) (hW : W11P w) (ht : text.length ≤ 5000) :
    Calls Tryz.prog 26 #[.agg #[.int .i64 1, .int .i64 fro, .int .i64 to_, .string ⟨name.toArray⟩, .string ⟨text.toArray⟩, .slice PA pn pc, .int .i64 r]] w fun e w' => e = .returned (out2V (putTok ⟨1, fro, to_, name, text, ps, r⟩)) ∧ Below w.heap.size w w' := by
  have J0 := Lib.hid (CJ.start 26 w #[.int .i64 1, .int .i64 fro, .int .i64 to_, .string ⟨name.toArray⟩, .string ⟨text.toArray⟩, .slice PA pn pc, .int .i64 r])
  have C1 := Lib.hid (containsAny_am text (w.alloc (.cells #[.int .i64 1, .int .i64 fro, .int .i64 to_, .string ⟨name.toArray⟩, .string ⟨text.toArray⟩, .slice PA pn pc, .int .i64 r] 26)) (by omega))
  have C2 : Hid (∀ W, Below w.heap.size w W → Calls Tryz.prog 45 #[.string ⟨text.toArray⟩, .string ⟨#[93, 93, 62]⟩] W fun e w' => e = .returned (.bool (Lib.contains text [93, 93, 62])) ∧ W = w') := Lib.hid fun W hb => contains_c text [93, 93, 62] W (hW.toW11.below hb).maxl (by omega)
  have HE : putTok ⟨1, fro, to_, name, text, ps, r⟩ = if (Lib.containsAny text amL || Lib.contains text [93, 93, 62]) = true then ([], 7) else (text, 0) := by
    unfold putTok
    rw [if_pos rfl, containsAny_am_all]
  rw [HE]
  clear HE hW ht
  have z0 := cell_of 0 J0.out.2
  have z4 := cell_of 4 J0.out.2
  generalize Lib.containsAny text amL = b1 at *
  generalize Lib.contains text [93, 93, 62] = b2 at *
  cases b1
  · cases b2
    all_goals
      go_enter Tryz.func26, Tryz.ntmps26
      go_wp2_with fail
      refine C1.out.mono ?_
      rintro e w1 ⟨rfl, hb⟩
      have J1 := Lib.hid (J0.out.kept hb)
      clear hb z0 z4
      have z4 := cell_of 4 J1.out.2
      go_wp2_with fail
      refine (C2.out _ J1.out.1).mono ?_
      rintro e wq ⟨rfl, rfl⟩
      go_wp2
      go_ret2
      exact ⟨rfl, J1.out.1⟩
  · go_enter Tryz.func26, Tryz.ntmps26
    go_wp2_with fail
    refine C1.out.mono ?_
    rintro e w1 ⟨rfl, hb⟩
    have J1 := Lib.hid (J0.out.kept hb)
    clear hb z0 z4
    have z4 := cell_of 4 J1.out.2
    go_wp2
    go_ret2
    exact ⟨rfl, J1.out.1⟩
set_option maxRecDepth 100000 in
set_option maxHeartbeats 4000000 in
theorem tokPut2_c (fro to_ r : Int) (name text : List UInt8) (PA : Option Addr) (pn pc : Nat) (ps : List PairL) (w : World) (hW : W11P w) :
    Calls Tryz.prog 26 #[.agg #[.int .i64 2, .int .i64 fro, .int .i64 to_, .string ⟨name.toArray⟩, .string ⟨text.toArray⟩, .slice PA pn pc, .int .i64 r]] w fun e w' => e = .returned (out2V (putTok ⟨2, fro, to_, name, text, ps, r⟩)) ∧ Below w.heap.size w w' := by
  have J0 := Lib.hid (CJ.start 26 w #[.int .i64 2, .int .i64 fro, .int .i64 to_, .string ⟨name.toArray⟩, .string ⟨text.toArray⟩, .slice PA pn pc, .int .i64 r])
  have C1 := Lib.hid (text_c r _ (hW.up J0.out.1).tabs (hW.up J0.out.1).pow)
  have HE : putTok ⟨2, fro, to_, name, text, ps, r⟩ = (textOut r, if isDoc r = true then 0 else 6) := by
    unfold putTok
    rw [if_neg (by simp), if_pos rfl]
  have HO : Hid (.returned (out2V (textOut r, if isDoc r = true then 0 else 6)) = Ending.returned (.tuple #[.string ⟨(textOut r).toArray⟩, .int .i64 (if isDoc r = true then 0 else 6)])) := Lib.hid (by cases isDoc r <;> rfl)
  rw [HE, HO.out]
  clear HE HO hW
  have z0 := cell_of 0 J0.out.2
  have z6 := cell_of 6 J0.out.2
  generalize textOut r = T at *
  generalize (if isDoc r = true then (0 : Int) else 6) = E at *
  go_enter Tryz.func26, Tryz.ntmps26
  go_wp2_with fail
  refine C1.out.mono ?_
  rintro e w1 ⟨rfl, hb⟩
  have B1 := Lib.hid (J0.out.1.trans (hb.mono J0.out.1.size))
  clear hb
  go_wp2
  go_ret2
  exact ⟨rfl, B1.out⟩
set_option maxRecDepth 100000 in
set_option maxHeartbeats 4000000 in
theorem tokPut3_c (fro to_ r : Int) (name text : List UInt8) (PA : Option Addr) (pn pc : Nat) (ps : List PairL) (w : World) (hW : W11P w) (hn : name.length ≤ 5000) :
    Calls Tryz.prog 26 #[.agg #[.int .i64 3, .int .i64 fro, .int .i64 to_, .string ⟨name.toArray⟩, .string ⟨text.toArray⟩, .slice PA pn pc, .int .i64 r]] w fun e w' => e = .returned (out2V (putTok ⟨3, fro, to_, name, text, ps, r⟩)) ∧ Below w.heap.size w w' := by
  have J0 := Lib.hid (CJ.start 26 w #[.int .i64 3, .int .i64 fro, .int .i64 to_, .string ⟨name.toArray⟩, .string ⟨text.toArray⟩, .slice PA pn pc, .int .i64 r])
  have C1 : Hid (Calls Tryz.prog 47 #[.string ⟨name.toArray⟩] (w.alloc (.cells #[.int .i64 3, .int .i64 fro, .int .i64 to_, .string ⟨name.toArray⟩, .string ⟨text.toArray⟩, .slice PA pn pc, .int .i64 r] 26)) fun e w' => e = .returned (.bool (isPl name)) ∧ Below (w.alloc (.cells #[.int .i64 3, .int .i64 fro, .int .i64 to_, .string ⟨name.toArray⟩, .string ⟨text.toArray⟩, .slice PA pn pc, .int .i64 r] 26)).heap.size (w.alloc (.cells #[.int .i64 3, .int .i64 fro, .int .i64 to_, .string ⟨name.toArray⟩, .string ⟨text.toArray⟩, .slice PA pn pc, .int .i64 r] 26)) w') := Lib.hid (isPlain_c name _ (hW.up J0.out.1).forms (hW.up J0.out.1).tabs.n (by omega))
  have HE : putTok ⟨3, fro, to_, name, text, ps, r⟩ = if isPl name = true then ([38] ++ name ++ [59], 0) else ([], 7) := by
    unfold putTok
    rw [if_neg (by simp), if_neg (by simp), if_pos rfl]
    simp
  have sp0 : ∀ W : World, (Op.stringOp .add ⟨#[38]⟩ ⟨name.toArray⟩).run Tryz.prog W = .ok (.string ⟨([38] ++ name).toArray⟩) W := fun W => run_sop (w := W) [38] name (by simp; omega)
  have sp1 : ∀ W : World, (Op.stringOp .add ⟨([38] ++ name).toArray⟩ ⟨#[59]⟩).run Tryz.prog W = .ok (.string ⟨([38] ++ name ++ [59]).toArray⟩) W := fun W => run_sop (w := W) ([38] ++ name) [59] (by simp; omega)
  rw [HE]
  clear HE hW hn
  have z0 := cell_of 0 J0.out.2
  have z3 := cell_of 3 J0.out.2
  generalize [38] ++ name ++ [59] = T2 at *
  generalize [38] ++ name = T1 at *
  generalize isPl name = b at *
  cases b
  all_goals
    go_enter Tryz.func26, Tryz.ntmps26
    go_wp2_with fail
    refine C1.out.mono ?_
    rintro e w1 ⟨rfl, hb⟩
    have J1 := Lib.hid (J0.out.kept hb)
    clear hb z0 z3
    have z3 := cell_of 3 J1.out.2
    go_wp2
    go_ret2
    exact ⟨rfl, J1.out.1⟩
set_option maxRecDepth 100000 in
set_option maxHeartbeats 4000000 in
theorem tokPut4_c (fro to_ r : Int) (name text : List UInt8) (PA : Option Addr) (pn pc : Nat) (ps : List PairL) (w : World) (hW : W11P w) (ht : text.length ≤ 5000) :
    Calls Tryz.prog 26 #[.agg #[.int .i64 4, .int .i64 fro, .int .i64 to_, .string ⟨name.toArray⟩, .string ⟨text.toArray⟩, .slice PA pn pc, .int .i64 r]] w fun e w' => e = .returned (out2V (putTok ⟨4, fro, to_, name, text, ps, r⟩)) ∧ Below w.heap.size w w' := by
  have J0 := Lib.hid (CJ.start 26 w #[.int .i64 4, .int .i64 fro, .int .i64 to_, .string ⟨name.toArray⟩, .string ⟨text.toArray⟩, .slice PA pn pc, .int .i64 r])
  have C1 := Lib.hid (miscPutCData_c text _ (hW.up J0.out.1).maxl (by omega))
  have HE : putTok ⟨4, fro, to_, name, text, ps, r⟩ = putCDataOut text := by
    unfold putTok
    simp
  rw [HE]
  clear HE hW ht
  have z0 := cell_of 0 J0.out.2
  have z4 := cell_of 4 J0.out.2
  unfold out2V
  generalize putCDataOut text = R at *
  go_enter Tryz.func26, Tryz.ntmps26
  go_wp2_with fail
  refine C1.out.mono ?_
  rintro e w1 ⟨rfl, hb⟩
  have B1 := Lib.hid (J0.out.1.trans (hb.mono J0.out.1.size))
  clear hb
  go_wp2
  go_ret2
  exact ⟨rfl, B1.out⟩
set_option maxRecDepth 100000 in
set_option maxHeartbeats 4000000 in
theorem tokPut5_c (fro to_ r : Int) (name text : List UInt8) (PA : Option Addr) (pn pc : Nat) (ps : List PairL) (w : World) (hW : W11P w) (ht : text.length ≤ 5000) :
    Calls Tryz.prog 26 #[.agg #[.int .i64 5, .int .i64 fro, .int .i64 to_, .string ⟨name.toArray⟩, .string ⟨text.toArray⟩, .slice PA pn pc, .int .i64 r]] w fun e w' => e = .returned (out2V (putTok ⟨5, fro, to_, name, text, ps, r⟩)) ∧ Below w.heap.size w w' := by
  have J0 := Lib.hid (CJ.start 26 w #[.int .i64 5, .int .i64 fro, .int .i64 to_, .string ⟨name.toArray⟩, .string ⟨text.toArray⟩, .slice PA pn pc, .int .i64 r])
  have C1 := Lib.hid (miscPutComment_c text _ (hW.up J0.out.1).maxl (by omega))
  have HE : putTok ⟨5, fro, to_, name, text, ps, r⟩ = putCommentOut text := by
    unfold putTok
    simp
  rw [HE]
  clear HE hW ht
  have z0 := cell_of 0 J0.out.2
  have z4 := cell_of 4 J0.out.2
  unfold out2V
  generalize putCommentOut text = R at *
  go_enter Tryz.func26, Tryz.ntmps26
  go_wp2_with fail
  refine C1.out.mono ?_
  rintro e w1 ⟨rfl, hb⟩
  have B1 := Lib.hid (J0.out.1.trans (hb.mono J0.out.1.size))
  clear hb
  go_wp2
  go_ret2
  exact ⟨rfl, B1.out⟩
set_option maxRecDepth 100000 in
set_option maxHeartbeats 4000000 in
theorem tokPut6_c (fro to_ r : Int) (name text : List UInt8) (PA : Option Addr) (pn pc : Nat) (ps : List PairL) (w : World) (hW : W11P w) (hn : name.length ≤ 5000) (ht : text.length ≤ 5000) :
    Calls Tryz.prog 26 #[.agg #[.int .i64 6, .int .i64 fro, .int .i64 to_, .string ⟨name.toArray⟩, .string ⟨text.toArray⟩, .slice PA pn pc, .int .i64 r]] w fun e w' => e = .returned (out2V (putTok ⟨6, fro, to_, name, text, ps, r⟩)) ∧ Below w.heap.size w w' := by
  have J0 := Lib.hid (CJ.start 26 w #[.int .i64 6, .int .i64 fro, .int .i64 to_, .string ⟨name.toArray⟩, .string ⟨text.toArray⟩, .slice PA pn pc, .int .i64 r])
  have C1 := Lib.hid (putPi_c name text _ (hW.up J0.out.1).toW11.w8f (by omega) (by omega))
  have HE : putTok ⟨6, fro, to_, name, text, ps, r⟩ = putPiOut name text := by
    unfold putTok
    simp
  rw [HE]
  clear HE hW ht hn
  have z0 := cell_of 0 J0.out.2
  have z3 := cell_of 3 J0.out.2
  have z4 := cell_of 4 J0.out.2
  unfold out2V at *
  generalize putPiOut name text = R at *
  go_enter Tryz.func26, Tryz.ntmps26
  go_wp2_with fail
  refine C1.out.mono ?_
  rintro e w1 ⟨rfl, hb⟩
  have B1 := Lib.hid (J0.out.1.trans (hb.mono J0.out.1.size))
  clear hb
  go_wp2
  go_ret2
  exact ⟨rfl, B1.out⟩
set_option maxRecDepth 100000 in
set_option maxHeartbeats 4000000 in
theorem tokPut7_c (fro to_ r : Int) (name text : List UInt8) (PA : Option Addr) (pn pc : Nat) (ps : List PairL) (w : World) (hW : W11P w) (h : PRd w w.heap.size PA pn pc ps) (hn : name.length ≤ 5000) (hp : pn ≤ 5000) (hps : ∀ p ∈ ps, p.1.length ≤ 40000 ∧ p.2.length ≤ 40000) :
    Calls Tryz.prog 26 #[.agg #[.int .i64 7, .int .i64 fro, .int .i64 to_, .string ⟨name.toArray⟩, .string ⟨text.toArray⟩, .slice PA pn pc, .int .i64 r]] w fun e w' => e = .returned (out2V (putTok ⟨7, fro, to_, name, text, ps, r⟩)) ∧ Below w.heap.size w w' := by
  have J0 := Lib.hid (CJ.start 26 w #[.int .i64 7, .int .i64 fro, .int .i64 to_, .string ⟨name.toArray⟩, .string ⟨text.toArray⟩, .slice PA pn pc, .int .i64 r])
  have C1 := Lib.hid (tagPut_c name PA pn pc ps false _ ((h.below J0.out.1).more J0.out.1.size) (hW.up J0.out.1).toW11.w10 (by omega) (by omega) hps)
  have HE : putTok ⟨7, fro, to_, name, text, ps, r⟩ = putOut name ps false := by
    unfold putTok
    simp
  rw [HE]
  clear HE hW h hn hp hps
  have z0 := cell_of 0 J0.out.2
  have z3 := cell_of 3 J0.out.2
  have z5 := cell_of 5 J0.out.2
  unfold out2V
  generalize putOut name ps false = R at *
  go_enter Tryz.func26, Tryz.ntmps26
  go_wp2_with fail
  refine C1.out.mono ?_
  rintro e w1 ⟨rfl, hb⟩
  have B1 := Lib.hid (J0.out.1.trans (hb.mono J0.out.1.size))
  clear hb
  go_wp2
  go_ret2
  exact ⟨rfl, B1.out⟩
set_option maxRecDepth 100000 in
set_option maxHeartbeats 4000000 in
theorem tokPut8_c (fro to_ r : Int) (name text : List UInt8) (PA : Option Addr) (pn pc : Nat) (ps : List PairL) (w : World) (hW : W11P w) (h : PRd w w.heap.size PA pn pc ps) (hn : name.length ≤ 5000) (hp : pn ≤ 5000) (hps : ∀ p ∈ ps, p.1.length ≤ 40000 ∧ p.2.length ≤ 40000) :
    Calls Tryz.prog 26 #[.agg #[.int .i64 8, .int .i64 fro, .int .i64 to_, .string ⟨name.toArray⟩, .string ⟨text.toArray⟩, .slice PA pn pc, .int .i64 r]] w fun e w' => e = .returned (out2V (putTok ⟨8, fro, to_, name, text, ps, r⟩)) ∧ Below w.heap.size w w' := by
  have J0 := Lib.hid (CJ.start 26 w #[.int .i64 8, .int .i64 fro, .int .i64 to_, .string ⟨name.toArray⟩, .string ⟨text.toArray⟩, .slice PA pn pc, .int .i64 r])
  have C1 := Lib.hid (tagPut_c name PA pn pc ps true _ ((h.below J0.out.1).more J0.out.1.size) (hW.up J0.out.1).toW11.w10 (by omega) (by omega) hps)
  have HE : putTok ⟨8, fro, to_, name, text, ps, r⟩ = putOut name ps true := by
    unfold putTok
    simp
  rw [HE]
  clear HE hW h hn hp hps
  have z0 := cell_of 0 J0.out.2
  have z3 := cell_of 3 J0.out.2
  have z5 := cell_of 5 J0.out.2
  unfold out2V
  generalize putOut name ps true = R at *
  go_enter Tryz.func26, Tryz.ntmps26
  go_wp2_with fail
  refine C1.out.mono ?_
  rintro e w1 ⟨rfl, hb⟩
  have B1 := Lib.hid (J0.out.1.trans (hb.mono J0.out.1.size))
  clear hb
  go_wp2
  go_ret2
  exact ⟨rfl, B1.out⟩
set_option maxRecDepth 100000 in
set_option maxHeartbeats 4000000 in
theorem tokPut9_c (fro to_ r : Int) (name text : List UInt8) (PA : Option Addr) (pn pc : Nat) (ps : List PairL) (w : World) (hW : W11P w) (hn : name.length ≤ 5000) :
    Calls Tryz.prog 26 #[.agg #[.int .i64 9, .int .i64 fro, .int .i64 to_, .string ⟨name.toArray⟩, .string ⟨text.toArray⟩, .slice PA pn pc, .int .i64 r]] w fun e w' => e = .returned (out2V (putTok ⟨9, fro, to_, name, text, ps, r⟩)) ∧ Below w.heap.size w w' := by
  have J0 := Lib.hid (CJ.start 26 w #[.int .i64 9, .int .i64 fro, .int .i64 to_, .string ⟨name.toArray⟩, .string ⟨text.toArray⟩, .slice PA pn pc, .int .i64 r])
  have C1 := Lib.hid (putEnd_c name _ (hW.up J0.out.1).toW11.w10 (by omega))
  have HE : putTok ⟨9, fro, to_, name, text, ps, r⟩ = (if checkT name [] = 0 then 60 :: 47 :: (name ++ [62]) else [], checkT name []) := by
    unfold putTok
    simp [closeT]
  rw [HE]
  clear HE hW hn
  have z0 := cell_of 0 J0.out.2
  have z3 := cell_of 3 J0.out.2
  unfold out2V
  simp only
  generalize (if checkT name [] = 0 then 60 :: 47 :: (name ++ [62]) else []) = T at *
  generalize checkT name [] = K at *
  go_enter Tryz.func26, Tryz.ntmps26
  go_wp2_with fail
  refine C1.out.mono ?_
  rintro e w1 ⟨rfl, hb⟩
  have B1 := Lib.hid (J0.out.1.trans (hb.mono J0.out.1.size))
  clear hb
  go_wp2
  go_ret2
  exact ⟨rfl, B1.out⟩
set_option maxRecDepth 100000 in
set_option maxHeartbeats 4000000 in
theorem tokPutX_c (k fro to_ r : Int) (name text : List UInt8) (PA : Option Addr) (pn pc : Nat) (ps : List PairL) (w : World)  (hk : ∀ j : Int, 1 ≤ j → j ≤ 9 → k ≠ j) :
    Calls Tryz.prog 26 #[.agg #[.int .i64 k, .int .i64 fro, .int .i64 to_, .string ⟨name.toArray⟩, .string ⟨text.toArray⟩, .slice PA pn pc, .int .i64 r]] w fun e w' => e = .returned (out2V (putTok ⟨k, fro, to_, name, text, ps, r⟩)) ∧ Below w.heap.size w w' := by
  have J0 := Lib.hid (CJ.start 26 w #[.int .i64 k, .int .i64 fro, .int .i64 to_, .string ⟨name.toArray⟩, .string ⟨text.toArray⟩, .slice PA pn pc, .int .i64 r])
  have HE : putTok ⟨k, fro, to_, name, text, ps, r⟩ = ([], 7) := put_none hk
  rw [HE]
  clear HE
  have z0 := cell_of 0 J0.out.2
  have k1 : (k == 1) = false := by simpa using hk 1 (by omega) (by omega)
  have k2 : (k == 2) = false := by simpa using hk 2 (by omega) (by omega)
  have k3 : (k == 3) = false := by simpa using hk 3 (by omega) (by omega)
  have k4 : (k == 4) = false := by simpa using hk 4 (by omega) (by omega)
  have k5 : (k == 5) = false := by simpa using hk 5 (by omega) (by omega)
  have k6 : (k == 6) = false := by simpa using hk 6 (by omega) (by omega)
  have k7 : (k == 7) = false := by simpa using hk 7 (by omega) (by omega)
  have k8 : (k == 8) = false := by simpa using hk 8 (by omega) (by omega)
  have k9 : (k == 9) = false := by simpa using hk 9 (by omega) (by omega)
  clear hk
  go_enter Tryz.func26, Tryz.ntmps26
  go_wp2
  go_ret2
  exact ⟨rfl, J0.out.1⟩
/-- A token is put. -/
theorem tokPut_c (t : TokL) (PA : Option Addr) (pn pc : Nat) (w : World) (hW : W11P w) (h : PRd w w.heap.size PA pn pc t.pairs) (hn : t.name.length ≤ 5000) (ht : t.text.length ≤ 5000) (hp : pn ≤ 5000) (hps : ∀ p ∈ t.pairs, p.1.length ≤ 40000 ∧ p.2.length ≤ 40000) :
    Calls Tryz.prog 26 #[.agg #[.int .i64 t.kind, .int .i64 t.fro, .int .i64 t.to_, .string ⟨t.name.toArray⟩, .string ⟨t.text.toArray⟩, .slice PA pn pc, .int .i64 t.r]] w fun e w' => e = .returned (out2V (putTok t)) ∧ Below w.heap.size w w' := by
  obtain ⟨k, fro, to_, name, text, ps, r⟩ := t
  simp only at h hn ht hps ⊢
  by_cases h1 : k = 1
  · subst h1; exact tokPut1_c fro to_ r name text PA pn pc ps w hW ht
  by_cases h2 : k = 2
  · subst h2; exact tokPut2_c fro to_ r name text PA pn pc ps w hW
  by_cases h3 : k = 3
  · subst h3; exact tokPut3_c fro to_ r name text PA pn pc ps w hW hn
  by_cases h4 : k = 4
  · subst h4; exact tokPut4_c fro to_ r name text PA pn pc ps w hW ht
  by_cases h5 : k = 5
  · subst h5; exact tokPut5_c fro to_ r name text PA pn pc ps w hW ht
  by_cases h6 : k = 6
  · subst h6; exact tokPut6_c fro to_ r name text PA pn pc ps w hW hn ht
  by_cases h7 : k = 7
  · subst h7; exact tokPut7_c fro to_ r name text PA pn pc ps w hW h hn hp hps
  by_cases h8 : k = 8
  · subst h8; exact tokPut8_c fro to_ r name text PA pn pc ps w hW h hn hp hps
  by_cases h9 : k = 9
  · subst h9; exact tokPut9_c fro to_ r name text PA pn pc ps w hW hn
  exact tokPutX_c k fro to_ r name text PA pn pc ps w fun j hj1 hj2 => by omega
end Go.Proofs.YtmclngahdklfkaaGreatDoor
