/- Texts of ours, joined: IxB, IxB2, IxB3. -/
import Derived.Test.YtmclngahdklfkaaGreatDoorRows
import Derived.WalkKit
import Derived.ProofKit
import Derived.OpenShut
import Derived.ShutString
import Derived.ChangeOld
import Derived.Below
import Derived.BigQuiet
import Derived.Deep.QuietTactic
import Derived.Lib.Hide
import Derived.Deep.RegionHeld3
import Derived.Lib.SlBytesConst
import Derived.Laws.CopyOwn
import Derived.Laws.CopyRow
import Derived.Lib.Bytes
import Derived.Deep.LoopGhost
import Derived.Deep.DeepFit
import Derived.Deep.DeepMust
import Derived.WalkSpells
import Derived.WalkLawsBesides
import Derived.Lib.AsciiSet
import Derived.Deep.WholeRow
import Derived.Laws.ResultCell
import Derived.Laws.RangeString
import Derived.Laws.Runes
import Derived.Laws.RangeAny
import Derived.Laws.Rows
import Derived.LoopN
import Derived.Lib.IndexAny
import Derived.Lib.IndexBytes
import Derived.Test.YtmclngahdklfkaaGreatDoorQ1
import Derived.Test.YtmclngahdklfkaaGreatDoorQ6
import Derived.Test.YtmclngahdklfkaaGreatDoorQ4
import Derived.Test.YtmclngahdklfkaaGreatDoorQ9
import Derived.Test.YtmclngahdklfkaaGreatDoorQ10
import Derived.Test.YtmclngahdklfkaaGreatDoorQ11
import Derived.Test.YtmclngahdklfkaaGreatDoorQ13
import Derived.Lib.Bytealg
import Derived.Lib.IndexEntry
import Derived.Laws.Externs
import Derived.Test.YtmclngahdklfkaaGreatDoorQ14
/- bytes.IndexAny of '<' and '&': the set. -/
namespace Go.Proofs.YtmclngahdklfkaaGreatDoor
open Go.ChangeShapes Go.WideShapes Go.ChangeAt Go.RowKit
set_option linter.unusedVariables false
/-- '<' and '&'. -/
def amL : List UInt8 := [60, 38]
theorem am_no (b : UInt8) (h : 128 ≤ b.toNat) : amL.contains b = false := by
  have h1 : b ≠ 60 := fun e => by subst e; simp at h
  have h2 : b ≠ 38 := fun e => by subst e; simp at h
  simp [amL, h1, h2]
theorem noAny_am {s : List UInt8} {i m : Nat} (h : Lib.NoAny s amL i) (hm : ∀ j b, i ≤ j → j < m → s[j]? = some b → 128 ≤ b.toNat) : Lib.NoAny s amL m := fun j b hj hb => by
  by_cases e : j < i
  · exact h j b e hb
  · exact am_no b (hm j b (by omega) hj hb)
theorem inTx_am (c : UInt8) : inTx c = !amL.contains c := by
  unfold inTx
  simp only [amL, List.contains_cons, List.contains_nil, Bool.or_false]
  by_cases h1 : c = 60 <;> by_cases h2 : c = 38 <;> simp [h1, h2]
theorem ix_txt : ∀ l : List UInt8, Lib.indexAny l amL = if (txt l).length < l.length then ((txt l).length : Int) else -1
  | [] => by simp [Lib.indexAny, txt]
  | c :: t => by
    unfold Lib.indexAny
    cases h : amL.contains c with
    | true =>
      rw [if_pos rfl, txt_stop (by rw [inTx_am, h]; rfl)]
      simp
    | false =>
      rw [if_neg (by simp), txt_cons (by rw [inTx_am, h]; rfl), ix_txt t]
      have hle := txt_le t
      simp only [List.length_cons]
      by_cases h1 : (txt t).length < t.length
      · have h2 : (txt t).length + 1 < t.length + 1 := by omega
        rw [if_pos h1, if_pos h2]
        split
        · rename_i h3
          have := eq_of_beq h3
          omega
        · omega
      · have h2 : ¬ (txt t).length + 1 < t.length + 1 := by omega
        rw [if_neg h1, if_neg h2]
        rfl
set_option maxRecDepth 100000 in
set_option maxHeartbeats 1000000 in
theorem useSet_c (n : Int) (w : World) : Calls Tryz.prog 137 #[.int .i64 n] w fun e w' => e = .returned (.bool (decide (8 < n))) ∧ w' = w := by
  go_enter Tryz.func137, Tryz.ntmps137
  go_wp2
  go_ret
  exact ⟨rfl, rfl⟩
theorem results_cell2 {P : Program} {fn : Func} {p u : Tmp} {ty : TypeId} (h : fn.results = #[.cell p ty, .tmp u]) (tmps : Array Value) (w : World) (g : Nat) (t : TypeId) (cs : Array Value) (fr : Nat × Nat) (d : TypeDesc)
    (hp : tmps.getD p undef = .pointer (some ⟨g, 0, none⟩)) (hg : w.heap[g]? = some (.cells cs t fr))
    (hu : P.underlying ty = some d) (hd : (match d with | .struct _ | .array _ _ => true | _ => false) = true) (hi : (P.info? ty).map (·.size) = some cs.size) :
    (results fn tmps).run P w = .ok (.tuple #[.agg cs, tmps.getD u undef]) w := by
  have hp' : tmps[p]?.getD undef = .pointer (some ⟨g, 0, none⟩) := by simpa using hp
  simp [results, h, hp', asAddr, run_loadVar_row w g t ty cs fr d hg hu hd hi]
theorem set_info : (Tryz.prog.info? 157).map (fun i => (i.zero, i.size)) = some (some (.agg (Array.replicate 256 (.bool false))), 256) := by kernel_rfl
set_option maxRecDepth 100000 in
set_option maxHeartbeats 8000000 in
theorem amSet_c (w : World) : Calls Tryz.prog 138 #[.string ⟨#[60, 38]⟩] w fun e w' => e = .returned (.tuple #[.agg (Lib.setCells amL), .bool true]) ∧ w' = w.alloc (.cells (Lib.setCells amL) 157) := by
  have hv := (zero_of_info (P := Tryz.prog) set_info).1
  have hi := (zero_of_info (P := Tryz.prog) set_info).2
  have hu := Tryz.underlying157
  have g0 : (⟨#[60, 38]⟩ : ByteArray)[0].toNat = 60 := rfl
  have g1 : (⟨#[60, 38]⟩ : ByteArray)[1].toNat = 38 := rfl
  go_enter Tryz.func138, Tryz.ntmps138
  go_wp2
  rw [← Lib.setCells_nil]
  go_loopg [4] 2 (fun g s4 wx => ∃ i : Nat, i + g = 2 ∧ s4 = .int .i64 i ∧ wx = w.alloc (.cells (Lib.setCells (amL.take i)) 157))
  case atStart => exact ⟨0, by omega, rfl, rfl⟩
  case round =>
    obtain ⟨i, hig, rfl, rfl⟩ := hrel
    cases gk with
    | zero =>
      obtain rfl : i = 2 := by omega
      rw [show amL.take 2 = amL from rfl]
      have hld := run_loadVar_new (P := Tryz.prog) w 157 (Lib.setCells amL) 256 _ hu (by rw [Lib.setCells_size]; exact hi)
      have hsz := Lib.setCells_size amL
      have hlc := run_loadCellsFrom_new (P := Tryz.prog) w 157 (Lib.setCells amL) 256 hsz
      have hsc := run_storeCells_new (P := Tryz.prog) w 157 (Lib.setCells amL) (Lib.setCells amL) (by rw [hsz]; exact hi) rfl (Lib.setCells_one _)
      have hW := hp_new w (.cells (Lib.setCells amL) 157)
      obtain ⟨S, hS⟩ : ∃ S, Lib.setCells amL = S := ⟨_, rfl⟩
      rw [hS] at hld hlc hsc hsz hW ⊢
      have HS := Lib.hid hS
      clear hS
      go_wp2_with (first | (refine wpList_load_row rfl _ _ rfl w.heap.size rfl _ _ _ _ hW hu rfl (by rw [hi, hsz]) ?_) | (refine wpList_store_row rfl _ _ _ rfl w.heap.size S rfl rfl _ _ hW hsz.symm rfl (by rw [hi, hsz]) ?_))
      (try simp only [Exit.inBlock, Exit.then])
      exact bodyPost_ret (results_cell2 rfl _ _ w.heap.size _ _ _ _ rfl hW hu rfl (by rw [hi, hsz])) rfl ⟨by rw [HS.out]; rfl, by rw [HS.out]⟩
    | succ g =>
      have hi2 : i = 0 ∨ i = 1 := by omega
      rcases hi2 with rfl | rfl
      · have hcell := Lib.setCells_at [] 60
        go_wp2
        go_roundg g
        case measure => omega
        case rel => exact ⟨1, by omega, rfl, by rw [show amL.take 1 = [] ++ [60] from rfl, Lib.setCells_snoc]; rfl⟩
      · have hcell := Lib.setCells_at [60] 38
        go_wp2
        go_roundg g
        case measure => omega
        case rel => exact ⟨2, by omega, rfl, by rw [show amL.take 2 = [60] ++ [38] from rfl, Lib.setCells_snoc]; rfl⟩
set_option maxRecDepth 100000 in
set_option maxHeartbeats 1000000 in
theorem setHas_c (b : Nat) (x : UInt8) (v : Bool) (w : World) (hc : w.cell? ⟨b, x.toNat, none⟩ = some (.bool v)) :
    Calls Tryz.prog 139 #[.pointer (some ⟨b, 0, none⟩), .int .u8 x.toNat] w fun e w' => e = .returned (.bool v) ∧ w' = w := by
  have hx256 : (x.toNat : Int) < 256 := by have := UInt8.toNat_lt x; omega
  go_enter Tryz.func139, Tryz.ntmps139
  go_wp2
  go_ret
  exact ⟨rfl, rfl⟩
end Go.Proofs.YtmclngahdklfkaaGreatDoor
/- bytes.IndexAny of '<' and '&': its parts. -/
namespace Go.Proofs.YtmclngahdklfkaaGreatDoor
open Go.ChangeShapes Go.WideShapes Go.ChangeAt Go.RowKit
set_option linter.unusedVariables false
theorem decN_cases (n b0 b1 b2 b3 : Nat) (h0 : 128 ≤ b0) (hb : b0 < 256) : (Lib.decodeN n b0 b1 b2 b3 = (65533, 1)) ∨
    ((Lib.decodeN n b0 b1 b2 b3).2 = 2 ∧ 128 ≤ (Lib.decodeN n b0 b1 b2 b3).1 ∧ (Lib.decodeN n b0 b1 b2 b3).1 < 2048) ∨
    ((Lib.decodeN n b0 b1 b2 b3).2 = 3 ∧ 2048 ≤ (Lib.decodeN n b0 b1 b2 b3).1 ∧ (Lib.decodeN n b0 b1 b2 b3).1 < 65536 ∧ ((Lib.decodeN n b0 b1 b2 b3).1 < 55296 ∨ 57344 ≤ (Lib.decodeN n b0 b1 b2 b3).1)) ∨
    ((Lib.decodeN n b0 b1 b2 b3).2 = 4 ∧ 65536 ≤ (Lib.decodeN n b0 b1 b2 b3).1 ∧ (Lib.decodeN n b0 b1 b2 b3).1 ≤ 1114111) := by
  unfold Lib.decodeN
  rw [if_neg (by omega)]
  repeat' split
  all_goals first | exact .inl rfl | exact .inr (.inl ⟨rfl, by show 128 ≤ _; omega, by show _ < 2048; omega⟩) | exact .inr (.inr (.inl ⟨rfl, by show 2048 ≤ _; omega, by show _ < 65536; omega, by show _ < 55296 ∨ 57344 ≤ _; omega⟩)) | exact .inr (.inr (.inr ⟨rfl, by show 65536 ≤ _; omega, by show _ ≤ 1114111; omega⟩))
theorem enc2 (r : Nat) (h0 : 128 ≤ r) (h1 : r < 2048) : ∃ a b : UInt8, Utf8.encode (r : Int) = ⟨#[a, b]⟩ ∧ 128 ≤ b.toNat := by
  rcases enc_cases (r : Int) (by omega) with h | ⟨a, b, c, h⟩ | ⟨a, b, c, d, h⟩
  · exact h
  all_goals
    exfalso
    unfold Utf8.encode at h
    have hv : Utf8.valid (r : Int) = true := by unfold Utf8.valid; simp; omega
    simp only [hv, if_true, Int.toNat_natCast] at h
    rw [if_neg (by omega), if_pos (by omega)] at h
    have := congrArg ByteArray.size h
    simp [ByteArray.size] at this
theorem enc3 (r : Nat) (h0 : 2048 ≤ r) (h1 : r < 65536) (h2 : r < 55296 ∨ 57344 ≤ r) : ∃ a b c : UInt8, Utf8.encode (r : Int) = ⟨#[a, b, c]⟩ := by
  unfold Utf8.encode
  have hv : Utf8.valid (r : Int) = true := by unfold Utf8.valid; simp; omega
  simp only [hv, if_true, Int.toNat_natCast]
  rw [if_neg (by omega), if_neg (by omega), if_pos (by omega)]
  exact ⟨_, _, _, rfl⟩
theorem enc4 (r : Nat) (h0 : 65536 ≤ r) (h1 : r ≤ 1114111) : ∃ a b c d : UInt8, Utf8.encode (r : Int) = ⟨#[a, b, c, d]⟩ := by
  unfold Utf8.encode
  have hv : Utf8.valid (r : Int) = true := by unfold Utf8.valid; simp; omega
  simp only [hv, if_true, Int.toNat_natCast]
  rw [if_neg (by omega), if_neg (by omega), if_neg (by omega)]
  exact ⟨_, _, _, _, rfl⟩
theorem decU_cases (l : List UInt8) (c : UInt8) (hc : l[0]? = some c) (h : 128 ≤ c.toNat) : decU l = (65533, 1) ∨ ((decU l).2 = 2 ∧ 128 ≤ (decU l).1 ∧ (decU l).1 < 2048) ∨ ((decU l).2 = 3 ∧ 2048 ≤ (decU l).1 ∧ (decU l).1 < 65536 ∧ ((decU l).1 < 55296 ∨ 57344 ≤ (decU l).1)) ∨ ((decU l).2 = 4 ∧ 65536 ≤ (decU l).1 ∧ (decU l).1 ≤ 1114111) := by
  unfold decU
  rw [Lib.decode_at]
  have : (⟨l.toArray⟩ : ByteArray).get! 0 = c := getB hc
  rw [this]
  exact decN_cases _ _ _ _ _ h c.toNat_lt
theorem decU_span (l : List UInt8) (c : UInt8) (hc : l[0]? = some c) (h : 128 ≤ c.toNat) : 1 ≤ (decU l).2 ∧ (decU l).2 ≤ l.length ∧ ∀ j b, j < (decU l).2 → l[j]? = some b → 128 ≤ b.toNat := by
  have hk := (List.getElem?_eq_some_iff.1 hc).1
  have hs : (⟨l.toArray⟩ : ByteArray).size = l.length := by simp [ByteArray.size]
  have h0 : 128 ≤ ((⟨l.toArray⟩ : ByteArray)[0]'(by rw [hs]; exact hk)).toNat := by
    have e : (⟨l.toArray⟩ : ByteArray)[0]'(by rw [hs]; exact hk) = l[0] := rfl
    rw [List.getElem?_eq_getElem hk] at hc
    cases hc
    rw [e]
    exact h
  have h1 := decode_span ⟨l.toArray⟩ 0 (by rw [hs]; exact hk) h0
  have h2 := decode_high ⟨l.toArray⟩ 0 (by rw [hs]; exact hk) h0
  refine ⟨h2.2, by have := h1.1; rw [hs, Nat.zero_add] at this; exact this, fun j b hj hb => ?_⟩
  obtain ⟨hj', hh⟩ := h1.2 j (Nat.zero_le _) (by rw [Nat.zero_add]; exact hj)
  have e : (⟨l.toArray⟩ : ByteArray)[j]'hj' = l[j]'(by rw [← hs]; exact hj') := rfl
  rw [e] at hh
  rw [List.getElem?_eq_getElem (by rw [← hs]; exact hj')] at hb
  cases hb
  exact hh
set_option maxRecDepth 100000 in
set_option maxHeartbeats 4000000 in
theorem decRune_c (b o n cap : Nat) (l : List UInt8) (w : World) (h : Byt w w.heap.size (some ⟨b, o, none⟩) n cap l) (hn : 0 < n) (hm : n ≤ 1000000) (hT : Lib.Utf8Tabs 8 9 w) (c0 : UInt8) (hc : l[0]? = some c0) (h128 : 128 ≤ c0.toNat) :
    Calls Tryz.prog 140 #[.slice (some ⟨b, o, none⟩) n cap] w fun e w' => e = .returned (.tuple #[.int .i32 (decU l).1, .int .i64 (decU l).2]) ∧ Below w.heap.size w w' := by
  have C := Lib.hid (decSlow_c b o n cap l w h hn hm hT c0 hc h128)
  have hcell : w.cell? ⟨b, o, none⟩ = some (.int .u8 c0.toNat) := by
    obtain ⟨b', o', c', e, hb, h1, h2⟩ := h.cell hn
    cases e
    rw [hc] at h1
    cases h1
    exact h2
  have hn0 : (0 : Int) < (n : Int) := by omega
  have hc0 : ¬ (c0.toNat : Int) < 128 := by omega
  generalize decU l = dc at *
  clear h hT hc
  go_enter Tryz.func140, Tryz.ntmps140
  go_wp2_with fail
  go_loopg [8] 1 (fun g i wr => i = .int .i64 0 ∧ wr = w)
  case atStart => exact ⟨rfl, rfl⟩
  case round =>
    obtain ⟨rfl, rfl⟩ := hrel
    go_wp2_with fail
    refine C.out.mono ?_
    rintro e w1 ⟨rfl, hb⟩
    have B := Lib.hid hb
    clear hb
    go_wp2
    go_ret2
    exact ⟨rfl, B.out⟩
theorem ix_long (s sub : List UInt8) (h : s.length < sub.length) : Lib.index s sub = -1 := by
  rcases Lib.index_spec s sub with ⟨h1, _⟩ | ⟨i, h1, hi, ho, _⟩
  · exact h1
  · exfalso
    unfold Lib.occAt at ho
    have := (List.isPrefixOf_iff_prefix.1 ho).length_le
    rw [List.length_drop] at this
    omega
theorem run_ixByte (c : UInt8) (W : World) : (callFunc 135 #[.string ⟨#[60, 38]⟩, .int .u8 (c.toNat : Int)]).run Tryz.prog W = .ok (.value (.int .i64 (Lib.indexByte amL c))) W := by
  rw [run_callFunc_extern Tryz.func135 (by kernel_rfl) (by kernel_rfl) (by kernel_rfl) (e := Extern.BytealgIndexByte.indexByte) (by kernel_rfl), Lib.run_indexByteString]
  simp only [Result.andThen]
  have : ((c.toNat : Int)).toNat.toUInt8 = c := by simp
  rw [this]
  rfl
theorem run_ixStr (z : ByteArray) (m : Int) (W : World) (hM : W.cell? ⟨1, 0, none⟩ = some (.int .i64 m)) (h3 : 3 ≤ z.size) (hm : (z.size : Int) ≤ m) :
    (callFunc 141 #[.string ⟨#[60, 38]⟩, .string z]).run Tryz.prog W = .ok (.value (.int .i64 (-1))) W := by
  rw [run_callFunc_extern Tryz.func141 (by kernel_rfl) (by kernel_rfl) (by kernel_rfl) (e := Extern.BytealgIndex.index) (by kernel_rfl), Lib.run_indexString ⟨#[60, 38]⟩ z W 1 m (by kernel_rfl) hM (by omega) hm (by decide)]
  simp only [Result.andThen]
  rw [ix_long _ _ (by rw [Lib.size_eq] at h3; show 2 < _; omega)]
end Go.Proofs.YtmclngahdklfkaaGreatDoor
/- bytes.IndexAny of '<' and '&'. -/
namespace Go.Proofs.YtmclngahdklfkaaGreatDoor
open Go.ChangeShapes Go.WideShapes Go.ChangeAt Go.RowKit
set_option linter.unusedVariables false
set_option maxRecDepth 100000 in
set_option maxHeartbeats 8000000 in
theorem ixAm_long (A : Option Addr) (n cap : Nat) (l : List UInt8) (w : World) (h : Byt w w.heap.size A n cap l) (hm : n ≤ 1000000) (h8 : 8 < n) :
    Calls Tryz.prog 102 #[.slice A n cap, .string ⟨#[60, 38]⟩] w fun e w' => e = .returned (.int .i64 (Lib.indexAny l amL)) ∧ Below w.heap.size w w' := by
  have hln := h.length
  have hi := (zero_of_info (P := Tryz.prog) set_info).2
  have h8z : decide ((8 : Int) < (n : Int)) = true := decide_eq_true (by omega)
  have n1 : ((n : Int) == 1) = false := by simp; omega
  have CU := Lib.hid fun W => useSet_c (n : Int) W
  have CM := Lib.hid (amSet_c w)
  obtain ⟨S, hS⟩ : ∃ S, Lib.setCells amL = S := ⟨_, rfl⟩
  have hsz := Lib.setCells_size amL
  have h1 := Lib.setCells_one amL
  have hat := fun x : UInt8 => Lib.setCells_at amL x
  rw [hS] at CM hsz hat h1
  have hsc := run_storeCells_new (P := Tryz.prog) (w.alloc (.cells S 157)) 157 Tryz.zeroCells157 S (by rw [hsz]; exact hi) (by rw [hsz]; rfl) h1
  rw [World.size_alloc] at hsc
  have HB := Lib.hid h
  have hW2 := hp_new (w.alloc (.cells S 157)) (.cells S 157)
  rw [World.size_alloc] at hW2
  have hB2 : Below w.heap.size w ((w.alloc (.cells S 157)).alloc (.cells S 157)) := ((Below.refl w.heap.size w).alloc (Nat.le_refl _) (.cells S 157)).alloc (by simp) (.cells S 157)
  have H2 := Lib.hid (And.intro hW2 hB2)
  have HA := Lib.hid hat
  have HLn := Lib.hid hln
  clear h hi hat hS hW2 hB2 hln h1
  go_enter Tryz.func102, Tryz.ntmps102
  go_wp2_with fail
  refine (CU.out _).mono ?_
  rintro e w1 ⟨rfl, hw⟩
  rw [hw, h8z]
  clear hw w1
  go_wp2_with fail
  refine CM.out.mono ?_
  rintro e w1 ⟨rfl, hw⟩
  subst hw
  go_wp2_with fail
  clear hsc hsz
  have hsz2 : w.heap.size + 2 = w.heap.size + 1 + 1 := rfl
  generalize (w.alloc (.cells S 157)).alloc (.cells S 157) = w2 at *
  have CH : Hid (∀ x : UInt8, Calls Tryz.prog 139 #[.pointer (some ⟨w.heap.size + 1, 0, none⟩), .int .u8 x.toNat] w2 fun e w' => e = .returned (.bool (amL.contains x)) ∧ w' = w2) := Lib.hid fun x => setHas_c (w.heap.size + 1) x _ w2 (by rw [cell_of _ H2.out.1]; exact HA.out x)
  go_loopg [62] n (fun g i wr => ∃ t : Nat, i = .int .i64 (t : Int) ∧ t ≤ n ∧ Hid (g + t = n) ∧ wr = w2 ∧ Hid (Lib.NoAny l amL t))
  case atStart => exact ⟨0, rfl, Nat.zero_le _, Lib.hid (by omega), rfl, Lib.hid (Lib.NoAny.zero _ _)⟩
  case round =>
    obtain ⟨t, rfl, ht, hg, rfl, HN⟩ := hrel
    by_cases htn : t < n
    · have hti : (t : Int) < (n : Int) := by omega
      obtain ⟨b, o, c, rfl, hbB, hc, hcell⟩ := (HB.out.below H2.out.2).cell htn
      have HC := Lib.hid hc
      have CH1 := Lib.hid (CH.out c)
      clear hc
      cases hq : amL.contains c with
      | true =>
        have HI := Lib.hid (Lib.indexAny_hit HN.out HC.out hq)
        rw [hq] at CH1
        go_wp2_with fail
        refine CH1.out.mono ?_
        rintro e w3 ⟨rfl, rfl⟩
        go_wp2
        go_ret
        rw [HI.out]
        exact ⟨rfl, H2.out.2⟩
      | false =>
        have HN2 := Lib.hid (HN.out.succ HC.out hq)
        rw [hq] at CH1
        go_wp2_with fail
        refine CH1.out.mono ?_
        rintro e w3 ⟨rfl, rfl⟩
        go_wp2
        go_roundg (n - (t + 1))
        case measure => have := hg.out; omega
        case rel => exact ⟨t + 1, by go_num, by omega, Lib.hid (by omega), rfl, HN2⟩
    · have hti : ¬ (t : Int) < (n : Int) := by omega
      have HI : Hid (Lib.indexAny l amL = -1) := Lib.hid (Lib.indexAny_none (by have := HN.out; rwa [show t = l.length by rw [HLn.out]; omega] at this))
      go_wp2
      go_ret
      rw [HI.out]
      exact ⟨rfl, H2.out.2⟩
end Go.Proofs.YtmclngahdklfkaaGreatDoor
