/- Texts of ours, joined: Tok2b, Tok3, Tok5, Tok4b, Tok4d, Tok6, Tok6b, Tok7, Laid, Laid3, TagO, Agg7. -/
import Derived.Test.YtmclngahdklfkaaGreatDoorRows
import Derived.WalkKit
import Derived.ProofKit
import Derived.OpenShut
import Derived.ShutString
import Derived.ChangeOld
import Derived.Below
import Derived.BigQuiet
import Derived.Deep.QuietTactic
import Derived.Lib.Hide
import Derived.Deep.RegionHeld3
import Derived.Lib.SlBytesConst
import Derived.Laws.CopyOwn
import Derived.Laws.CopyRow
import Derived.Lib.Bytes
import Derived.Deep.LoopGhost
import Derived.Deep.DeepFit
import Derived.Deep.DeepMust
import Derived.WalkSpells
import Derived.WalkLawsBesides
import Derived.Maps.OwnOps
import Derived.Maps.OwnSet
import Derived.Maps.Views
import Derived.Laws.EntriesVeiled
import Derived.Laws.Rows
import Derived.Maps.AppendAt
import Derived.Lib.SmallJoins
import Derived.Test.YtmclngahdklfkaaGreatDoorT1
import Derived.Test.YtmclngahdklfkaaGreatDoorT6
import Derived.Test.YtmclngahdklfkaaGreatDoorT2
import Derived.Test.YtmclngahdklfkaaGreatDoorT4
import Derived.Test.YtmclngahdklfkaaGreatDoorT5
import Derived.Test.YtmclngahdklfkaaGreatDoorT7
import Derived.Test.YtmclngahdklfkaaGreatDoorT8
import Derived.Test.YtmclngahdklfkaaGreatDoorT9
import Derived.Test.YtmclngahdklfkaaGreatDoorT10
import Derived.Test.YtmclngahdklfkaaGreatDoorT12
import Derived.Test.YtmclngahdklfkaaGreatDoorT11
import Derived.Test.YtmclngahdklfkaaGreatDoorT13
import Derived.Test.YtmclngahdklfkaaGreatDoorT14
import Derived.Deep.AppendLies
import Derived.Deep.RegionLaw
import Derived.Lib.LaidCaseMet
import Derived.Deep.DeepLaidRun
import Derived.Deep.SlicePairs
import Derived.Deep.DeepHandedRow
import Derived.ChangeArms
/- tok.read, arm by arm: the rest. -/
namespace Go.Proofs.YtmclngahdklfkaaGreatDoor
open Go.ChangeShapes Go.WideShapes Go.ChangeAt Go.RowKit
set_option linter.unusedVariables false
set_option maxRecDepth 100000 in
set_option maxHeartbeats 8000000 in
theorem tokRead_open (A : Option Addr) (n cap : Nat) (l : List UInt8) (k : Nat) (w : World) (h : Byt w w.heap.size A n cap l) (hW : W11 w) (hm : n ≤ 40000) (hk : k ≤ n) (h0 : [60, 33, 45, 45].isPrefixOf (l.drop k) = false) (h1 : [60, 33, 91, 67, 68, 65, 84, 65, 91].isPrefixOf (l.drop k) = false) (h2 : [60, 63].isPrefixOf (l.drop k) = false) (h3 : [60, 47].isPrefixOf (l.drop k) = false) (h4 : [60].isPrefixOf (l.drop k) = true) :
    Calls Tryz.prog 29 #[.slice A n cap, .int .i64 (k : Int)] w fun e w' => TokPost (readTok l k) w e w' := by
  have hln := h.length
  have HK : Hid (∀ W rs, RJ A n cap k w W rs → Byt W W.heap.size A n cap l ∧ W11 W) := Lib.hid fun W rs hJ => ⟨(h.below hJ.below).more hJ.below.size, hW.below hJ.below⟩
  have S0 : Hid (∀ W rs, RJ A n cap k w W rs → Calls Tryz.prog 59 #[.string ⟨#[60, 33, 45, 45]⟩, .pointer (some ⟨w.heap.size, 0, none⟩), .pointer (some ⟨w.heap.size + 1, 0, none⟩)] W fun e w' => e = .returned (.bool false) ∧ Below W.heap.size W w') := Lib.hid fun W rs hJ => by
    have := stands1_c A n cap l k w.heap.size (w.heap.size + 1) [60, 33, 45, 45] W (HK.out W rs hJ).1 hk (by decide) (cell_of 0 hJ.bs) (cell_of 0 hJ.at_)
    rwa [h0] at this
  have S1 : Hid (∀ W rs, RJ A n cap k w W rs → Calls Tryz.prog 59 #[.string ⟨#[60, 33, 91, 67, 68, 65, 84, 65, 91]⟩, .pointer (some ⟨w.heap.size, 0, none⟩), .pointer (some ⟨w.heap.size + 1, 0, none⟩)] W fun e w' => e = .returned (.bool false) ∧ Below W.heap.size W w') := Lib.hid fun W rs hJ => by
    have := stands1_c A n cap l k w.heap.size (w.heap.size + 1) [60, 33, 91, 67, 68, 65, 84, 65, 91] W (HK.out W rs hJ).1 hk (by decide) (cell_of 0 hJ.bs) (cell_of 0 hJ.at_)
    rwa [h1] at this
  have S2 : Hid (∀ W rs, RJ A n cap k w W rs → Calls Tryz.prog 59 #[.string ⟨#[60, 63]⟩, .pointer (some ⟨w.heap.size, 0, none⟩), .pointer (some ⟨w.heap.size + 1, 0, none⟩)] W fun e w' => e = .returned (.bool false) ∧ Below W.heap.size W w') := Lib.hid fun W rs hJ => by
    have := stands1_c A n cap l k w.heap.size (w.heap.size + 1) [60, 63] W (HK.out W rs hJ).1 hk (by decide) (cell_of 0 hJ.bs) (cell_of 0 hJ.at_)
    rwa [h2] at this
  have S3 : Hid (∀ W rs, RJ A n cap k w W rs → Calls Tryz.prog 59 #[.string ⟨#[60, 47]⟩, .pointer (some ⟨w.heap.size, 0, none⟩), .pointer (some ⟨w.heap.size + 1, 0, none⟩)] W fun e w' => e = .returned (.bool false) ∧ Below W.heap.size W w') := Lib.hid fun W rs hJ => by
    have := stands1_c A n cap l k w.heap.size (w.heap.size + 1) [60, 47] W (HK.out W rs hJ).1 hk (by decide) (cell_of 0 hJ.bs) (cell_of 0 hJ.at_)
    rwa [h3] at this
  have S4 : Hid (∀ W rs, RJ A n cap k w W rs → Calls Tryz.prog 59 #[.string ⟨#[60]⟩, .pointer (some ⟨w.heap.size, 0, none⟩), .pointer (some ⟨w.heap.size + 1, 0, none⟩)] W fun e w' => e = .returned (.bool true) ∧ Below W.heap.size W w') := Lib.hid fun W rs hJ => by
    have := stands1_c A n cap l k w.heap.size (w.heap.size + 1) [60] W (HK.out W rs hJ).1 hk (by decide) (cell_of 0 hJ.bs) (cell_of 0 hJ.at_)
    rwa [h4] at this
  have C : Hid (∀ W rs, RJ A n cap k w W rs → Calls Tryz.prog 65 #[.slice A n cap, .int .i64 (k : Int)] W fun e w' => TokPost (openTok l k) W e w') := Lib.hid fun W rs hJ => tokOpened_c A n cap l k W (HK.out W rs hJ).1 (HK.out W rs hJ).2 hm hk
  have hR : readTok l k = openTok l k := by
    unfold readTok
    rw [if_neg (by rw [h0]; simp), if_neg (by rw [h1]; simp), if_neg (by rw [h2]; simp), if_neg (by rw [h3]; simp), if_pos h4]
    rfl
  rw [hR]
  generalize openTok l k = o at *
  obtain ⟨o, oe⟩ := o
  have J0 := Lib.hid (RJ.start A n cap k w)
  have hi : (Tryz.prog.info? 26).map (·.size) = some 7 := by kernel_rfl
  obtain ⟨sd, hu⟩ := isStruct_of (P := Tryz.prog) (t := 26) (by kernel_rfl)
  have HU := Lib.hid (And.intro hi hu)
  have hk0 : (0 : Int) ≤ (k : Int) := by omega
  have hk1 : (k : Int) ≤ 40000 := by omega
  clear h hW hln HK hi hu h0 h1 h2 h3 h4
  go_enter Tryz.func29, Tryz.ntmps29
  go_wp2_with fail
  refine (S0.out _ _ J0.out).mono ?_
  rintro e0 w1 ⟨rfl, hb⟩
  have J1 := Lib.hid (J0.out.kept hb)
  clear hb
  go_wp2_with fail
  refine (S1.out _ _ J1.out).mono ?_
  rintro e0 w2 ⟨rfl, hb⟩
  have J2 := Lib.hid (J1.out.kept hb)
  clear hb
  go_wp2_with fail
  refine (S2.out _ _ J2.out).mono ?_
  rintro e0 w3 ⟨rfl, hb⟩
  have J3 := Lib.hid (J2.out.kept hb)
  clear hb
  go_wp2_with fail
  refine (S3.out _ _ J3.out).mono ?_
  rintro e0 w4 ⟨rfl, hb⟩
  have J4 := Lib.hid (J3.out.kept hb)
  clear hb
  go_wp2_with fail
  refine (S4.out _ _ J4.out).mono ?_
  rintro e0 w5 ⟨rfl, hb⟩
  have J5 := Lib.hid (J4.out.kept hb)
  clear hb
  have zb := cell_of 0 J5.out.bs
  have za := cell_of 0 J5.out.at_
  go_wp2_with fail
  refine (C.out _ _ J5.out).mono ?_
  rintro e0 u0 ⟨v, hv, rfl, hp, hb, hlo⟩
  have K0 := Lib.hid (J5.out.kept hb)
  have JF := Lib.hid (K0.out.row v.cells.toArray)
  have HP := Lib.hid (And.intro hp (fun b i h => Nat.lt_of_lt_of_le J5.out.size (hlo b i h)))
  clear hb hp hlo za zb
  go_wp2_with (refine wpList_store_row rfl _ _ _ rfl (w.heap.size + 1 + 1) v.cells.toArray rfl rfl _ _ K0.out.tok (by kernel_rfl) rfl (by kernel_rfl) ?_)
  (try simp only [Exit.inBlock, Exit.then])
  refine bodyPost_ret (results_cell2 rfl _ _ (w.heap.size + 1 + 1) _ _ _ _ rfl JF.out.tok HU.out.2 rfl HU.out.1) rfl ⟨v, hv, rfl, HP.out.1.move ?_ ?_, JF.out.below, fun b i h => by have := HP.out.2 b i h; omega⟩
  · simp [World.setRow]
  · intro b' i' hA hb'
    have hlt := HP.out.2 b' i' hA
    rw [setRow_at _ _ _ _ (by omega)]
set_option maxRecDepth 100000 in
set_option maxHeartbeats 8000000 in
theorem tokRead_char (A : Option Addr) (n cap : Nat) (l : List UInt8) (k : Nat) (w : World) (h : Byt w w.heap.size A n cap l) (hW : W11 w) (hm : n ≤ 40000) (hk : k ≤ n) (h0 : [60, 33, 45, 45].isPrefixOf (l.drop k) = false) (h1 : [60, 33, 91, 67, 68, 65, 84, 65, 91].isPrefixOf (l.drop k) = false) (h2 : [60, 63].isPrefixOf (l.drop k) = false) (h3 : [60, 47].isPrefixOf (l.drop k) = false) (h4 : [60].isPrefixOf (l.drop k) = false) (h5 : [38, 35].isPrefixOf (l.drop k) = true) :
    Calls Tryz.prog 29 #[.slice A n cap, .int .i64 (k : Int)] w fun e w' => TokPost (readTok l k) w e w' := by
  have hln := h.length
  have HK : Hid (∀ W rs, RJ A n cap k w W rs → Byt W W.heap.size A n cap l ∧ W11 W) := Lib.hid fun W rs hJ => ⟨(h.below hJ.below).more hJ.below.size, hW.below hJ.below⟩
  have S0 : Hid (∀ W rs, RJ A n cap k w W rs → Calls Tryz.prog 59 #[.string ⟨#[60, 33, 45, 45]⟩, .pointer (some ⟨w.heap.size, 0, none⟩), .pointer (some ⟨w.heap.size + 1, 0, none⟩)] W fun e w' => e = .returned (.bool false) ∧ Below W.heap.size W w') := Lib.hid fun W rs hJ => by
    have := stands1_c A n cap l k w.heap.size (w.heap.size + 1) [60, 33, 45, 45] W (HK.out W rs hJ).1 hk (by decide) (cell_of 0 hJ.bs) (cell_of 0 hJ.at_)
    rwa [h0] at this
  have S1 : Hid (∀ W rs, RJ A n cap k w W rs → Calls Tryz.prog 59 #[.string ⟨#[60, 33, 91, 67, 68, 65, 84, 65, 91]⟩, .pointer (some ⟨w.heap.size, 0, none⟩), .pointer (some ⟨w.heap.size + 1, 0, none⟩)] W fun e w' => e = .returned (.bool false) ∧ Below W.heap.size W w') := Lib.hid fun W rs hJ => by
    have := stands1_c A n cap l k w.heap.size (w.heap.size + 1) [60, 33, 91, 67, 68, 65, 84, 65, 91] W (HK.out W rs hJ).1 hk (by decide) (cell_of 0 hJ.bs) (cell_of 0 hJ.at_)
    rwa [h1] at this
  have S2 : Hid (∀ W rs, RJ A n cap k w W rs → Calls Tryz.prog 59 #[.string ⟨#[60, 63]⟩, .pointer (some ⟨w.heap.size, 0, none⟩), .pointer (some ⟨w.heap.size + 1, 0, none⟩)] W fun e w' => e = .returned (.bool false) ∧ Below W.heap.size W w') := Lib.hid fun W rs hJ => by
    have := stands1_c A n cap l k w.heap.size (w.heap.size + 1) [60, 63] W (HK.out W rs hJ).1 hk (by decide) (cell_of 0 hJ.bs) (cell_of 0 hJ.at_)
    rwa [h2] at this
  have S3 : Hid (∀ W rs, RJ A n cap k w W rs → Calls Tryz.prog 59 #[.string ⟨#[60, 47]⟩, .pointer (some ⟨w.heap.size, 0, none⟩), .pointer (some ⟨w.heap.size + 1, 0, none⟩)] W fun e w' => e = .returned (.bool false) ∧ Below W.heap.size W w') := Lib.hid fun W rs hJ => by
    have := stands1_c A n cap l k w.heap.size (w.heap.size + 1) [60, 47] W (HK.out W rs hJ).1 hk (by decide) (cell_of 0 hJ.bs) (cell_of 0 hJ.at_)
    rwa [h3] at this
  have S4 : Hid (∀ W rs, RJ A n cap k w W rs → Calls Tryz.prog 59 #[.string ⟨#[60]⟩, .pointer (some ⟨w.heap.size, 0, none⟩), .pointer (some ⟨w.heap.size + 1, 0, none⟩)] W fun e w' => e = .returned (.bool false) ∧ Below W.heap.size W w') := Lib.hid fun W rs hJ => by
    have := stands1_c A n cap l k w.heap.size (w.heap.size + 1) [60] W (HK.out W rs hJ).1 hk (by decide) (cell_of 0 hJ.bs) (cell_of 0 hJ.at_)
    rwa [h4] at this
  have S5 : Hid (∀ W rs, RJ A n cap k w W rs → Calls Tryz.prog 59 #[.string ⟨#[38, 35]⟩, .pointer (some ⟨w.heap.size, 0, none⟩), .pointer (some ⟨w.heap.size + 1, 0, none⟩)] W fun e w' => e = .returned (.bool true) ∧ Below W.heap.size W w') := Lib.hid fun W rs hJ => by
    have := stands1_c A n cap l k w.heap.size (w.heap.size + 1) [38, 35] W (HK.out W rs hJ).1 hk (by decide) (cell_of 0 hJ.bs) (cell_of 0 hJ.at_)
    rwa [h5] at this
  have C : Hid (∀ W rs, RJ A n cap k w W rs → Calls Tryz.prog 66 #[.slice A n cap, .int .i64 (k : Int)] W fun e w' => e = .returned (numV (charOut l k)) ∧ Below W.heap.size W w') := Lib.hid fun W rs hJ => by
    have hB := (HK.out W rs hJ).1
    have hW := (HK.out W rs hJ).2
    have := crefChar_c A n cap l k W hB hW.forms hW.tabs (by omega)
    have he : charAt l k = charOut l k := by
      unfold charAt
      rw [hln, if_neg (by omega), Int.toNat_natCast]
    rwa [he] at this
  unfold readTok
  rw [if_neg (by rw [h0]; simp), if_neg (by rw [h1]; simp), if_neg (by rw [h2]; simp), if_neg (by rw [h3]; simp), if_neg (by rw [h4]; simp), if_pos h5]
  generalize charOut l k = o at *
  obtain ⟨r, t, e⟩ := o
  unfold numV at C
  simp only at C ⊢
  have J0 := Lib.hid (RJ.start A n cap k w)
  have hi : (Tryz.prog.info? 26).map (·.size) = some 7 := by kernel_rfl
  obtain ⟨sd, hu⟩ := isStruct_of (P := Tryz.prog) (t := 26) (by kernel_rfl)
  have HU := Lib.hid (And.intro hi hu)
  have hk0 : (0 : Int) ≤ (k : Int) := by omega
  have hk1 : (k : Int) ≤ 40000 := by omega
  clear h hW hln HK hi hu h0 h1 h2 h3 h4 h5
  go_enter Tryz.func29, Tryz.ntmps29
  go_wp2_with fail
  refine (S0.out _ _ J0.out).mono ?_
  rintro e0 w1 ⟨rfl, hb⟩
  have J1 := Lib.hid (J0.out.kept hb)
  clear hb
  go_wp2_with fail
  refine (S1.out _ _ J1.out).mono ?_
  rintro e0 w2 ⟨rfl, hb⟩
  have J2 := Lib.hid (J1.out.kept hb)
  clear hb
  go_wp2_with fail
  refine (S2.out _ _ J2.out).mono ?_
  rintro e0 w3 ⟨rfl, hb⟩
  have J3 := Lib.hid (J2.out.kept hb)
  clear hb
  go_wp2_with fail
  refine (S3.out _ _ J3.out).mono ?_
  rintro e0 w4 ⟨rfl, hb⟩
  have J4 := Lib.hid (J3.out.kept hb)
  clear hb
  go_wp2_with fail
  refine (S4.out _ _ J4.out).mono ?_
  rintro e0 w5 ⟨rfl, hb⟩
  have J5 := Lib.hid (J4.out.kept hb)
  clear hb
  go_wp2_with fail
  refine (S5.out _ _ J5.out).mono ?_
  rintro e0 w6 ⟨rfl, hb⟩
  have J6 := Lib.hid (J5.out.kept hb)
  clear hb
  have z0 := cell_of 0 J6.out.tok
  have y0 := free_of 0 J6.out.tok
  have JA : Hid (RJ A n cap k w (w6.setCell ⟨w.heap.size + 1 + 1, 0, none⟩ (.int .i64 2)) #[.int .i64 2, .int .i64 0, .int .i64 0, .string ⟨#[]⟩, .string ⟨#[]⟩, .slice none 0 0, .int .i64 0]) := Lib.hid (J6.out.set 0 (.int .i64 2))
  have zb := cell_of 0 JA.out.bs
  have za := cell_of 0 JA.out.at_
  go_wp2_with fail
  clear z0 y0
  generalize w6.setCell ⟨w.heap.size + 1 + 1, 0, none⟩ (.int .i64 2) = v1 at *
  refine (C.out _ _ JA.out).mono ?_
  rintro e0 u0 ⟨rfl, hb⟩
  have K0 := Lib.hid (JA.out.kept hb)
  clear hb zb za
  have z1 := cell_of 6 K0.out.tok
  have y1 := free_of 6 K0.out.tok
  have K1 : Hid (RJ A n cap k w (u0.setCell ⟨w.heap.size + 1 + 1, 6, none⟩ (.int .i64 r)) #[.int .i64 2, .int .i64 0, .int .i64 0, .string ⟨#[]⟩, .string ⟨#[]⟩, .slice none 0 0, .int .i64 r]) := Lib.hid (K0.out.set 6 (.int .i64 r))
  have z2 := cell_of 2 K1.out.tok
  have y2 := free_of 2 K1.out.tok
  have K2 : Hid (RJ A n cap k w ((u0.setCell ⟨w.heap.size + 1 + 1, 6, none⟩ (.int .i64 r)).setCell ⟨w.heap.size + 1 + 1, 2, none⟩ (.int .i64 (t : Int))) #[.int .i64 2, .int .i64 0, .int .i64 (t : Int), .string ⟨#[]⟩, .string ⟨#[]⟩, .slice none 0 0, .int .i64 r]) := Lib.hid (K1.out.set 2 (.int .i64 (t : Int)))
  have JF := Lib.hid (K2.out.row #[.int .i64 2, .int .i64 0, .int .i64 (t : Int), .string ⟨#[]⟩, .string ⟨#[]⟩, .slice none 0 0, .int .i64 r])
  go_wp2_with (first | (refine wpList_load_row rfl _ _ rfl (w.heap.size + 1 + 1) rfl _ _ _ _ K2.out.tok HU.out.2 rfl HU.out.1 ?_) | (refine wpList_store_row rfl _ _ _ rfl (w.heap.size + 1 + 1) #[.int .i64 2, .int .i64 0, .int .i64 (t : Int), .string ⟨#[]⟩, .string ⟨#[]⟩, .slice none 0 0, .int .i64 r] rfl rfl _ _ K2.out.tok (by kernel_rfl) rfl (by kernel_rfl) ?_))
  (try simp only [Exit.inBlock, Exit.then])
  exact bodyPost_ret (results_cell2 rfl _ _ (w.heap.size + 1 + 1) _ _ _ _ rfl JF.out.tok HU.out.2 rfl HU.out.1) rfl (TokPost.plain rfl rfl JF.out.below)
set_option maxRecDepth 100000 in
set_option maxHeartbeats 8000000 in
theorem tokRead_ref (A : Option Addr) (n cap : Nat) (l : List UInt8) (k : Nat) (w : World) (h : Byt w w.heap.size A n cap l) (hW : W11 w) (hm : n ≤ 40000) (hk : k ≤ n) (h0 : [60, 33, 45, 45].isPrefixOf (l.drop k) = false) (h1 : [60, 33, 91, 67, 68, 65, 84, 65, 91].isPrefixOf (l.drop k) = false) (h2 : [60, 63].isPrefixOf (l.drop k) = false) (h3 : [60, 47].isPrefixOf (l.drop k) = false) (h4 : [60].isPrefixOf (l.drop k) = false) (h5 : [38, 35].isPrefixOf (l.drop k) = false) (h6 : [38].isPrefixOf (l.drop k) = true) :
    Calls Tryz.prog 29 #[.slice A n cap, .int .i64 (k : Int)] w fun e w' => TokPost (readTok l k) w e w' := by
  have hln := h.length
  have HK : Hid (∀ W rs, RJ A n cap k w W rs → Byt W W.heap.size A n cap l ∧ W11 W) := Lib.hid fun W rs hJ => ⟨(h.below hJ.below).more hJ.below.size, hW.below hJ.below⟩
  have S0 : Hid (∀ W rs, RJ A n cap k w W rs → Calls Tryz.prog 59 #[.string ⟨#[60, 33, 45, 45]⟩, .pointer (some ⟨w.heap.size, 0, none⟩), .pointer (some ⟨w.heap.size + 1, 0, none⟩)] W fun e w' => e = .returned (.bool false) ∧ Below W.heap.size W w') := Lib.hid fun W rs hJ => by
    have := stands1_c A n cap l k w.heap.size (w.heap.size + 1) [60, 33, 45, 45] W (HK.out W rs hJ).1 hk (by decide) (cell_of 0 hJ.bs) (cell_of 0 hJ.at_)
    rwa [h0] at this
  have S1 : Hid (∀ W rs, RJ A n cap k w W rs → Calls Tryz.prog 59 #[.string ⟨#[60, 33, 91, 67, 68, 65, 84, 65, 91]⟩, .pointer (some ⟨w.heap.size, 0, none⟩), .pointer (some ⟨w.heap.size + 1, 0, none⟩)] W fun e w' => e = .returned (.bool false) ∧ Below W.heap.size W w') := Lib.hid fun W rs hJ => by
    have := stands1_c A n cap l k w.heap.size (w.heap.size + 1) [60, 33, 91, 67, 68, 65, 84, 65, 91] W (HK.out W rs hJ).1 hk (by decide) (cell_of 0 hJ.bs) (cell_of 0 hJ.at_)
    rwa [h1] at this
  have S2 : Hid (∀ W rs, RJ A n cap k w W rs → Calls Tryz.prog 59 #[.string ⟨#[60, 63]⟩, .pointer (some ⟨w.heap.size, 0, none⟩), .pointer (some ⟨w.heap.size + 1, 0, none⟩)] W fun e w' => e = .returned (.bool false) ∧ Below W.heap.size W w') := Lib.hid fun W rs hJ => by
    have := stands1_c A n cap l k w.heap.size (w.heap.size + 1) [60, 63] W (HK.out W rs hJ).1 hk (by decide) (cell_of 0 hJ.bs) (cell_of 0 hJ.at_)
    rwa [h2] at this
  have S3 : Hid (∀ W rs, RJ A n cap k w W rs → Calls Tryz.prog 59 #[.string ⟨#[60, 47]⟩, .pointer (some ⟨w.heap.size, 0, none⟩), .pointer (some ⟨w.heap.size + 1, 0, none⟩)] W fun e w' => e = .returned (.bool false) ∧ Below W.heap.size W w') := Lib.hid fun W rs hJ => by
    have := stands1_c A n cap l k w.heap.size (w.heap.size + 1) [60, 47] W (HK.out W rs hJ).1 hk (by decide) (cell_of 0 hJ.bs) (cell_of 0 hJ.at_)
    rwa [h3] at this
  have S4 : Hid (∀ W rs, RJ A n cap k w W rs → Calls Tryz.prog 59 #[.string ⟨#[60]⟩, .pointer (some ⟨w.heap.size, 0, none⟩), .pointer (some ⟨w.heap.size + 1, 0, none⟩)] W fun e w' => e = .returned (.bool false) ∧ Below W.heap.size W w') := Lib.hid fun W rs hJ => by
    have := stands1_c A n cap l k w.heap.size (w.heap.size + 1) [60] W (HK.out W rs hJ).1 hk (by decide) (cell_of 0 hJ.bs) (cell_of 0 hJ.at_)
    rwa [h4] at this
  have S5 : Hid (∀ W rs, RJ A n cap k w W rs → Calls Tryz.prog 59 #[.string ⟨#[38, 35]⟩, .pointer (some ⟨w.heap.size, 0, none⟩), .pointer (some ⟨w.heap.size + 1, 0, none⟩)] W fun e w' => e = .returned (.bool false) ∧ Below W.heap.size W w') := Lib.hid fun W rs hJ => by
    have := stands1_c A n cap l k w.heap.size (w.heap.size + 1) [38, 35] W (HK.out W rs hJ).1 hk (by decide) (cell_of 0 hJ.bs) (cell_of 0 hJ.at_)
    rwa [h5] at this
  have S6 : Hid (∀ W rs, RJ A n cap k w W rs → Calls Tryz.prog 59 #[.string ⟨#[38]⟩, .pointer (some ⟨w.heap.size, 0, none⟩), .pointer (some ⟨w.heap.size + 1, 0, none⟩)] W fun e w' => e = .returned (.bool true) ∧ Below W.heap.size W w') := Lib.hid fun W rs hJ => by
    have := stands1_c A n cap l k w.heap.size (w.heap.size + 1) [38] W (HK.out W rs hJ).1 hk (by decide) (cell_of 0 hJ.bs) (cell_of 0 hJ.at_)
    rwa [h6] at this
  have C : Hid (∀ W rs, RJ A n cap k w W rs → Calls Tryz.prog 67 #[.slice A n cap, .int .i64 (k : Int)] W fun e w' => e = .returned (outV (refOut 38 l k)) ∧ Below W.heap.size W w') := Lib.hid fun W rs hJ => by
    have hB := (HK.out W rs hJ).1
    have hW := (HK.out W rs hJ).2
    have := crefEntity_c A n cap l k W hB hW.forms hW.tabs (by omega)
    have he : refAt 38 l k = refOut 38 l k := by
      unfold refAt
      rw [hln, if_neg (by omega), Int.toNat_natCast]
    rwa [he] at this
  unfold readTok
  rw [if_neg (by rw [h0]; simp), if_neg (by rw [h1]; simp), if_neg (by rw [h2]; simp), if_neg (by rw [h3]; simp), if_neg (by rw [h4]; simp), if_neg (by rw [h5]; simp), if_pos h6]
  generalize refOut 38 l k = o at *
  obtain ⟨s, t, e⟩ := o
  unfold outV at C
  simp only at C ⊢
  have J0 := Lib.hid (RJ.start A n cap k w)
  have hi : (Tryz.prog.info? 26).map (·.size) = some 7 := by kernel_rfl
  obtain ⟨sd, hu⟩ := isStruct_of (P := Tryz.prog) (t := 26) (by kernel_rfl)
  have HU := Lib.hid (And.intro hi hu)
  have hk0 : (0 : Int) ≤ (k : Int) := by omega
  have hk1 : (k : Int) ≤ 40000 := by omega
  clear h hW hln HK hi hu h0 h1 h2 h3 h4 h5 h6
  go_enter Tryz.func29, Tryz.ntmps29
  go_wp2_with fail
  refine (S0.out _ _ J0.out).mono ?_
  rintro e0 w1 ⟨rfl, hb⟩
  have J1 := Lib.hid (J0.out.kept hb)
  clear hb
  go_wp2_with fail
  refine (S1.out _ _ J1.out).mono ?_
  rintro e0 w2 ⟨rfl, hb⟩
  have J2 := Lib.hid (J1.out.kept hb)
  clear hb
  go_wp2_with fail
  refine (S2.out _ _ J2.out).mono ?_
  rintro e0 w3 ⟨rfl, hb⟩
  have J3 := Lib.hid (J2.out.kept hb)
  clear hb
  go_wp2_with fail
  refine (S3.out _ _ J3.out).mono ?_
  rintro e0 w4 ⟨rfl, hb⟩
  have J4 := Lib.hid (J3.out.kept hb)
  clear hb
  go_wp2_with fail
  refine (S4.out _ _ J4.out).mono ?_
  rintro e0 w5 ⟨rfl, hb⟩
  have J5 := Lib.hid (J4.out.kept hb)
  clear hb
  go_wp2_with fail
  refine (S5.out _ _ J5.out).mono ?_
  rintro e0 w6 ⟨rfl, hb⟩
  have J6 := Lib.hid (J5.out.kept hb)
  clear hb
  go_wp2_with fail
  refine (S6.out _ _ J6.out).mono ?_
  rintro e0 w7 ⟨rfl, hb⟩
  have J7 := Lib.hid (J6.out.kept hb)
  clear hb
  have z0 := cell_of 0 J7.out.tok
  have y0 := free_of 0 J7.out.tok
  have JA : Hid (RJ A n cap k w (w7.setCell ⟨w.heap.size + 1 + 1, 0, none⟩ (.int .i64 3)) #[.int .i64 3, .int .i64 0, .int .i64 0, .string ⟨#[]⟩, .string ⟨#[]⟩, .slice none 0 0, .int .i64 0]) := Lib.hid (J7.out.set 0 (.int .i64 3))
  have zb := cell_of 0 JA.out.bs
  have za := cell_of 0 JA.out.at_
  go_wp2_with fail
  clear z0 y0
  generalize w7.setCell ⟨w.heap.size + 1 + 1, 0, none⟩ (.int .i64 3) = v1 at *
  refine (C.out _ _ JA.out).mono ?_
  rintro e0 u0 ⟨rfl, hb⟩
  have K0 := Lib.hid (JA.out.kept hb)
  clear hb zb za
  have z1 := cell_of 3 K0.out.tok
  have y1 := free_of 3 K0.out.tok
  have K1 : Hid (RJ A n cap k w (u0.setCell ⟨w.heap.size + 1 + 1, 3, none⟩ (.string ⟨s.toArray⟩)) #[.int .i64 3, .int .i64 0, .int .i64 0, .string ⟨s.toArray⟩, .string ⟨#[]⟩, .slice none 0 0, .int .i64 0]) := Lib.hid (K0.out.set 3 (.string ⟨s.toArray⟩))
  have z2 := cell_of 2 K1.out.tok
  have y2 := free_of 2 K1.out.tok
  have K2 : Hid (RJ A n cap k w ((u0.setCell ⟨w.heap.size + 1 + 1, 3, none⟩ (.string ⟨s.toArray⟩)).setCell ⟨w.heap.size + 1 + 1, 2, none⟩ (.int .i64 (t : Int))) #[.int .i64 3, .int .i64 0, .int .i64 (t : Int), .string ⟨s.toArray⟩, .string ⟨#[]⟩, .slice none 0 0, .int .i64 0]) := Lib.hid (K1.out.set 2 (.int .i64 (t : Int)))
  have JF := Lib.hid (K2.out.row #[.int .i64 3, .int .i64 0, .int .i64 (t : Int), .string ⟨s.toArray⟩, .string ⟨#[]⟩, .slice none 0 0, .int .i64 0])
  go_wp2_with (first | (refine wpList_load_row rfl _ _ rfl (w.heap.size + 1 + 1) rfl _ _ _ _ K2.out.tok HU.out.2 rfl HU.out.1 ?_) | (refine wpList_store_row rfl _ _ _ rfl (w.heap.size + 1 + 1) #[.int .i64 3, .int .i64 0, .int .i64 (t : Int), .string ⟨s.toArray⟩, .string ⟨#[]⟩, .slice none 0 0, .int .i64 0] rfl rfl _ _ K2.out.tok (by kernel_rfl) rfl (by kernel_rfl) ?_))
  (try simp only [Exit.inBlock, Exit.then])
  exact bodyPost_ret (results_cell2 rfl _ _ (w.heap.size + 1 + 1) _ _ _ _ rfl JF.out.tok HU.out.2 rfl HU.out.1) rfl (TokPost.plain rfl rfl JF.out.below)
set_option maxRecDepth 100000 in
set_option maxHeartbeats 8000000 in
theorem tokRead_text (A : Option Addr) (n cap : Nat) (l : List UInt8) (k : Nat) (w : World) (h : Byt w w.heap.size A n cap l) (hW : W11 w) (hm : n ≤ 40000) (hk : k ≤ n) (h0 : [60, 33, 45, 45].isPrefixOf (l.drop k) = false) (h1 : [60, 33, 91, 67, 68, 65, 84, 65, 91].isPrefixOf (l.drop k) = false) (h2 : [60, 63].isPrefixOf (l.drop k) = false) (h3 : [60, 47].isPrefixOf (l.drop k) = false) (h4 : [60].isPrefixOf (l.drop k) = false) (h5 : [38, 35].isPrefixOf (l.drop k) = false) (h6 : [38].isPrefixOf (l.drop k) = false) :
    Calls Tryz.prog 29 #[.slice A n cap, .int .i64 (k : Int)] w fun e w' => TokPost (readTok l k) w e w' := by
  have hln := h.length
  have HK : Hid (∀ W rs, RJ A n cap k w W rs → Byt W W.heap.size A n cap l ∧ W11 W) := Lib.hid fun W rs hJ => ⟨(h.below hJ.below).more hJ.below.size, hW.below hJ.below⟩
  have S0 : Hid (∀ W rs, RJ A n cap k w W rs → Calls Tryz.prog 59 #[.string ⟨#[60, 33, 45, 45]⟩, .pointer (some ⟨w.heap.size, 0, none⟩), .pointer (some ⟨w.heap.size + 1, 0, none⟩)] W fun e w' => e = .returned (.bool false) ∧ Below W.heap.size W w') := Lib.hid fun W rs hJ => by
    have := stands1_c A n cap l k w.heap.size (w.heap.size + 1) [60, 33, 45, 45] W (HK.out W rs hJ).1 hk (by decide) (cell_of 0 hJ.bs) (cell_of 0 hJ.at_)
    rwa [h0] at this
  have S1 : Hid (∀ W rs, RJ A n cap k w W rs → Calls Tryz.prog 59 #[.string ⟨#[60, 33, 91, 67, 68, 65, 84, 65, 91]⟩, .pointer (some ⟨w.heap.size, 0, none⟩), .pointer (some ⟨w.heap.size + 1, 0, none⟩)] W fun e w' => e = .returned (.bool false) ∧ Below W.heap.size W w') := Lib.hid fun W rs hJ => by
    have := stands1_c A n cap l k w.heap.size (w.heap.size + 1) [60, 33, 91, 67, 68, 65, 84, 65, 91] W (HK.out W rs hJ).1 hk (by decide) (cell_of 0 hJ.bs) (cell_of 0 hJ.at_)
    rwa [h1] at this
  have S2 : Hid (∀ W rs, RJ A n cap k w W rs → Calls Tryz.prog 59 #[.string ⟨#[60, 63]⟩, .pointer (some ⟨w.heap.size, 0, none⟩), .pointer (some ⟨w.heap.size + 1, 0, none⟩)] W fun e w' => e = .returned (.bool false) ∧ Below W.heap.size W w') := Lib.hid fun W rs hJ => by
    have := stands1_c A n cap l k w.heap.size (w.heap.size + 1) [60, 63] W (HK.out W rs hJ).1 hk (by decide) (cell_of 0 hJ.bs) (cell_of 0 hJ.at_)
    rwa [h2] at this
  have S3 : Hid (∀ W rs, RJ A n cap k w W rs → Calls Tryz.prog 59 #[.string ⟨#[60, 47]⟩, .pointer (some ⟨w.heap.size, 0, none⟩), .pointer (some ⟨w.heap.size + 1, 0, none⟩)] W fun e w' => e = .returned (.bool false) ∧ Below W.heap.size W w') := Lib.hid fun W rs hJ => by
    have := stands1_c A n cap l k w.heap.size (w.heap.size + 1) [60, 47] W (HK.out W rs hJ).1 hk (by decide) (cell_of 0 hJ.bs) (cell_of 0 hJ.at_)
    rwa [h3] at this
  have S4 : Hid (∀ W rs, RJ A n cap k w W rs → Calls Tryz.prog 59 #[.string ⟨#[60]⟩, .pointer (some ⟨w.heap.size, 0, none⟩), .pointer (some ⟨w.heap.size + 1, 0, none⟩)] W fun e w' => e = .returned (.bool false) ∧ Below W.heap.size W w') := Lib.hid fun W rs hJ => by
    have := stands1_c A n cap l k w.heap.size (w.heap.size + 1) [60] W (HK.out W rs hJ).1 hk (by decide) (cell_of 0 hJ.bs) (cell_of 0 hJ.at_)
    rwa [h4] at this
  have S5 : Hid (∀ W rs, RJ A n cap k w W rs → Calls Tryz.prog 59 #[.string ⟨#[38, 35]⟩, .pointer (some ⟨w.heap.size, 0, none⟩), .pointer (some ⟨w.heap.size + 1, 0, none⟩)] W fun e w' => e = .returned (.bool false) ∧ Below W.heap.size W w') := Lib.hid fun W rs hJ => by
    have := stands1_c A n cap l k w.heap.size (w.heap.size + 1) [38, 35] W (HK.out W rs hJ).1 hk (by decide) (cell_of 0 hJ.bs) (cell_of 0 hJ.at_)
    rwa [h5] at this
  have S6 : Hid (∀ W rs, RJ A n cap k w W rs → Calls Tryz.prog 59 #[.string ⟨#[38]⟩, .pointer (some ⟨w.heap.size, 0, none⟩), .pointer (some ⟨w.heap.size + 1, 0, none⟩)] W fun e w' => e = .returned (.bool false) ∧ Below W.heap.size W w') := Lib.hid fun W rs hJ => by
    have := stands1_c A n cap l k w.heap.size (w.heap.size + 1) [38] W (HK.out W rs hJ).1 hk (by decide) (cell_of 0 hJ.bs) (cell_of 0 hJ.at_)
    rwa [h6] at this
  have C : Hid (∀ W rs, RJ A n cap k w W rs → Calls Tryz.prog 68 #[.slice A n cap, .int .i64 (k : Int)] W fun e w' => TokPost (textTok l k) W e w') := Lib.hid fun W rs hJ => tokText_c A n cap l k W (HK.out W rs hJ).1 (HK.out W rs hJ).2 hm hk
  have hR : readTok l k = textTok l k := by
    unfold readTok
    rw [if_neg (by rw [h0]; simp), if_neg (by rw [h1]; simp), if_neg (by rw [h2]; simp), if_neg (by rw [h3]; simp), if_neg (by rw [h4]; simp), if_neg (by rw [h5]; simp), if_neg (by rw [h6]; simp)]
  rw [hR]
  generalize textTok l k = o at *
  obtain ⟨o, oe⟩ := o
  have J0 := Lib.hid (RJ.start A n cap k w)
  have hi : (Tryz.prog.info? 26).map (·.size) = some 7 := by kernel_rfl
  obtain ⟨sd, hu⟩ := isStruct_of (P := Tryz.prog) (t := 26) (by kernel_rfl)
  have HU := Lib.hid (And.intro hi hu)
  have hk0 : (0 : Int) ≤ (k : Int) := by omega
  have hk1 : (k : Int) ≤ 40000 := by omega
  clear h hW hln HK hi hu h0 h1 h2 h3 h4 h5 h6
  go_enter Tryz.func29, Tryz.ntmps29
  go_wp2_with fail
  refine (S0.out _ _ J0.out).mono ?_
  rintro e0 w1 ⟨rfl, hb⟩
  have J1 := Lib.hid (J0.out.kept hb)
  clear hb
  go_wp2_with fail
  refine (S1.out _ _ J1.out).mono ?_
  rintro e0 w2 ⟨rfl, hb⟩
  have J2 := Lib.hid (J1.out.kept hb)
  clear hb
  go_wp2_with fail
  refine (S2.out _ _ J2.out).mono ?_
  rintro e0 w3 ⟨rfl, hb⟩
  have J3 := Lib.hid (J2.out.kept hb)
  clear hb
  go_wp2_with fail
  refine (S3.out _ _ J3.out).mono ?_
  rintro e0 w4 ⟨rfl, hb⟩
  have J4 := Lib.hid (J3.out.kept hb)
  clear hb
  go_wp2_with fail
  refine (S4.out _ _ J4.out).mono ?_
  rintro e0 w5 ⟨rfl, hb⟩
  have J5 := Lib.hid (J4.out.kept hb)
  clear hb
  go_wp2_with fail
  refine (S5.out _ _ J5.out).mono ?_
  rintro e0 w6 ⟨rfl, hb⟩
  have J6 := Lib.hid (J5.out.kept hb)
  clear hb
  go_wp2_with fail
  refine (S6.out _ _ J6.out).mono ?_
  rintro e0 w7 ⟨rfl, hb⟩
  have J7 := Lib.hid (J6.out.kept hb)
  clear hb
  have zb := cell_of 0 J7.out.bs
  have za := cell_of 0 J7.out.at_
  go_wp2_with fail
  refine (C.out _ _ J7.out).mono ?_
  rintro e0 u0 ⟨v, hv, rfl, hp, hb, hlo⟩
  have K0 := Lib.hid (J7.out.kept hb)
  have JF := Lib.hid (K0.out.row v.cells.toArray)
  have HP := Lib.hid (And.intro hp (fun b i h => Nat.lt_of_lt_of_le J7.out.size (hlo b i h)))
  clear hb hp hlo za zb
  go_wp2_with (refine wpList_store_row rfl _ _ _ rfl (w.heap.size + 1 + 1) v.cells.toArray rfl rfl _ _ K0.out.tok (by kernel_rfl) rfl (by kernel_rfl) ?_)
  (try simp only [Exit.inBlock, Exit.then])
  refine bodyPost_ret (results_cell2 rfl _ _ (w.heap.size + 1 + 1) _ _ _ _ rfl JF.out.tok HU.out.2 rfl HU.out.1) rfl ⟨v, hv, rfl, HP.out.1.move ?_ ?_, JF.out.below, fun b i h => by have := HP.out.2 b i h; omega⟩
  · simp [World.setRow]
  · intro b' i' hA hb'
    have hlt := HP.out.2 b' i' hA
    rw [setRow_at _ _ _ _ (by omega)]
/-- narthex/tok.read at a place within. -/
theorem tokRead_c (A : Option Addr) (n cap : Nat) (l : List UInt8) (k : Nat) (w : World) (h : Byt w w.heap.size A n cap l) (hW : W11 w) (hm : n ≤ 40000) (hk : k ≤ n) :
    Calls Tryz.prog 29 #[.slice A n cap, .int .i64 (k : Int)] w fun e w' => TokPost (readTok l k) w e w' := by
  cases h0 : [60, 33, 45, 45].isPrefixOf (l.drop k) with
  | true => exact tokRead_comment A n cap l k w h hW hm hk h0
  | false =>
    cases h1 : [60, 33, 91, 67, 68, 65, 84, 65, 91].isPrefixOf (l.drop k) with
    | true => exact tokRead_cdata A n cap l k w h hW hm hk h0 h1
    | false =>
      cases h2 : [60, 63].isPrefixOf (l.drop k) with
      | true => exact tokRead_pi A n cap l k w h hW hm hk h0 h1 h2
      | false =>
        cases h3 : [60, 47].isPrefixOf (l.drop k) with
        | true => exact tokRead_close A n cap l k w h hW hm hk h0 h1 h2 h3
        | false =>
          cases h4 : [60].isPrefixOf (l.drop k) with
          | true => exact tokRead_open A n cap l k w h hW hm hk h0 h1 h2 h3 h4
          | false =>
            cases h5 : [38, 35].isPrefixOf (l.drop k) with
            | true => exact tokRead_char A n cap l k w h hW hm hk h0 h1 h2 h3 h4 h5
            | false =>
              cases h6 : [38].isPrefixOf (l.drop k) with
              | true => exact tokRead_ref A n cap l k w h hW hm hk h0 h1 h2 h3 h4 h5 h6
              | false =>
                exact tokRead_text A n cap l k w h hW hm hk h0 h1 h2 h3 h4 h5 h6
end Go.Proofs.YtmclngahdklfkaaGreatDoor
/- tok.Next. -/
namespace Go.Proofs.YtmclngahdklfkaaGreatDoor
open Go.ChangeShapes Go.WideShapes Go.ChangeAt Go.RowKit
set_option linter.unusedVariables false
set_option maxRecDepth 100000 in
set_option maxHeartbeats 4000000 in
theorem tokNext_c (A : Option Addr) (n cap : Nat) (l : List UInt8) (at_ : Int) (w : World) (h : Byt w w.heap.size A n cap l) (hW : W11 w) (hm : n ≤ 40000) :
    Calls Tryz.prog 10 #[.slice A n cap, .int .i64 at_] w fun e w' => TokPost (nextAt l at_) w e w' := by
  have hln := h.length
  have hJ := CJ.start 26 w #[.int .i64 0, .int .i64 0, .int .i64 0, .string ⟨#[]⟩, .string ⟨#[]⟩, .slice none 0 0, .int .i64 0]
  have hi : (Tryz.prog.info? 26).map (·.size) = some 7 := by kernel_rfl
  obtain ⟨sd, hu⟩ := isStruct_of (P := Tryz.prog) (t := 26) (by kernel_rfl)
  have HU := Lib.hid (And.intro hi hu)
  have J0 := Lib.hid hJ
  have C : Hid (∀ k : Nat, k < n → ∀ W, Below w.heap.size w W → Calls Tryz.prog 29 #[.slice A n cap, .int .i64 (k : Int)] W fun e w' => TokPost (readTok l k) W e w') := Lib.hid fun k hk W hb => tokRead_c A n cap l k W ((h.below hb).more hb.size) (hW.below hb) hm (by omega)
  unfold nextAt
  rw [hln]
  have JZ := Lib.hid (J0.out.row #[.int .i64 0, .int .i64 0, .int .i64 0, .string ⟨#[]⟩, .string ⟨#[]⟩, .slice none 0 0, .int .i64 0])
  clear h hW hi hu hJ hln
  by_cases ha : at_ < 0 ∨ (n : Int) < at_
  · rw [if_pos ha]
    clear C
    by_cases h0 : at_ < 0
    · have hd : decide (at_ < 0) = true := by simpa using h0
      clear ha
      go_enter Tryz.func10, Tryz.ntmps10
      go_wp2_with (refine wpList_store_row rfl _ _ _ rfl w.heap.size #[.int .i64 0, .int .i64 0, .int .i64 0, .string ⟨#[]⟩, .string ⟨#[]⟩, .slice none 0 0, .int .i64 0] rfl rfl _ _ J0.out.2 (by kernel_rfl) rfl (by kernel_rfl) ?_)
      (try simp only [Exit.inBlock, Exit.then])
      exact bodyPost_ret (results_cell2 rfl _ _ w.heap.size _ _ _ _ rfl JZ.out.2 HU.out.2 rfl HU.out.1) rfl (TokPost.no rfl JZ.out.1)
    · have h1 : (n : Int) < at_ := by omega
      clear ha
      go_enter Tryz.func10, Tryz.ntmps10
      go_wp2_with (refine wpList_store_row rfl _ _ _ rfl w.heap.size #[.int .i64 0, .int .i64 0, .int .i64 0, .string ⟨#[]⟩, .string ⟨#[]⟩, .slice none 0 0, .int .i64 0] rfl rfl _ _ J0.out.2 (by kernel_rfl) rfl (by kernel_rfl) ?_)
      (try simp only [Exit.inBlock, Exit.then])
      exact bodyPost_ret (results_cell2 rfl _ _ w.heap.size _ _ _ _ rfl JZ.out.2 HU.out.2 rfl HU.out.1) rfl (TokPost.no rfl JZ.out.1)
  · rw [if_neg ha]
    by_cases hn : at_ = (n : Int)
    · rw [if_pos hn]
      subst hn
      clear ha C
      have hn0 : ¬ (n : Int) < 0 := by omega
      go_enter Tryz.func10, Tryz.ntmps10
      go_wp2_with (refine wpList_store_row rfl _ _ _ rfl w.heap.size #[.int .i64 0, .int .i64 0, .int .i64 0, .string ⟨#[]⟩, .string ⟨#[]⟩, .slice none 0 0, .int .i64 0] rfl rfl _ _ J0.out.2 (by kernel_rfl) rfl (by kernel_rfl) ?_)
      (try simp only [Exit.inBlock, Exit.then])
      exact bodyPost_ret (results_cell2 rfl _ _ w.heap.size _ _ _ _ rfl JZ.out.2 HU.out.2 rfl HU.out.1) rfl (TokPost.no rfl JZ.out.1)
    · rw [if_neg hn]
      obtain ⟨k, rfl⟩ : ∃ k : Nat, at_ = (k : Int) := ⟨at_.toNat, by omega⟩
      rw [Int.toNat_natCast]
      have hk : k < n := by omega
      have C1 := Lib.hid (C.out k hk _ J0.out.1)
      unfold nextOut
      generalize readTok l k = ro at *
      obtain ⟨o, e⟩ := ro
      have hk0 : ¬ (k : Int) < 0 := by omega
      have hk1 : ¬ (n : Int) < (k : Int) := by omega
      have hk2 : ((k : Int) == (n : Int)) = false := by simp; omega
      clear ha hn hk C
      by_cases he : e = 0
      · subst he
        rw [if_pos rfl]
        go_enter Tryz.func10, Tryz.ntmps10
        go_wp2_with fail
        refine C1.out.mono ?_
        intro e0 w1 hp
        obtain ⟨PA, pn, pc, rfl, hpr, hb, hlo⟩ := hp.out
        simp only at hpr ⊢
        have J1 := J0.out.kept hb
        have HP := Lib.hid (And.intro hpr (fun b i h => Nat.lt_of_lt_of_le (lt_of J0.out.2) (hlo b i h)))
        have J4 := Lib.hid (J1.kept ((Below.refl _ w1).alloc (Nat.le_refl _) (.cells #[.int .i64 o.kind, .int .i64 (k : Int), .int .i64 o.to_, .string ⟨o.name.toArray⟩, .string ⟨o.text.toArray⟩, .slice PA pn pc, .int .i64 o.r] 26)))
        have HQ := Lib.hid (hp_new w1 (.cells #[.int .i64 o.kind, .int .i64 (k : Int), .int .i64 o.to_, .string ⟨o.name.toArray⟩, .string ⟨o.text.toArray⟩, .slice PA pn pc, .int .i64 o.r] 26))
        have JF := Lib.hid (J4.out.row #[.int .i64 o.kind, .int .i64 (k : Int), .int .i64 o.to_, .string ⟨o.name.toArray⟩, .string ⟨o.text.toArray⟩, .slice PA pn pc, .int .i64 o.r])
        clear hpr hb hlo J1 hp
        go_wp2_with (first | (refine wpList_load_row rfl _ _ rfl w1.heap.size rfl _ _ _ _ HQ.out HU.out.2 rfl HU.out.1 ?_) | (refine wpList_store_row rfl _ _ _ rfl w.heap.size #[.int .i64 o.kind, .int .i64 (k : Int), .int .i64 o.to_, .string ⟨o.name.toArray⟩, .string ⟨o.text.toArray⟩, .slice PA pn pc, .int .i64 o.r] rfl rfl _ _ J4.out.2 (by kernel_rfl) rfl (by kernel_rfl) ?_))
        (try simp only [Exit.inBlock, Exit.then])
        refine bodyPost_ret (results_cell2 rfl _ _ w.heap.size _ _ _ _ rfl JF.out.2 HU.out.2 rfl HU.out.1) rfl (TokPost.of PA pn pc rfl (HP.out.1.move ?_ ?_) JF.out.1 fun b i h => Nat.le_of_lt (HP.out.2 b i h))
        · simp [World.setRow]
        · intro b' i' hA hb'
          have hlt := HP.out.2 b' i' hA
          rw [setRow_at _ _ _ _ (by omega), Below.heap_alloc _ _ _ hb']
      · rw [if_neg he]
        have hei : ((e : Int) == 0) = false := by simp; omega
        go_enter Tryz.func10, Tryz.ntmps10
        go_wp2_with fail
        refine C1.out.mono ?_
        intro e0 w1 hp
        obtain ⟨PA, pn, pc, rfl, hpr, hb, hlo⟩ := hp.out
        simp only at hpr ⊢
        have J1 := J0.out.kept hb
        have J4 := Lib.hid (J1.kept ((Below.refl _ w1).alloc (Nat.le_refl _) (.cells #[.int .i64 o.kind, .int .i64 o.fro, .int .i64 o.to_, .string ⟨o.name.toArray⟩, .string ⟨o.text.toArray⟩, .slice PA pn pc, .int .i64 o.r] 26)))
        have JF := Lib.hid (J4.out.row #[.int .i64 0, .int .i64 0, .int .i64 0, .string ⟨#[]⟩, .string ⟨#[]⟩, .slice none 0 0, .int .i64 0])
        clear hpr hb hlo J1 hp
        go_wp2_with (refine wpList_store_row rfl _ _ _ rfl w.heap.size #[.int .i64 0, .int .i64 0, .int .i64 0, .string ⟨#[]⟩, .string ⟨#[]⟩, .slice none 0 0, .int .i64 0] rfl rfl _ _ J4.out.2 (by kernel_rfl) rfl (by kernel_rfl) ?_)
        (try simp only [Exit.inBlock, Exit.then])
        exact bodyPost_ret (results_cell2 rfl _ _ w.heap.size _ _ _ _ rfl JF.out.2 HU.out.2 rfl HU.out.1) rfl (TokPost.no rfl JF.out.1)
end Go.Proofs.YtmclngahdklfkaaGreatDoor
/- Tokens turned to the document's; the same ones. -/
namespace Go.Proofs.YtmclngahdklfkaaGreatDoor
open Go.ChangeShapes Go.WideShapes Go.ChangeAt Go.RowKit
set_option linter.unusedVariables false
set_option maxRecDepth 100000 in
set_option maxHeartbeats 4000000 in
theorem like_c (o : TokL) (A : Option Addr) (n c : Nat) (w : World) : Calls Tryz.prog 13 #[.agg #[.int .i64 o.kind, .int .i64 o.fro, .int .i64 o.to_, .string ⟨o.name.toArray⟩, .string ⟨o.text.toArray⟩, .slice A n c, .int .i64 o.r]] w fun e w' => e = .returned (.agg #[.int .i64 o.kind, .int .i64 o.fro, .int .i64 o.to_, .string ⟨o.name.toArray⟩, .string ⟨o.text.toArray⟩, .slice A n c, .int .i64 o.r]) ∧ Below w.heap.size w w' := by
  have hi : (Tryz.prog.info? 30).map (·.size) = some 7 := by kernel_rfl
  obtain ⟨sd, hu⟩ := isStruct_of (P := Tryz.prog) (t := 30) (by kernel_rfl)
  have hq : ((w.alloc (.cells #[.int .i64 o.kind, .int .i64 o.fro, .int .i64 o.to_, .string ⟨o.name.toArray⟩, .string ⟨o.text.toArray⟩, .slice A n c, .int .i64 o.r] 26)).alloc (.cells #[.int .i64 o.kind, .int .i64 o.fro, .int .i64 o.to_, .string ⟨o.name.toArray⟩, .string ⟨o.text.toArray⟩, .slice A n c, .int .i64 o.r] 30)).heap[w.heap.size + 1]? = some (.cells #[.int .i64 o.kind, .int .i64 o.fro, .int .i64 o.to_, .string ⟨o.name.toArray⟩, .string ⟨o.text.toArray⟩, .slice A n c, .int .i64 o.r] 30) := by
    have := hp_new (w.alloc (.cells #[.int .i64 o.kind, .int .i64 o.fro, .int .i64 o.to_, .string ⟨o.name.toArray⟩, .string ⟨o.text.toArray⟩, .slice A n c, .int .i64 o.r] 26)) (.cells #[.int .i64 o.kind, .int .i64 o.fro, .int .i64 o.to_, .string ⟨o.name.toArray⟩, .string ⟨o.text.toArray⟩, .slice A n c, .int .i64 o.r] 30)
    rwa [World.size_alloc] at this
  have HQ := Lib.hid hq
  have HB := Lib.hid (((Below.refl w.heap.size w).alloc (Nat.le_refl _) (.cells #[.int .i64 o.kind, .int .i64 o.fro, .int .i64 o.to_, .string ⟨o.name.toArray⟩, .string ⟨o.text.toArray⟩, .slice A n c, .int .i64 o.r] 26)).alloc (by simp) (.cells #[.int .i64 o.kind, .int .i64 o.fro, .int .i64 o.to_, .string ⟨o.name.toArray⟩, .string ⟨o.text.toArray⟩, .slice A n c, .int .i64 o.r] 30))
  have HU := Lib.hid (And.intro hi hu)
  clear hq hi hu
  go_enter Tryz.func13, Tryz.ntmps13
  go_wp2
  (try simp only [Exit.inBlock, Exit.then])
  exact bodyPost_ret (results_cell_row rfl _ _ (w.heap.size + 1) _ _ _ _ rfl HQ.out HU.out.2 rfl HU.out.1) rfl ⟨rfl, HB.out⟩
set_option maxRecDepth 100000 in
set_option maxHeartbeats 4000000 in
theorem same11_c (o : TokL) (A1 A2 : Option Addr) (n c1 c2 : Nat) (w : World) (h1 : PRd w w.heap.size A1 n c1 o.pairs) (h2 : PRd w w.heap.size A2 n c2 o.pairs) (hm : n ≤ 1000000) :
    Calls Tryz.prog 12 #[.agg #[.int .i64 o.kind, .int .i64 o.fro, .int .i64 o.to_, .string ⟨o.name.toArray⟩, .string ⟨o.text.toArray⟩, .slice A1 n c1, .int .i64 o.r], .agg #[.int .i64 o.kind, .int .i64 o.fro, .int .i64 o.to_, .string ⟨o.name.toArray⟩, .string ⟨o.text.toArray⟩, .slice A2 n c2, .int .i64 o.r]] w fun e w' => e = .returned (.bool true) ∧ Below w.heap.size w w' := by
  have hb := ((Below.refl w.heap.size w).alloc (Nat.le_refl _) (.cells #[.int .i64 o.kind, .int .i64 o.fro, .int .i64 o.to_, .string ⟨o.name.toArray⟩, .string ⟨o.text.toArray⟩, .slice A1 n c1, .int .i64 o.r] 30)).alloc (by simp) (.cells #[.int .i64 o.kind, .int .i64 o.fro, .int .i64 o.to_, .string ⟨o.name.toArray⟩, .string ⟨o.text.toArray⟩, .slice A2 n c2, .int .i64 o.r] 30)
  have HB := Lib.hid hb
  have CS := Lib.hid (same10_c A1 A2 n c1 c2 o.pairs _ ((h1.below hb).more hb.size) ((h2.below hb).more hb.size) hm)
  have q1 : ((w.alloc (.cells #[.int .i64 o.kind, .int .i64 o.fro, .int .i64 o.to_, .string ⟨o.name.toArray⟩, .string ⟨o.text.toArray⟩, .slice A1 n c1, .int .i64 o.r] 30)).alloc (.cells #[.int .i64 o.kind, .int .i64 o.fro, .int .i64 o.to_, .string ⟨o.name.toArray⟩, .string ⟨o.text.toArray⟩, .slice A2 n c2, .int .i64 o.r] 30)).heap[w.heap.size]? = some (.cells #[.int .i64 o.kind, .int .i64 o.fro, .int .i64 o.to_, .string ⟨o.name.toArray⟩, .string ⟨o.text.toArray⟩, .slice A1 n c1, .int .i64 o.r] 30) := by
    rw [Below.heap_alloc _ _ _ (by simp)]; exact hp_new _ _
  have q2 : ((w.alloc (.cells #[.int .i64 o.kind, .int .i64 o.fro, .int .i64 o.to_, .string ⟨o.name.toArray⟩, .string ⟨o.text.toArray⟩, .slice A1 n c1, .int .i64 o.r] 30)).alloc (.cells #[.int .i64 o.kind, .int .i64 o.fro, .int .i64 o.to_, .string ⟨o.name.toArray⟩, .string ⟨o.text.toArray⟩, .slice A2 n c2, .int .i64 o.r] 30)).heap[w.heap.size + 1]? = some (.cells #[.int .i64 o.kind, .int .i64 o.fro, .int .i64 o.to_, .string ⟨o.name.toArray⟩, .string ⟨o.text.toArray⟩, .slice A2 n c2, .int .i64 o.r] 30) := by
    have := hp_new (w.alloc (.cells #[.int .i64 o.kind, .int .i64 o.fro, .int .i64 o.to_, .string ⟨o.name.toArray⟩, .string ⟨o.text.toArray⟩, .slice A1 n c1, .int .i64 o.r] 30)) (.cells #[.int .i64 o.kind, .int .i64 o.fro, .int .i64 o.to_, .string ⟨o.name.toArray⟩, .string ⟨o.text.toArray⟩, .slice A2 n c2, .int .i64 o.r] 30)
    rwa [World.size_alloc] at this
  have x0 := cell_of 0 q1
  have y0 := cell_of 0 q2
  have x1 := cell_of 1 q1
  have y1 := cell_of 1 q2
  have x2 := cell_of 2 q1
  have y2 := cell_of 2 q2
  have x3 := cell_of 3 q1
  have y3 := cell_of 3 q2
  have x4 := cell_of 4 q1
  have y4 := cell_of 4 q2
  have x5 := cell_of 5 q1
  have y5 := cell_of 5 q2
  have x6 := cell_of 6 q1
  have y6 := cell_of 6 q2
  clear hb q1 q2 h1 h2
  go_enter Tryz.func12, Tryz.ntmps12
  go_wp2_with fail
  refine CS.out.mono ?_
  rintro e w1 ⟨rfl, hb⟩
  have B := Lib.hid (HB.out.trans (hb.mono HB.out.size))
  clear hb
  go_wp2
  go_ret
  exact ⟨rfl, B.out⟩
end Go.Proofs.YtmclngahdklfkaaGreatDoor
/- narthexref11.Next, at an element. -/
namespace Go.Proofs.YtmclngahdklfkaaGreatDoor
open Go.ChangeShapes Go.WideShapes Go.ChangeAt Go.RowKit
set_option linter.unusedVariables false
end Go.Proofs.YtmclngahdklfkaaGreatDoor
/- narthexref11.Next, at any place. -/
namespace Go.Proofs.YtmclngahdklfkaaGreatDoor
open Go.ChangeShapes Go.WideShapes Go.ChangeAt Go.RowKit
set_option linter.unusedVariables false
end Go.Proofs.YtmclngahdklfkaaGreatDoor
/- narthexref11.All. -/
namespace Go.Proofs.YtmclngahdklfkaaGreatDoor
open Go.ChangeShapes Go.WideShapes Go.ChangeAt Go.RowKit
set_option linter.unusedVariables false
/-- What the reading of tokens leaves: the row, the place reached, the error. -/
def AllPost (o : List TokL × Nat × Nat) (w : World) (e : Ending) (w' : World) : Prop :=
  ∃ A n c vs, e = .returned (.tuple #[.slice A n c, .int .i64 (o.2.1 : Int), .int .i64 (o.2.2 : Int)]) ∧ vs.map TokV.t = o.1 ∧ TRd w' w'.heap.size A n c vs ∧ Below w.heap.size w w'
theorem AllPost.bad {t x : Nat} {w w' : World} {e : Ending} (he : e = .returned (.tuple #[.slice none 0 0, .int .i64 (t : Int), .int .i64 (x : Int)])) (hb : Below w.heap.size w w') : AllPost ([], t, x) w e w' :=
  ⟨none, 0, 0, [], he, rfl, TRd.nilR _ _, hb⟩
theorem AllPost.good {T : TypeId} {w w' : World} {e : Ending} {vs : List TokV} {base t : Nat} {v : Value} (hG : GrowT T w w' base v vs) (he : e = .returned (.tuple #[v, .int .i64 (t : Int), .int .i64 0])) : AllPost (vs.map TokV.t, t, 0) w e w' := by
  obtain ⟨A, c, rfl, hr⟩ := TRd.ofOwn hG.own hG.prs
  exact ⟨A, vs.length, c, vs, he, rfl, hr, hG.below⟩
theorem nextAt_in (l : List UInt8) (t : Nat) (h : t < l.length) : nextAt l t = nextOut l t := by
  unfold nextAt
  rw [if_neg (by omega), if_neg (by omega), Int.toNat_natCast]
theorem GrowT.fresh {T : TypeId} {w wr : World} {base : Nat} {v : Value} {vs : List TokV} (h : GrowT T w wr base v vs) {b : Nat} (hb : wr.heap.size ≤ b) : some b ≠ v.ownBlock := fun e => by
  have := (ownBlock_lt h.own e.symm).1
  omega
theorem info_tok : ∃ i, Tryz.prog.info? 26 = some i ∧ i.zero = some (.agg #[.int .i64 0, .int .i64 0, .int .i64 0, .string ⟨#[]⟩, .string ⟨#[]⟩, .slice none 0 0, .int .i64 0]) ∧ i.size = 7 ∧ i.bytes = 88 := by
  obtain ⟨i, h1, h2, h3, h4⟩ := info_parts (show (Tryz.prog.info? 26).map (fun i => (i.zero, i.size, i.bytes)) = some (some (.agg #[.int .i64 0, .int .i64 0, .int .i64 0, .string ⟨#[]⟩, .string ⟨#[]⟩, .slice none 0 0, .int .i64 0]), 7, 88) by kernel_rfl)
  exact ⟨i, h1, h2, h3, h4⟩
end Go.Proofs.YtmclngahdklfkaaGreatDoor
/- tok.All. -/
namespace Go.Proofs.YtmclngahdklfkaaGreatDoor
open Go.ChangeShapes Go.WideShapes Go.ChangeAt Go.RowKit
set_option linter.unusedVariables false
theorem cells_one (v : TokV) : ∀ u ∈ v.cells, u.oneCell' = true := by
  simp [TokV.cells, Value.oneCell']
/-- 'out = append(out, u)' as one step of a statement that draws its order; the element's cells lie in a block just made. -/
theorem stepAppT {P : Program} {ops : Array Oper} {o : Oper} {a : Act} {K : Act → World → Prop} {Q : Exit → Act → World → Prop} {E : Prop} {w : World} {us' : Array Value} (hgd : o.guard = none) (s x : Operand) (t e : TypeId)
    (ho : o.op = .call { callee := .builtin .append, args := #[s, x], argTypes := #[t, t] }) (z : Value) (k bytes : Nat) (ht : P.underlying t = some (.slice e))
    (hi : ∃ i, P.info? e = some i ∧ i.zero = some z ∧ i.size = k ∧ i.bytes = bytes) (hzs : z.cells.size = k) (hk : 0 < k)
    (base : Nat) (v : Value) (n : Nat) (xs : List Value) (hs : a.eval s = v) (W : World) (hw : w = W.alloc (.cells us' e)) (hown : W.ownsRow base e k v n xs) (us : List Value) (hus : us' = us.toArray) (H : Nat) (hH : W.heap.size = H) (hx : a.eval x = .slice (some ⟨H, 0, none⟩) 1 1)
    (hl : us.length = k) (h1 : ∀ u ∈ us, u.oneCell' = true) (hn : n ≤ 1000000000) (hby : bytes ≤ 1000) (hbase : base ≤ W.heap.size)
    (h : ∀ v' w', w'.ownsRow base e k v' (n + 1) (xs ++ us) → (W.alloc (.cells us' e)).grownBy w' v.ownBlock → (v'.ownBlock = v.ownBlock ∨ v'.ownBlock = some (H + 1)) → K (a.put o.dst v') w') :
    if Region.wanted o (yielded ops a.tmps) = true then Oper.wp P o a w K Q else E := by
  subst hH hus hw
  obtain ⟨i, hi, hz, hsz, hbt⟩ := hi
  refine step_append_lies (w := W.alloc (.cells us.toArray e)) hgd s x t ho base e i z k bytes ht hi hz hsz hbt hzs hk v n xs hs (hown.alloc _) ⟨W.heap.size, 0, none⟩ 1 1 us hx (by omega) (cell_newN W us e) h1 (by omega) (by unfold maxLen; omega) ?_ (by rw [World.size_alloc]; omega) (W.heap.size + 1) (by rw [World.size_alloc]) fun g cap w' hown' hgrow hat hlt => h _ w' hown' hgrow ?_
  · have : (n + 1) * bytes ≤ 1000000001 * 1000 := Nat.mul_le_mul (by omega) hby
    omega
  · rcases hat with hat | hat
    · exact .inl hat.symm
    · exact .inr (by rw [hat]; rfl)
set_option maxRecDepth 100000 in
set_option maxHeartbeats 8000000 in
theorem tokAll_c (A : Option Addr) (n cap : Nat) (l : List UInt8) (w : World) (h : Byt w w.heap.size A n cap l) (hW : W11 w) (hm : n ≤ 40000) :
    Calls Tryz.prog 14 #[.slice A n cap] w fun e w' => AllPost (allOut l) w e w' := by
  have hln := h.length
  have CN : Hid (∀ t : Nat, t < n → ∀ W v vs, GrowT 26 w W w.heap.size v vs → Calls Tryz.prog 10 #[.slice A n cap, .int .i64 (t : Int)] W fun e w' => TokPost (nextOut l t) W e w') := Lib.hid fun t ht W v vs hG => by
    have := tokNext_c A n cap l t W ((h.below hG.below).more hG.below.size) (hW.below hG.below) hm
    rwa [nextAt_in l t (by omega)] at this
  have HLn := Lib.hid hln
  have hi : (Tryz.prog.info? 26).map (·.size) = some 7 := by kernel_rfl
  obtain ⟨sd, hu⟩ := isStruct_of (P := Tryz.prog) (t := 26) (by kernel_rfl)
  have HU := Lib.hid (And.intro hi hu)
  have HM := Lib.hid hm
  clear h hln hi hu hW
  go_enter Tryz.func14, Tryz.ntmps14
  go_wp2_with fail
  go_loopg [5, 6] (n) (fun g v i wr => ∃ (t : Nat) (vs : List TokV) (f : Nat), i = .int .i64 (t : Int) ∧ t ≤ n ∧ Hid (g = f) ∧ Hid (n ≤ f + t) ∧ Hid (vs.length ≤ t) ∧ Hid (allOut l = allR l (f + 1) (vs.map TokV.t) t) ∧ Hid (GrowT 26 w wr w.heap.size v vs))
  case atStart => exact ⟨0, [], n, rfl, Nat.zero_le _, Lib.hid rfl, Lib.hid (by omega), Lib.hid (Nat.zero_le _), Lib.hid (by unfold allOut; rw [HLn.out]; rfl), Lib.hid (GrowT.start _ w)⟩
  case round =>
    obtain ⟨t, vs, f, rfl, ht, hgf, hg, hal, HE, HG⟩ := hrel
    have hm := HM.out
    have ht0 : (0 : Int) ≤ (t : Int) := by omega
    have ht9 : (t : Int) ≤ 40000 := by omega
    by_cases htn : t < n
    · have hti : (t : Int) < (n : Int) := by omega
      have htl : t < l.length := by rw [HLn.out]; exact htn
      have C1 := CN.out t htn _ _ _ HG.out
      have hok := nextOut_ok l t htl
      have hbad := fun e (h1 : (nextOut l t).2 = e) h2 => HE.out.trans (all_bad (f := f) (acc := vs.map TokV.t) htl h1 h2)
      have hmore := fun k u (h1 : nextOut l t = (k, 0)) (h2 : k.to_ = ((u : Nat) : Int)) => HE.out.trans (all_more (f := f) (acc := vs.map TokV.t) htl h1 h2)
      generalize nextOut l t = o at *
      obtain ⟨k, e⟩ := o
      simp only at hok hbad
      have C2 := Lib.hid C1
      clear C1
      by_cases he : e = 0
      · subst he
        obtain ⟨hfro, u, hu, htu, hun⟩ := hok rfl
        clear hfro
        rw [HLn.out] at hun
        have HA := Lib.hid (hmore k u rfl hu)
        have HUu := Lib.hid hu
        clear hok hbad hmore htl hu
        go_wp2_with fail
        refine C2.out.mono ?_
        intro e0 w2 hp
        obtain ⟨PA, pn, pc, rfl, hpr, hb, hlo⟩ := hp.out
        simp only at hpr
        have ka := (Below.refl _ w2).alloc (Nat.le_refl _) (.cells #[.int .i64 k.kind, .int .i64 k.fro, .int .i64 k.to_, .string ⟨k.name.toArray⟩, .string ⟨k.text.toArray⟩, .slice PA pn pc, .int .i64 k.r] 26)
        have G1 := Lib.hid (HG.out.kept hb)
        have G2 := Lib.hid (G1.out.kept ka)
        have HQ := Lib.hid (hp_new w2 (.cells #[.int .i64 k.kind, .int .i64 k.fro, .int .i64 k.to_, .string ⟨k.name.toArray⟩, .string ⟨k.text.toArray⟩, .slice PA pn pc, .int .i64 k.r] 26))
        have HX := Lib.hid (And.intro ((hpr.below ka).more ka.size) (fun (_ : 0 < pc) b i (hA : PA = some ⟨b, i, none⟩) => HG.out.fresh (hlo b i hA)))
        have z2 := cell_of 2 HQ.out
        have hvl : vs.length ≤ 1000000000 := by have := hal.out; omega
        have hba : w.heap.size ≤ (w2.alloc (.cells #[.int .i64 k.kind, .int .i64 k.fro, .int .i64 k.to_, .string ⟨k.name.toArray⟩, .string ⟨k.text.toArray⟩, .slice PA pn pc, .int .i64 k.r] 26)).heap.size := G2.out.base1
        clear hpr hb hlo ka hp
        go_wp2_with fail
        have HLD := Lib.hid (fun (W : World) (hW : W.heap[w2.heap.size]? = some (.cells #[.int .i64 k.kind, .int .i64 k.fro, .int .i64 k.to_, .string ⟨k.name.toArray⟩, .string ⟨k.text.toArray⟩, .slice PA pn pc, .int .i64 k.r] 26)) => run_loadVar_row (P := Tryz.prog) W w2.heap.size _ 26 _ _ _ hW HU.out.2 rfl HU.out.1)
        have G3 := Lib.hid (G2.out.kept (below_drewN' (n := 1) (Below.refl _ _)))
        have hsz3 : (w2.alloc (.cells #[.int .i64 k.kind, .int .i64 k.fro, .int .i64 k.to_, .string ⟨k.name.toArray⟩, .string ⟨k.text.toArray⟩, .slice PA pn pc, .int .i64 k.r] 26)).heap.size = w2.heap.size + 1 := by simp
        have HX3 := Lib.hid (And.intro (HX.out.1.drewN (k := 1)) HX.out.2)
        generalize hv3 : w2.alloc (.cells #[.int .i64 k.kind, .int .i64 k.fro, .int .i64 k.to_, .string ⟨k.name.toArray⟩, .string ⟨k.text.toArray⟩, .slice PA pn pc, .int .i64 k.r] 26) = v3 at *
        clear hv3
        have HQd : v3.drew.heap[w2.heap.size]? = some (.cells #[.int .i64 k.kind, .int .i64 k.fro, .int .i64 k.to_, .string ⟨k.name.toArray⟩, .string ⟨k.text.toArray⟩, .slice PA pn pc, .int .i64 k.r] 26) := HQ.out
        have x0 := cell_of 0 HQd
        have x1 := cell_of 1 HQd
        have x2 := cell_of 2 HQd
        have x3 := cell_of 3 HQd
        have x4 := cell_of 4 HQd
        have x5 := cell_of 5 HQd
        have x6 := cell_of 6 HQd
        go_region_law (refine stepAppT rfl (.tmp 23) (.tmp 25) 36 26 rfl (.agg #[.int .i64 0, .int .i64 0, .int .i64 0, .string ⟨#[]⟩, .string ⟨#[]⟩, .slice none 0 0, .int .i64 0]) 7 88 Tryz.underlying36 info_tok rfl (by decide) w.heap.size _ vs.length (cellsK vs) rfl v3.drew rfl G3.out.own (TokV.cells ⟨k, PA, pn, pc⟩) rfl (w2.heap.size + 1) (by show v3.heap.size = _; omega) rfl rfl (cells_one _) hvl (by decide) G3.out.base1 ?_; intro v4 w4 hown4 hg4 hat4; have G4 := Lib.hid (G3.out.appended (x := ⟨k, PA, pn, pc⟩) HX3.out.1 HX3.out.2 hown4 hg4 (by rw [show (v3.drewN 1).heap.size = w2.heap.size + 1 from hsz3]; exact hat4)); have z4 : w4.cell? ⟨w2.heap.size, 2, none⟩ = some (.int .i64 k.to_) := cell_of 2 ((hg4.block w2.heap.size (by rw [World.size_alloc]; show w2.heap.size < v3.heap.size + 1; omega) (G1.out.fresh (Nat.le_refl _))).trans ((Below.heap_alloc _ _ _ (by show w2.heap.size < v3.heap.size; omega)).trans HQ.out)); clear hown4 hg4 hat4)
        all_goals
          go_wp2
          go_roundg (f - 1)
          case measure => have := hg.out; have := hgf.out; omega
          case rel => exact ⟨u, vs ++ [⟨k, PA, pn, pc⟩], f - 1, by rw [HUu.out], by omega, Lib.hid rfl, Lib.hid (by have := hg.out; omega), Lib.hid (by have := hal.out; simp; omega), Lib.hid (by rw [HA.out, List.map_append, show f - 1 + 1 = f by have := hg.out; omega]; rfl), G4⟩
      · have HA := Lib.hid (hbad e rfl he)
        have hei : ((e : Int) == 0) = false := by simp; omega
        clear hok hbad hmore htl
        go_wp2_with fail
        refine C2.out.mono ?_
        intro e0 w2 hp
        obtain ⟨PA, pn, pc, rfl, hpr, hb, hlo⟩ := hp.out
        have B := Lib.hid ((HG.out.kept hb).below.alloc (HG.out.kept hb).below.size (.cells #[.int .i64 k.kind, .int .i64 k.fro, .int .i64 k.to_, .string ⟨k.name.toArray⟩, .string ⟨k.text.toArray⟩, .slice PA pn pc, .int .i64 k.r] 26))
        clear hpr hb hlo hp
        go_wp2
        go_ret3
        rw [HA.out]
        exact AllPost.bad rfl B.out
    · have hti : ¬ (t : Int) < (n : Int) := by omega
      have HA := Lib.hid (HE.out.trans (all_end (by rw [HLn.out]; exact htn)))
      obtain rfl : t = n := by omega
      go_wp2
      go_ret3
      rw [HA.out]
      exact AllPost.good HG.out rfl
end Go.Proofs.YtmclngahdklfkaaGreatDoor
/- The law TokNexts: the page's example, the walk. -/
namespace Go.Proofs.YtmclngahdklfkaaGreatDoor
open Go.ChangeShapes Go.WideShapes Go.ChangeAt Go.RowKit
set_option linter.unusedVariables false
set_option maxRecDepth 100000 in
set_option maxHeartbeats 8000000 in
theorem live11_c (w : World) (hW : W11 w) : Calls Tryz.prog 9 #[] w fun e w' => e = .returned (.bool true) ∧ Below w.heap.size w w' := by
  have C1 : Hid (Calls Tryz.prog 14 #[.slice (some ⟨w.heap.size, 0, none⟩) 8 8] (w.alloc (.cells #[.int .u8 97, .int .u8 38, .int .u8 98, .int .u8 59, .int .u8 60, .int .u8 99, .int .u8 47, .int .u8 62] 5 (8, 9))) fun e w' => ∃ b o c, e = .returned (.tuple #[.slice (some ⟨b, o, none⟩) 3 c, .int .i64 8, .int .i64 0]) ∧ w'.cell? ⟨b, o, none⟩ = some (.int .i64 1) ∧ w'.cell? ⟨b, o + 10, none⟩ = some (.string ⟨#[98]⟩) ∧ w'.cell? ⟨b, o + 14, none⟩ = some (.int .i64 8) ∧ Hid (Below w.heap.size w w')) := Lib.hid (by
    have k1 := alloc_const w [97, 38, 98, 59, 60, 99, 47, 62] (8, 9) (by decide)
    have := tokAll_c _ _ _ _ _ (k1.2.more (by simp)) (hW.below k1.1) (by decide)
    rw [show allOut [97, 38, 98, 59, 60, 99, 47, 62] = ([⟨1, 0, 1, [], [97], [], 0⟩, ⟨3, 1, 4, [98], [], [], 0⟩, ⟨8, 4, 8, [99], [], [], 0⟩], 8, 0) by kernel_rfl] at this
    refine this.mono fun e w' ⟨A, n, c, vs, he, hv, hr, hb⟩ => ?_
    have hn : n = 3 := by
      have := congrArg List.length hv
      rw [List.length_map, hr.len] at this
      exact this
    subst hn
    obtain ⟨b, o, v0, rfl, _, h0, c0, _⟩ := hr.cell (i := 0) (by decide)
    obtain ⟨b1, o1, v1, e1, _, h1, c1, _⟩ := hr.cell (i := 1) (by decide)
    obtain ⟨b2, o2, v2, e2, _, h2, c2, _⟩ := hr.cell (i := 2) (by decide)
    cases e1
    cases e2
    have hm : ∀ (i : Nat) (v : TokV), vs[i]? = some v → (vs.map TokV.t)[i]? = some v.t := fun i v h => by rw [List.getElem?_map, h]; rfl
    have t0 := hm 0 _ h0
    have t1 := hm 1 _ h1
    have t2 := hm 2 _ h2
    rw [hv] at t0 t1 t2
    simp at t0 t1 t2
    refine ⟨b, o, c, he, ?_, ?_, ?_, Lib.hid (k1.1.trans (hb.mono k1.1.size))⟩
    · have := c0 0 (.int .i64 v0.t.kind) rfl
      rw [← t0] at this
      exact this
    · have := c1 3 (.string ⟨v1.t.name.toArray⟩) rfl
      rw [← t1] at this
      exact this
    · have := c2 0 (.int .i64 v2.t.kind) rfl
      rw [← t2] at this
      exact this)
  have kc := fun (C : Array Value) (n c : Nat) => Lib.run_convert_bytes_const (P := Tryz.prog) w 22 5 C n c Tryz.underlying22 Tryz.underlying5
  clear hW
  go_enter Tryz.func9, Tryz.ntmps9
  go_wp2_with fail
  refine C1.out.mono ?_
  rintro e w1 ⟨b, o, c, rfl, z0, z1, z2, B⟩
  clear kc
  go_wp2
  go_ret
  exact ⟨rfl, B.out⟩
end Go.Proofs.YtmclngahdklfkaaGreatDoor
/- What a row's list of variables gives. -/
namespace Go.Proofs.YtmclngahdklfkaaGreatDoor
open Go.ChangeShapes Go.WideShapes Go.ChangeAt Go.RowKit
set_option linter.unusedVariables false
/-- The cells that a datum of numbers, strings, arrays and structs takes, by its type: none where the lay-out has a gap. -/
def flatL (P : Program) (fl : TypeId → DataW Unit → Option (List Value)) : Nat → List (TypeId × Nat) → List (DataW Unit) → Option (List Value)
  | _, [], [] => some []
  | off, (t, o) :: ts, d :: ds => if o = off then (fl t d).bind fun v => if v.length = P.cellsOf t then (flatL P fl (off + P.cellsOf t) ts ds).map (v ++ ·) else none else none
  | _, _, _ => none
def flatD (P : Program) : Nat → TypeId → DataW Unit → Option (List Value)
  | 0, _, _ => none
  | f + 1, t, d => match P.underlying t, d with
    | some (.int k), .lit (.int k' n) => if k' = k then some [.int k n] else none
    | some .string, .lit (.string l) => some [.string ⟨l.toArray⟩]
    | some (.struct fs), .agg ds => (flatL P (flatD P f) 0 (fs.toList.map fun f => (f.type, f.offset)) ds).bind fun v => if v.length = P.cellsOf t then some v else none
    | some (.array n e), .agg ds => (flatL P (flatD P f) 0 ((List.range n).map fun i => (e, i * P.cellsOf e)) ds).bind fun v => if v.length = P.cellsOf t then some v else none
    | _, _ => none
theorem mapM_map {α β γ : Type} (g : α → β) (f : β → Option γ) : ∀ l : List α, (l.map g).mapM f = l.mapM fun a => f (g a)
  | [] => rfl
  | a :: l => by simp [List.mapM_cons, mapM_map g f l]
theorem mapM_cons_some {α β : Type} {f : α → Option β} {a : α} {l : List α} {ys : List β} (h : (a :: l).mapM f = some ys) : ∃ y ys', f a = some y ∧ l.mapM f = some ys' ∧ ys = y :: ys' := by
  rw [List.mapM_cons] at h
  obtain ⟨y, hy, h⟩ := Option.bind_eq_some_iff.1 h
  obtain ⟨ys', hys, h⟩ := Option.bind_eq_some_iff.1 h
  exact ⟨y, ys', hy, hys, (Option.some.inj h).symm⟩
theorem flatL_mapM {P : Program} {w : World} {base : Nat} {sp : Nat → Bool} {held : Bool} {enc : TypeId × Value → Unit} {fuel f : Nat} {cs : List Value}
    (ih : ∀ t cs d p vs, DataW.trod enc P w base sp held fuel t cs = some (d, p) → flatD P f t d = some vs → cs = vs) :
    ∀ (ts : List (TypeId × Nat)) (xs : List (DataW Unit × List MemPlace)) (off : Nat) (vs : List Value),
      (ts.mapM fun x => DataW.trod enc P w base sp held fuel x.1 ((cs.drop x.2).take (P.cellsOf x.1))) = some xs → flatL P (flatD P f) off ts (xs.map (·.1)) = some vs → (cs.drop off).take vs.length = vs
  | [], xs, off, vs, hm, hf => by
    have : xs = [] := by simpa using hm.symm
    subst this
    simp [flatL] at hf
    subst hf
    simp
  | (t, o) :: ts, xs, off, vs, hm, hf => by
    obtain ⟨⟨d, p⟩, xs', hx, hm', rfl⟩ := mapM_cons_some hm
    simp only [List.map_cons, flatL] at hf
    split at hf
    · rename_i ho
      subst ho
      obtain ⟨v, hv, hf⟩ := Option.bind_eq_some_iff.1 hf
      split at hf
      · rename_i hl
        obtain ⟨vs', hvs, rfl⟩ := Option.map_eq_some_iff.1 hf
        have h1 := ih t _ d p v hx hv
        have h2 := flatL_mapM ih ts xs' _ vs' hm' hvs
        simp only at h1
        rw [List.length_append, List.take_add, hl, h1, List.drop_drop, h2]
      · cases hf
    · cases hf
theorem flat_trod {P : Program} {w : World} {base : Nat} {sp : Nat → Bool} {held : Bool} {enc : TypeId × Value → Unit} : ∀ (fuel f : Nat) (t : TypeId) (cs : List Value) (d : DataW Unit) (p : List MemPlace) (vs : List Value),
    DataW.trod enc P w base sp held fuel t cs = some (d, p) → flatD P f t d = some vs → cs = vs := by
  intro fuel
  induction fuel with
  | zero => intro f t cs d p vs h; simp [DataW.trod] at h
  | succ fuel ih =>
    intro f t cs d p vs h hf
    cases f with
    | zero => simp [flatD] at hf
    | succ f =>
      unfold flatD at hf
      split at hf
      · rename_i k k' n hu
        split at hf
        · rename_i hk
          subst hk
          obtain ⟨m, hc, he, _⟩ := DataW.trod_int hu h
          cases he
          rw [hc]
          exact Option.some.inj hf
        · cases hf
      · rename_i l hu
        obtain ⟨m, hc, he, _⟩ := DataW.trod_string hu h
        cases he
        rw [hc]
        exact Option.some.inj hf
      · rename_i fs ds hu
        simp only [DataW.trod, hu] at h
        split at h
        · rename_i hl
          obtain ⟨xs, hm, hx⟩ := Option.map_eq_some_iff.1 h
          simp only [Prod.mk.injEq, DataW.agg.injEq] at hx
          obtain ⟨rfl, _⟩ := hx
          obtain ⟨v, hv, hf⟩ := Option.bind_eq_some_iff.1 hf
          split at hf
          · rename_i hvl
            have h2 := flatL_mapM (cs := cs) (fun t cs d p vs => ih f t cs d p vs) (fs.toList.map fun f => (f.type, f.offset)) xs 0 v (by rw [mapM_map]; exact hm) hv
            rw [List.drop_zero, hvl, ← hl, List.take_length] at h2
            rw [h2]
            exact Option.some.inj hf
          · cases hf
        · cases h
      · rename_i n e ds hu
        simp only [DataW.trod, hu] at h
        split at h
        · rename_i hl
          obtain ⟨xs, hm, hx⟩ := Option.map_eq_some_iff.1 h
          simp only [Prod.mk.injEq, DataW.agg.injEq] at hx
          obtain ⟨rfl, _⟩ := hx
          obtain ⟨v, hv, hf⟩ := Option.bind_eq_some_iff.1 hf
          split at hf
          · rename_i hvl
            have h2 := flatL_mapM (cs := cs) (fun t cs d p vs => ih f t cs d p vs) ((List.range n).map fun i => (e, i * P.cellsOf e)) xs 0 v (by rw [mapM_map]; exact hm) hv
            rw [List.drop_zero, hvl, ← hl, List.take_length] at h2
            rw [h2]
            exact Option.some.inj hf
          · cases hf
        · cases h
      · cases hf
/-- A variable that is listed holds the cells of its datum. -/
theorem laid_cells {P : Program} {w : World} : ∀ (laid : List (String × DataW Unit)) (ps : List MemPlace), DataW.LaidVars P w laid ps → ∀ (name : String) (d : DataW Unit), (name, d) ∈ laid →
    ∀ (g t f : Nat) (vs : List Value), P.globalNamed name = some g → (P.globals[g]?).map (·.type) = some t → flatD P f t d = some vs → w.var? P name = some vs.toArray
  | [], _, _, _, _, hm, _, _, _, _, _, _, _ => by cases hm
  | (n, d0) :: r, ps, h, name, d, hm, g, t, f, vs, hg, ht, hf => by
    obtain ⟨g', t', cs, fuel, p, q, hg', ht', hv, htr, hr, _⟩ := h
    rcases List.mem_cons.1 hm with e | hm
    · cases e
      obtain rfl := Option.some.inj (hg.symm.trans hg')
      obtain rfl := Option.some.inj (ht.symm.trans ht')
      rw [hv, ← flat_trod fuel f t cs.toList _ p vs htr hf]
    · exact laid_cells r q hr name d hm g t f vs hg ht hf
theorem block_of_var {P : Program} {w : World} {name : String} {g : Nat} {cs : Array Value} (hg : P.globalNamed name = some g) (h : w.var? P name = some cs) : ∃ T f, w.heap[g]? = some (.cells cs T f) := by
  simp only [World.var?, hg, Option.bind_some] at h
  split at h
  · rename_i cs' T f hb
    cases h
    exact ⟨T, f, hb⟩
  · cases h
theorem laid_var {P : Program} {w : World} {laid : List (String × DataW Unit)} (h : laidMet P laid w) (name : String) (d : DataW Unit) (hm : (name, d) ∈ laid) (g f : Nat) (vs : List Value)
    (hg : P.globalNamed name = some g) (hf : (((P.globals[g]?).map (·.type)).bind fun t => flatD P f t d) = some vs) : w.var? P name = some vs.toArray := by
  obtain ⟨ps, hl, _⟩ := h
  obtain ⟨t, ht, hf⟩ := Option.bind_eq_some_iff.1 hf
  exact laid_cells laid ps hl name d hm g t f vs hg ht hf
theorem laid_block {P : Program} {w : World} {laid : List (String × DataW Unit)} (h : laidMet P laid w) (name : String) (d : DataW Unit) (hm : (name, d) ∈ laid) (g f : Nat) (vs : List Value)
    (hg : P.globalNamed name = some g) (hf : (((P.globals[g]?).map (·.type)).bind fun t => flatD P f t d) = some vs) : ∃ T fr, w.heap[g]? = some (.cells vs.toArray T fr) :=
  block_of_var hg (laid_var h name d hm g f vs hg hf)
/-- A table of runs, out of a block. -/
theorem tab_of {w : World} {g : Nat} {T : TypeId} {fr : Nat × Nat} (t : List (Nat × Nat)) (h : w.heap[g]? = some (.cells (t.flatMap fun p => [Value.int .i64 p.1, Value.int .i64 p.2]).toArray T fr)) : Tab w g t := by
  intro i p hp
  have key : ∀ (t : List (Nat × Nat)) (i : Nat) (p : Nat × Nat), t[i]? = some p → (t.flatMap fun p => [Value.int .i64 p.1, Value.int .i64 p.2])[i * 2]? = some (.int .i64 p.1) ∧ (t.flatMap fun p => [Value.int .i64 p.1, Value.int .i64 p.2])[i * 2 + 1]? = some (.int .i64 p.2) := by
    intro t
    induction t with
    | nil => intro i p h; simp at h
    | cons x t ih =>
      intro i p h
      cases i with
      | zero => simp at h; subst h; exact ⟨rfl, rfl⟩
      | succ i =>
        have := ih i p (by simpa using h)
        rw [show (i + 1) * 2 = i * 2 + 2 by omega]
        simpa [List.flatMap_cons] using this
  have := key t i p hp
  rw [cell_of _ h, cell_of _ h, List.getElem?_toArray, List.getElem?_toArray]
  exact this
/-- The cells of a datum, whatever its type. -/
def flatV : Nat → DataW Unit → List Value
  | f + 1, .lit (.int k n) => [.int k n]
  | f + 1, .lit (.string l) => [.string ⟨l.toArray⟩]
  | f + 1, .agg ds => ds.flatMap (flatV f)
  | _, _ => []
def layObj (vs : Array Value) : Obj → Obj
  | .cells _ t frozen => .cells vs t frozen
  | o => o
def layHeap (l : List (Nat × DataW Unit)) (h : Array Obj) : Array Obj := l.foldl (fun h x => h.modify x.1 (layObj (flatV 8 x.2).toArray)) h
end Go.Proofs.YtmclngahdklfkaaGreatDoor
/- A witness with slices, unicode.CaseRanges among them. -/
namespace Go.Proofs.YtmclngahdklfkaaGreatDoor
open Go.ChangeShapes Go.WideShapes Go.ChangeAt Go.RowKit
set_option linter.unusedVariables false
theorem LaidVars_split {P : Program} {w : World} : ∀ {l l' : List (String × DataW Unit)} {ps : List MemPlace}, DataW.LaidVars P w (l ++ l') ps → ∃ p p', DataW.LaidVars P w l p ∧ DataW.LaidVars P w l' p' ∧ ps = p ++ p'
  | [], l', ps, h => ⟨[], ps, rfl, h, rfl⟩
  | (n, d) :: r, l', ps, h => by
    obtain ⟨g, t, cs, fuel, p, q, h1, h2, h3, h4, h5, rfl⟩ := h
    obtain ⟨p1, p2, g1, g2, rfl⟩ := LaidVars_split h5
    exact ⟨_, p2, ⟨g, t, cs, fuel, p, p1, h1, h2, h3, h4, g1, rfl⟩, g2, by simp [List.append_assoc]⟩
/-- The last of the listed may stand anywhere. -/
theorem laidMet_move {P : Program} {w : World} {a b : List (String × DataW Unit)} {x : String × DataW Unit} (h : laidMet P (a ++ b ++ [x]) w) : laidMet P (a ++ x :: b) w := by
  obtain ⟨ps, hv, hn, hr⟩ := h
  obtain ⟨p1, px, h1, hx, rfl⟩ := LaidVars_split hv
  obtain ⟨pa, pb, ha, hb, rfl⟩ := LaidVars_split h1
  have hperm : (pa ++ pb ++ px).Perm (pa ++ (px ++ pb)) := by
    rw [List.append_assoc]
    exact List.Perm.append_left _ List.perm_append_comm
  refine ⟨pa ++ (px ++ pb), ?_, hperm.nodup_iff.1 hn, fun bb off hm => hr bb off (hperm.mem_iff.2 hm)⟩
  exact Go.Proofs.LaidVars_append ha (Go.Proofs.LaidVars_append (l := [x]) hx hb)
def putRows (N : Nat) : Nat → List (Nat × TypeId × Array Value × Nat) → Array Obj → Array Obj
  | _, [], h => h
  | i, (g, _, _, n) :: r, h => putRows N (i + 1) r (h.modify g (layObj #[.slice (some ⟨N + i, 0, none⟩) n n]))
/-- A world for a witness: the settled one, with a block more for each listed slice, the listed variables' blocks holding what is listed. -/
noncomputable def laidWorldC (l : List (Nat × DataW Unit)) (sl : List (Nat × TypeId × Array Value × Nat)) (os : Os) : World :=
  { World.holding Tryz.prog os ⟨(sl.map fun x => Obj.cells x.2.2.1 x.2.1).toArray, #[], []⟩ with heap := putRows (World.settled Tryz.prog os).heap.size 0 sl (layHeap l (World.holding Tryz.prog os ⟨(sl.map fun x => Obj.cells x.2.2.1 x.2.1).toArray, #[], []⟩).heap) }
theorem case_same : Go.Pinned.caseRanges = Lib.caseData := by kernel_rfl
theorem laidMet_case {w : World} {a b : List (String × DataW Unit)} (fuel : Nat)
    (h : (DataW.laidRun Tryz.prog w fuel ((a ++ b).map (·.1))).map (·.1) = some (a ++ b))
    (hn : (DataW.laidRun Tryz.prog w fuel ((a ++ b).map (·.1))).map (fun x => nodupB (x.2.map MemPlace.codeOf)) = some true)
    (hr : (DataW.laidRun Tryz.prog w fuel ((a ++ b).map (·.1))).map (fun x => laidRowsB Tryz.prog w x.2) = some true)
    (R : Nat) (hgR : 7 ≠ R)
    (hoff : (DataW.laidRun Tryz.prog w fuel ((a ++ b).map (·.1))).map (fun x => x.2.all fun p => p.block != 7 && p.block != R) = some true)
    (hvar : w.heap[7]? = some (.cells #[.slice (some ⟨R, 0, none⟩) 336 336] 200 (0, 0)))
    (hblk : w.heap[R]? = some (.cells Lib.caseCells5 213 (0, 0))) :
    laidMet Tryz.prog (a ++ ("unicode.CaseRanges", Go.Pinned.caseRanges) :: b) w := by
  rw [case_same]
  exact laidMet_move (laidMet_with_case (ρ := ⟨Tryz.lays274_ren.f, Tryz.lays274_ren.t, fun _ => 7⟩) { Tryz.lays274 with } (by kernel_rfl) ⟨by kernel_rfl, by kernel_rfl, by kernel_rfl, by kernel_rfl, by kernel_rfl, by kernel_rfl⟩ fuel h hn hr R _ hgR hoff (by rw [show Lib.caseA.size = 336 by kernel_rfl]; exact hvar) hblk)
end Go.Proofs.YtmclngahdklfkaaGreatDoor
/- Readings of rows of attributes. -/
namespace Go.Proofs.YtmclngahdklfkaaGreatDoor
open Go.ChangeShapes Go.WideShapes Go.ChangeAt Go.RowKit
set_option linter.unusedVariables false
open Go.Deep in
/-- A reading of a row of attributes is a row that can be read. -/
theorem prd_of_trod {H : Type} {enc : TypeId × Value → H} {W : World} {n : Nat} {v : Value} {x : DataW H × List MemPlace} (h : DataW.trod enc Tryz.prog W 0 (fun _ => true) true n 24 [v] = some x) :
    ∃ A len cap ps, v = .slice A len cap ∧ PRd W W.heap.size A len cap ps ∧ ∀ p ∈ ps, p.1.length ≤ maxLen ∧ p.2.length ≤ maxLen := by
  rcases open_slice_pairs Tryz.underlying24 Tryz.underlying81 (by kernel_rfl) rfl rfl (by kernel_rfl) (by kernel_rfl) h with ⟨hc, _⟩ | ⟨a, len, cap, m, k, V0, V1, D0, D1, P0, P1, hc, hb, hl, hm, hmm, hx, hi⟩
  · simp at hc
    subst hc
    exact ⟨none, 0, 0, [], rfl, PRd.nilR W _, fun p hp => by cases hp⟩
  · simp at hc
    subst hc
    have hmc : m = cap := by simpa using hmm
    subst hmc
    have key : ∀ i, i < m → ∃ p : PairL, W.cell? (a.add (i * 2)) = some (.string ⟨p.1.toArray⟩) ∧ W.cell? (a.add (i * 2 + 1)) = some (.string ⟨p.2.toArray⟩) ∧ p.1.length ≤ maxLen ∧ p.2.length ≤ maxLen := by
      intro i hi'
      obtain ⟨c0, c1, t0, t1⟩ := hi i hi'
      obtain ⟨s0, e0, _, z0⟩ := DataW.trod_string Tryz.underlying9 t0
      obtain ⟨s1, e1, _, z1⟩ := DataW.trod_string Tryz.underlying9 t1
      simp at e0 e1
      refine ⟨(s0.data.toList, s1.data.toList), by rw [c0, e0], by rw [c1, e1], by rw [Array.length_toList]; exact z0, by rw [Array.length_toList]; exact z1⟩
    obtain ⟨f, hf⟩ := choose_lt key
    refine ⟨some a, len, m, (List.range len).map f, rfl, ⟨by simp, hl, hm, (fun e => by cases e), fun h0 => ?_⟩, ?_⟩
    · obtain ⟨b, o, s⟩ := a
      have h1 := (hf 0 h0).1
      have hs : s = none := by simpa [Addr.add] using World.cell?_spot h1
      subst hs
      refine ⟨b, o, rfl, by simpa [Addr.add] using World.block_lt_of_cell? W _ h1, fun i p hp => ?_⟩
      rw [List.getElem?_map] at hp
      have hil : i < len := by
        rcases Nat.lt_or_ge i len with h' | h'
        · exact h'
        · rw [List.getElem?_eq_none (by simp; omega)] at hp; cases hp
      rw [List.getElem?_range hil] at hp
      simp at hp
      subst hp
      have h2 := hf i (by omega)
      rw [addr_add, addr_add] at h2
      exact ⟨h2.1, h2.2.1⟩
    · intro p hp
      obtain ⟨i, hi', rfl⟩ := List.mem_map.1 hp
      have := hf i (by have := List.mem_range.1 hi'; omega)
      exact this.2.2
end Go.Proofs.YtmclngahdklfkaaGreatDoor
/- A struct of seven one-cell fields, opened. -/
namespace Go.Proofs.YtmclngahdklfkaaGreatDoor
open Go.ChangeShapes Go.WideShapes Go.ChangeAt Go.RowKit
set_option linter.unusedVariables false
open Go.Joins Go.Deep Go.WideElems Go.Maps in
theorem array7 {α : Type} {a : Array α} (h : a.size = 7) : ∃ x0 x1 x2 x3 x4 x5 x6, a = #[x0, x1, x2, x3, x4, x5, x6] := by
  obtain ⟨l⟩ := a
  match l, h with
  | [x0, x1, x2, x3, x4, x5, x6], _ => exact ⟨x0, x1, x2, x3, x4, x5, x6, rfl⟩
open Go.Joins Go.Deep Go.WideElems Go.Maps in
/-- A struct of seven one-cell fields, by value, opened (as the library's of four). -/
theorem agg7_open {H : Type} {enc : TypeId × Value → H} {P : Program} {w : World} {base : Nat} {spare : Nat → Bool} {held : Bool} {r : Reach} {b0 : Nat} {t : TypeId} {f0 f1 f2 f3 f4 f5 f6 : Field} {v : Value} {d : DataW H} {p : List MemPlace} (hs : P.underlying t = some (.struct #[f0, f1, f2, f3, f4, f5, f6])) (hone : oneCellFields P #[f0, f1, f2, f3, f4, f5, f6] = true) (hC : P.cellsOf t = 7)
    (hv : Value.okWide P w r b0 t v) (h : DataW.Trod enc P w base spare held t v d p) :
    ∃ (v0 v1 v2 v3 v4 v5 v6 : Value) (y0 y1 y2 y3 y4 y5 y6 : DataW H × List MemPlace) (n : Nat), v = .agg #[v0, v1, v2, v3, v4, v5, v6] ∧ d = .agg [y0.1, y1.1, y2.1, y3.1, y4.1, y5.1, y6.1] ∧ p = y0.2 ++ (y1.2 ++ (y2.2 ++ (y3.2 ++ (y4.2 ++ (y5.2 ++ y6.2))))) ∧
      DataW.trod enc P w base spare held n f0.type [v0] = some y0 ∧ DataW.trod enc P w base spare held n f1.type [v1] = some y1 ∧ DataW.trod enc P w base spare held n f2.type [v2] = some y2 ∧ DataW.trod enc P w base spare held n f3.type [v3] = some y3 ∧ DataW.trod enc P w base spare held n f4.type [v4] = some y4 ∧ DataW.trod enc P w base spare held n f5.type [v5] = some y5 ∧ DataW.trod enc P w base spare held n f6.type [v6] = some y6 := by
  obtain ⟨cs, rfl, hsz⟩ := okWide_struct hs hv
  obtain ⟨c0, c1, c2, c3, c4, c5, c6, rfl⟩ := array7 (hsz.trans hC)
  obtain ⟨fuel, hf⟩ := h
  obtain ⟨xs, n, _, hx, hl, hlen, hF⟩ := DataW.trod_struct hs hf
  match xs, hlen with
  | [y0, y1, y2, y3, y4, y5, y6], _ =>
    obtain ⟨o0, k0⟩ := hone_of hone 0 f0 rfl
    obtain ⟨o1, k1⟩ := hone_of hone 1 f1 rfl
    obtain ⟨o2, k2⟩ := hone_of hone 2 f2 rfl
    obtain ⟨o3, k3⟩ := hone_of hone 3 f3 rfl
    obtain ⟨o4, k4⟩ := hone_of hone 4 f4 rfl
    obtain ⟨o5, k5⟩ := hone_of hone 5 f5 rfl
    obtain ⟨o6, k6⟩ := hone_of hone 6 f6 rfl
    have g0 := hF 0 f0 rfl
    have g1 := hF 1 f1 rfl
    have g2 := hF 2 f2 rfl
    have g3 := hF 3 f3 rfl
    have g4 := hF 4 f4 rfl
    have g5 := hF 5 f5 rfl
    have g6 := hF 6 f6 rfl
    simp only [Prod.mk.injEq] at hx
    exact ⟨c0, c1, c2, c3, c4, c5, c6, y0, y1, y2, y3, y4, y5, y6, n, rfl, by simpa using hx.1, by simpa using hx.2, by simpa [Value.cells, o0, k0] using g0, by simpa [Value.cells, o1, k1] using g1, by simpa [Value.cells, o2, k2] using g2, by simpa [Value.cells, o3, k3] using g3, by simpa [Value.cells, o4, k4] using g4, by simpa [Value.cells, o5, k5] using g5, by simpa [Value.cells, o6, k6] using g6⟩
end Go.Proofs.YtmclngahdklfkaaGreatDoor
