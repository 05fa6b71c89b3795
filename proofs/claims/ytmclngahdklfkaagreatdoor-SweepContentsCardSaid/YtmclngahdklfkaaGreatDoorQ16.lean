/- Texts of ours, joined: Tok2b, Tok3, Tok6b, Tok7, Tok8, Tok9, Tok10, Tok10b, TokQ, SwP, Sw1, Sw2. -/
import Derived.Test.YtmclngahdklfkaaGreatDoorRows
import Derived.WalkKit
import Derived.ProofKit
import Derived.OpenShut
import Derived.ShutString
import Derived.ChangeOld
import Derived.Below
import Derived.BigQuiet
import Derived.Deep.QuietTactic
import Derived.Lib.Hide
import Derived.Deep.RegionHeld3
import Derived.Lib.SlBytesConst
import Derived.Laws.CopyOwn
import Derived.Laws.CopyRow
import Derived.Lib.Bytes
import Derived.Deep.LoopGhost
import Derived.Deep.DeepFit
import Derived.Deep.DeepMust
import Derived.WalkSpells
import Derived.WalkLawsBesides
import Derived.Maps.OwnOps
import Derived.Maps.OwnSet
import Derived.Maps.Views
import Derived.Laws.EntriesVeiled
import Derived.Laws.Rows
import Derived.Maps.AppendAt
import Derived.Lib.SmallJoins
import Derived.Test.YtmclngahdklfkaaGreatDoorQ1
import Derived.Test.YtmclngahdklfkaaGreatDoorQ7
import Derived.Test.YtmclngahdklfkaaGreatDoorQ3
import Derived.Test.YtmclngahdklfkaaGreatDoorQ2
import Derived.Test.YtmclngahdklfkaaGreatDoorQ5
import Derived.Test.YtmclngahdklfkaaGreatDoorQ6
import Derived.Test.YtmclngahdklfkaaGreatDoorQ8
import Derived.Test.YtmclngahdklfkaaGreatDoorQ9
import Derived.Test.YtmclngahdklfkaaGreatDoorQ10
import Derived.Test.YtmclngahdklfkaaGreatDoorQ11
import Derived.Test.YtmclngahdklfkaaGreatDoorQ12
import Derived.Test.YtmclngahdklfkaaGreatDoorQ13
import Derived.Test.YtmclngahdklfkaaGreatDoorQ15
import Derived.Deep.AppendLies
import Derived.Deep.RegionLaw
import Derived.Test.YtmclngahdklfkaaGreatDoorQ14
import Derived.Deep.RegionWith
/- tok.read, arm by arm: the rest. -/
namespace Go.Proofs.YtmclngahdklfkaaGreatDoor
open Go.ChangeShapes Go.WideShapes Go.ChangeAt Go.RowKit
set_option linter.unusedVariables false
set_option maxRecDepth 100000 in
set_option maxHeartbeats 8000000 in
theorem tokRead_open (A : Option Addr) (n cap : Nat) (l : List UInt8) (k : Nat) (w : World) (h : Byt w w.heap.size A n cap l) (hW : W11 w) (hm : n ≤ 40000) (hk : k ≤ n) (h0 : [60, 33, 45, 45].isPrefixOf (l.drop k) = false) (h1 : [60, 33, 91, 67, 68, 65, 84, 65, 91].isPrefixOf (l.drop k) = false) (h2 : [60, 63].isPrefixOf (l.drop k) = false) (h3 : [60, 47].isPrefixOf (l.drop k) = false) (h4 : [60].isPrefixOf (l.drop k) = true) :
    Calls Tryz.prog 29 #[.slice A n cap, .int .i64 (k : Int)] w fun e w' => TokPost (readTok l k) w e w' := by
  have hln := h.length
  have HK : Hid (∀ W rs, RJ A n cap k w W rs → Byt W W.heap.size A n cap l ∧ W11 W) := Lib.hid fun W rs hJ => ⟨(h.below hJ.below).more hJ.below.size, hW.below hJ.below⟩
  have S0 : Hid (∀ W rs, RJ A n cap k w W rs → Calls Tryz.prog 59 #[.string ⟨#[60, 33, 45, 45]⟩, .pointer (some ⟨w.heap.size, 0, none⟩), .pointer (some ⟨w.heap.size + 1, 0, none⟩)] W fun e w' => e = .returned (.bool false) ∧ Below W.heap.size W w') := Lib.hid fun W rs hJ => by
    have := stands1_c A n cap l k w.heap.size (w.heap.size + 1) [60, 33, 45, 45] W (HK.out W rs hJ).1 hk (by decide) (cell_of 0 hJ.bs) (cell_of 0 hJ.at_)
    rwa [h0] at this
  have S1 : Hid (∀ W rs, RJ A n cap k w W rs → Calls Tryz.prog 59 #[.string ⟨#[60, 33, 91, 67, 68, 65, 84, 65, 91]⟩, .pointer (some ⟨w.heap.size, 0, none⟩), .pointer (some ⟨w.heap.size + 1, 0, none⟩)] W fun e w' => e = .returned (.bool false) ∧ Below W.heap.size W w') := Lib.hid fun W rs hJ => by
    have := stands1_c A n cap l k w.heap.size (w.heap.size + 1) [60, 33, 91, 67, 68, 65, 84, 65, 91] W (HK.out W rs hJ).1 hk (by decide) (cell_of 0 hJ.bs) (cell_of 0 hJ.at_)
    rwa [h1] at this
  have S2 : Hid (∀ W rs, RJ A n cap k w W rs → Calls Tryz.prog 59 #[.string ⟨#[60, 63]⟩, .pointer (some ⟨w.heap.size, 0, none⟩), .pointer (some ⟨w.heap.size + 1, 0, none⟩)] W fun e w' => e = .returned (.bool false) ∧ Below W.heap.size W w') := Lib.hid fun W rs hJ => by
    have := stands1_c A n cap l k w.heap.size (w.heap.size + 1) [60, 63] W (HK.out W rs hJ).1 hk (by decide) (cell_of 0 hJ.bs) (cell_of 0 hJ.at_)
    rwa [h2] at this
  have S3 : Hid (∀ W rs, RJ A n cap k w W rs → Calls Tryz.prog 59 #[.string ⟨#[60, 47]⟩, .pointer (some ⟨w.heap.size, 0, none⟩), .pointer (some ⟨w.heap.size + 1, 0, none⟩)] W fun e w' => e = .returned (.bool false) ∧ Below W.heap.size W w') := Lib.hid fun W rs hJ => by
    have := stands1_c A n cap l k w.heap.size (w.heap.size + 1) [60, 47] W (HK.out W rs hJ).1 hk (by decide) (cell_of 0 hJ.bs) (cell_of 0 hJ.at_)
    rwa [h3] at this
  have S4 : Hid (∀ W rs, RJ A n cap k w W rs → Calls Tryz.prog 59 #[.string ⟨#[60]⟩, .pointer (some ⟨w.heap.size, 0, none⟩), .pointer (some ⟨w.heap.size + 1, 0, none⟩)] W fun e w' => e = .returned (.bool true) ∧ Below W.heap.size W w') := Lib.hid fun W rs hJ => by
    have := stands1_c A n cap l k w.heap.size (w.heap.size + 1) [60] W (HK.out W rs hJ).1 hk (by decide) (cell_of 0 hJ.bs) (cell_of 0 hJ.at_)
    rwa [h4] at this
  have C : Hid (∀ W rs, RJ A n cap k w W rs → Calls Tryz.prog 65 #[.slice A n cap, .int .i64 (k : Int)] W fun e w' => TokPost (openTok l k) W e w') := Lib.hid fun W rs hJ => tokOpened_c A n cap l k W (HK.out W rs hJ).1 (HK.out W rs hJ).2 hm hk
  have hR : readTok l k = openTok l k := by
    unfold readTok
    rw [if_neg (by rw [h0]; simp), if_neg (by rw [h1]; simp), if_neg (by rw [h2]; simp), if_neg (by rw [h3]; simp), if_pos h4]
    rfl
  rw [hR]
  generalize openTok l k = o at *
  obtain ⟨o, oe⟩ := o
  have J0 := Lib.hid (RJ.start A n cap k w)
  have hi : (Tryz.prog.info? 26).map (·.size) = some 7 := by kernel_rfl
  obtain ⟨sd, hu⟩ := isStruct_of (P := Tryz.prog) (t := 26) (by kernel_rfl)
  have HU := Lib.hid (And.intro hi hu)
  have hk0 : (0 : Int) ≤ (k : Int) := by omega
  have hk1 : (k : Int) ≤ 40000 := by omega
  clear h hW hln HK hi hu h0 h1 h2 h3 h4
  go_enter Tryz.func29, Tryz.ntmps29
  go_wp2_with fail
  refine (S0.out _ _ J0.out).mono ?_
  rintro e0 w1 ⟨rfl, hb⟩
  have J1 := Lib.hid (J0.out.kept hb)
  clear hb
  go_wp2_with fail
  refine (S1.out _ _ J1.out).mono ?_
  rintro e0 w2 ⟨rfl, hb⟩
  have J2 := Lib.hid (J1.out.kept hb)
  clear hb
  go_wp2_with fail
  refine (S2.out _ _ J2.out).mono ?_
  rintro e0 w3 ⟨rfl, hb⟩
  have J3 := Lib.hid (J2.out.kept hb)
  clear hb
  go_wp2_with fail
  refine (S3.out _ _ J3.out).mono ?_
  rintro e0 w4 ⟨rfl, hb⟩
  have J4 := Lib.hid (J3.out.kept hb)
  clear hb
  go_wp2_with fail
  refine (S4.out _ _ J4.out).mono ?_
  rintro e0 w5 ⟨rfl, hb⟩
  have J5 := Lib.hid (J4.out.kept hb)
  clear hb
  have zb := cell_of 0 J5.out.bs
  have za := cell_of 0 J5.out.at_
  go_wp2_with fail
  refine (C.out _ _ J5.out).mono ?_
  rintro e0 u0 ⟨v, hv, rfl, hp, hb, hlo⟩
  have K0 := Lib.hid (J5.out.kept hb)
  have JF := Lib.hid (K0.out.row v.cells.toArray)
  have HP := Lib.hid (And.intro hp (fun b i h => Nat.lt_of_lt_of_le J5.out.size (hlo b i h)))
  clear hb hp hlo za zb
  go_wp2_with (refine wpList_store_row rfl _ _ _ rfl (w.heap.size + 1 + 1) v.cells.toArray rfl rfl _ _ K0.out.tok (by kernel_rfl) rfl (by kernel_rfl) ?_)
  (try simp only [Exit.inBlock, Exit.then])
  refine bodyPost_ret (results_cell2 rfl _ _ (w.heap.size + 1 + 1) _ _ _ _ rfl JF.out.tok HU.out.2 rfl HU.out.1) rfl ⟨v, hv, rfl, HP.out.1.move ?_ ?_, JF.out.below, fun b i h => by have := HP.out.2 b i h; omega⟩
  · simp [World.setRow]
  · intro b' i' hA hb'
    have hlt := HP.out.2 b' i' hA
    rw [setRow_at _ _ _ _ (by omega)]
set_option maxRecDepth 100000 in
set_option maxHeartbeats 8000000 in
theorem tokRead_char (A : Option Addr) (n cap : Nat) (l : List UInt8) (k : Nat) (w : World) (h : Byt w w.heap.size A n cap l) (hW : W11 w) (hm : n ≤ 40000) (hk : k ≤ n) (h0 : [60, 33, 45, 45].isPrefixOf (l.drop k) = false) (h1 : [60, 33, 91, 67, 68, 65, 84, 65, 91].isPrefixOf (l.drop k) = false) (h2 : [60, 63].isPrefixOf (l.drop k) = false) (h3 : [60, 47].isPrefixOf (l.drop k) = false) (h4 : [60].isPrefixOf (l.drop k) = false) (h5 : [38, 35].isPrefixOf (l.drop k) = true) :
    Calls Tryz.prog 29 #[.slice A n cap, .int .i64 (k : Int)] w fun e w' => TokPost (readTok l k) w e w' := by
  have hln := h.length
  have HK : Hid (∀ W rs, RJ A n cap k w W rs → Byt W W.heap.size A n cap l ∧ W11 W) := Lib.hid fun W rs hJ => ⟨(h.below hJ.below).more hJ.below.size, hW.below hJ.below⟩
  have S0 : Hid (∀ W rs, RJ A n cap k w W rs → Calls Tryz.prog 59 #[.string ⟨#[60, 33, 45, 45]⟩, .pointer (some ⟨w.heap.size, 0, none⟩), .pointer (some ⟨w.heap.size + 1, 0, none⟩)] W fun e w' => e = .returned (.bool false) ∧ Below W.heap.size W w') := Lib.hid fun W rs hJ => by
    have := stands1_c A n cap l k w.heap.size (w.heap.size + 1) [60, 33, 45, 45] W (HK.out W rs hJ).1 hk (by decide) (cell_of 0 hJ.bs) (cell_of 0 hJ.at_)
    rwa [h0] at this
  have S1 : Hid (∀ W rs, RJ A n cap k w W rs → Calls Tryz.prog 59 #[.string ⟨#[60, 33, 91, 67, 68, 65, 84, 65, 91]⟩, .pointer (some ⟨w.heap.size, 0, none⟩), .pointer (some ⟨w.heap.size + 1, 0, none⟩)] W fun e w' => e = .returned (.bool false) ∧ Below W.heap.size W w') := Lib.hid fun W rs hJ => by
    have := stands1_c A n cap l k w.heap.size (w.heap.size + 1) [60, 33, 91, 67, 68, 65, 84, 65, 91] W (HK.out W rs hJ).1 hk (by decide) (cell_of 0 hJ.bs) (cell_of 0 hJ.at_)
    rwa [h1] at this
  have S2 : Hid (∀ W rs, RJ A n cap k w W rs → Calls Tryz.prog 59 #[.string ⟨#[60, 63]⟩, .pointer (some ⟨w.heap.size, 0, none⟩), .pointer (some ⟨w.heap.size + 1, 0, none⟩)] W fun e w' => e = .returned (.bool false) ∧ Below W.heap.size W w') := Lib.hid fun W rs hJ => by
    have := stands1_c A n cap l k w.heap.size (w.heap.size + 1) [60, 63] W (HK.out W rs hJ).1 hk (by decide) (cell_of 0 hJ.bs) (cell_of 0 hJ.at_)
    rwa [h2] at this
  have S3 : Hid (∀ W rs, RJ A n cap k w W rs → Calls Tryz.prog 59 #[.string ⟨#[60, 47]⟩, .pointer (some ⟨w.heap.size, 0, none⟩), .pointer (some ⟨w.heap.size + 1, 0, none⟩)] W fun e w' => e = .returned (.bool false) ∧ Below W.heap.size W w') := Lib.hid fun W rs hJ => by
    have := stands1_c A n cap l k w.heap.size (w.heap.size + 1) [60, 47] W (HK.out W rs hJ).1 hk (by decide) (cell_of 0 hJ.bs) (cell_of 0 hJ.at_)
    rwa [h3] at this
  have S4 : Hid (∀ W rs, RJ A n cap k w W rs → Calls Tryz.prog 59 #[.string ⟨#[60]⟩, .pointer (some ⟨w.heap.size, 0, none⟩), .pointer (some ⟨w.heap.size + 1, 0, none⟩)] W fun e w' => e = .returned (.bool false) ∧ Below W.heap.size W w') := Lib.hid fun W rs hJ => by
    have := stands1_c A n cap l k w.heap.size (w.heap.size + 1) [60] W (HK.out W rs hJ).1 hk (by decide) (cell_of 0 hJ.bs) (cell_of 0 hJ.at_)
    rwa [h4] at this
  have S5 : Hid (∀ W rs, RJ A n cap k w W rs → Calls Tryz.prog 59 #[.string ⟨#[38, 35]⟩, .pointer (some ⟨w.heap.size, 0, none⟩), .pointer (some ⟨w.heap.size + 1, 0, none⟩)] W fun e w' => e = .returned (.bool true) ∧ Below W.heap.size W w') := Lib.hid fun W rs hJ => by
    have := stands1_c A n cap l k w.heap.size (w.heap.size + 1) [38, 35] W (HK.out W rs hJ).1 hk (by decide) (cell_of 0 hJ.bs) (cell_of 0 hJ.at_)
    rwa [h5] at this
  have C : Hid (∀ W rs, RJ A n cap k w W rs → Calls Tryz.prog 66 #[.slice A n cap, .int .i64 (k : Int)] W fun e w' => e = .returned (numV (charOut l k)) ∧ Below W.heap.size W w') := Lib.hid fun W rs hJ => by
    have hB := (HK.out W rs hJ).1
    have hW := (HK.out W rs hJ).2
    have := crefChar_c A n cap l k W hB hW.forms hW.tabs (by omega)
    have he : charAt l k = charOut l k := by
      unfold charAt
      rw [hln, if_neg (by omega), Int.toNat_natCast]
    rwa [he] at this
  unfold readTok
  rw [if_neg (by rw [h0]; simp), if_neg (by rw [h1]; simp), if_neg (by rw [h2]; simp), if_neg (by rw [h3]; simp), if_neg (by rw [h4]; simp), if_pos h5]
  generalize charOut l k = o at *
  obtain ⟨r, t, e⟩ := o
  unfold numV at C
  simp only at C ⊢
  have J0 := Lib.hid (RJ.start A n cap k w)
  have hi : (Tryz.prog.info? 26).map (·.size) = some 7 := by kernel_rfl
  obtain ⟨sd, hu⟩ := isStruct_of (P := Tryz.prog) (t := 26) (by kernel_rfl)
  have HU := Lib.hid (And.intro hi hu)
  have hk0 : (0 : Int) ≤ (k : Int) := by omega
  have hk1 : (k : Int) ≤ 40000 := by omega
  clear h hW hln HK hi hu h0 h1 h2 h3 h4 h5
  go_enter Tryz.func29, Tryz.ntmps29
  go_wp2_with fail
  refine (S0.out _ _ J0.out).mono ?_
  rintro e0 w1 ⟨rfl, hb⟩
  have J1 := Lib.hid (J0.out.kept hb)
  clear hb
  go_wp2_with fail
  refine (S1.out _ _ J1.out).mono ?_
  rintro e0 w2 ⟨rfl, hb⟩
  have J2 := Lib.hid (J1.out.kept hb)
  clear hb
  go_wp2_with fail
  refine (S2.out _ _ J2.out).mono ?_
  rintro e0 w3 ⟨rfl, hb⟩
  have J3 := Lib.hid (J2.out.kept hb)
  clear hb
  go_wp2_with fail
  refine (S3.out _ _ J3.out).mono ?_
  rintro e0 w4 ⟨rfl, hb⟩
  have J4 := Lib.hid (J3.out.kept hb)
  clear hb
  go_wp2_with fail
  refine (S4.out _ _ J4.out).mono ?_
  rintro e0 w5 ⟨rfl, hb⟩
  have J5 := Lib.hid (J4.out.kept hb)
  clear hb
  go_wp2_with fail
  refine (S5.out _ _ J5.out).mono ?_
  rintro e0 w6 ⟨rfl, hb⟩
  have J6 := Lib.hid (J5.out.kept hb)
  clear hb
  have z0 := cell_of 0 J6.out.tok
  have y0 := free_of 0 J6.out.tok
  have JA : Hid (RJ A n cap k w (w6.setCell ⟨w.heap.size + 1 + 1, 0, none⟩ (.int .i64 2)) #[.int .i64 2, .int .i64 0, .int .i64 0, .string ⟨#[]⟩, .string ⟨#[]⟩, .slice none 0 0, .int .i64 0]) := Lib.hid (J6.out.set 0 (.int .i64 2))
  have zb := cell_of 0 JA.out.bs
  have za := cell_of 0 JA.out.at_
  go_wp2_with fail
  clear z0 y0
  generalize w6.setCell ⟨w.heap.size + 1 + 1, 0, none⟩ (.int .i64 2) = v1 at *
  refine (C.out _ _ JA.out).mono ?_
  rintro e0 u0 ⟨rfl, hb⟩
  have K0 := Lib.hid (JA.out.kept hb)
  clear hb zb za
  have z1 := cell_of 6 K0.out.tok
  have y1 := free_of 6 K0.out.tok
  have K1 : Hid (RJ A n cap k w (u0.setCell ⟨w.heap.size + 1 + 1, 6, none⟩ (.int .i64 r)) #[.int .i64 2, .int .i64 0, .int .i64 0, .string ⟨#[]⟩, .string ⟨#[]⟩, .slice none 0 0, .int .i64 r]) := Lib.hid (K0.out.set 6 (.int .i64 r))
  have z2 := cell_of 2 K1.out.tok
  have y2 := free_of 2 K1.out.tok
  have K2 : Hid (RJ A n cap k w ((u0.setCell ⟨w.heap.size + 1 + 1, 6, none⟩ (.int .i64 r)).setCell ⟨w.heap.size + 1 + 1, 2, none⟩ (.int .i64 (t : Int))) #[.int .i64 2, .int .i64 0, .int .i64 (t : Int), .string ⟨#[]⟩, .string ⟨#[]⟩, .slice none 0 0, .int .i64 r]) := Lib.hid (K1.out.set 2 (.int .i64 (t : Int)))
  have JF := Lib.hid (K2.out.row #[.int .i64 2, .int .i64 0, .int .i64 (t : Int), .string ⟨#[]⟩, .string ⟨#[]⟩, .slice none 0 0, .int .i64 r])
  go_wp2_with (first | (refine wpList_load_row rfl _ _ rfl (w.heap.size + 1 + 1) rfl _ _ _ _ K2.out.tok HU.out.2 rfl HU.out.1 ?_) | (refine wpList_store_row rfl _ _ _ rfl (w.heap.size + 1 + 1) #[.int .i64 2, .int .i64 0, .int .i64 (t : Int), .string ⟨#[]⟩, .string ⟨#[]⟩, .slice none 0 0, .int .i64 r] rfl rfl _ _ K2.out.tok (by kernel_rfl) rfl (by kernel_rfl) ?_))
  (try simp only [Exit.inBlock, Exit.then])
  exact bodyPost_ret (results_cell2 rfl _ _ (w.heap.size + 1 + 1) _ _ _ _ rfl JF.out.tok HU.out.2 rfl HU.out.1) rfl (TokPost.plain rfl rfl JF.out.below)
set_option maxRecDepth 100000 in
set_option maxHeartbeats 8000000 in
theorem tokRead_ref (A : Option Addr) (n cap : Nat) (l : List UInt8) (k : Nat) (w : World) (h : Byt w w.heap.size A n cap l) (hW : W11 w) (hm : n ≤ 40000) (hk : k ≤ n) (h0 : [60, 33, 45, 45].isPrefixOf (l.drop k) = false) (h1 : [60, 33, 91, 67, 68, 65, 84, 65, 91].isPrefixOf (l.drop k) = false) (h2 : [60, 63].isPrefixOf (l.drop k) = false) (h3 : [60, 47].isPrefixOf (l.drop k) = false) (h4 : [60].isPrefixOf (l.drop k) = false) (h5 : [38, 35].isPrefixOf (l.drop k) = false) (h6 : [38].isPrefixOf (l.drop k) = true) :
    Calls Tryz.prog 29 #[.slice A n cap, .int .i64 (k : Int)] w fun e w' => TokPost (readTok l k) w e w' := by
  have hln := h.length
  have HK : Hid (∀ W rs, RJ A n cap k w W rs → Byt W W.heap.size A n cap l ∧ W11 W) := Lib.hid fun W rs hJ => ⟨(h.below hJ.below).more hJ.below.size, hW.below hJ.below⟩
  have S0 : Hid (∀ W rs, RJ A n cap k w W rs → Calls Tryz.prog 59 #[.string ⟨#[60, 33, 45, 45]⟩, .pointer (some ⟨w.heap.size, 0, none⟩), .pointer (some ⟨w.heap.size + 1, 0, none⟩)] W fun e w' => e = .returned (.bool false) ∧ Below W.heap.size W w') := Lib.hid fun W rs hJ => by
    have := stands1_c A n cap l k w.heap.size (w.heap.size + 1) [60, 33, 45, 45] W (HK.out W rs hJ).1 hk (by decide) (cell_of 0 hJ.bs) (cell_of 0 hJ.at_)
    rwa [h0] at this
  have S1 : Hid (∀ W rs, RJ A n cap k w W rs → Calls Tryz.prog 59 #[.string ⟨#[60, 33, 91, 67, 68, 65, 84, 65, 91]⟩, .pointer (some ⟨w.heap.size, 0, none⟩), .pointer (some ⟨w.heap.size + 1, 0, none⟩)] W fun e w' => e = .returned (.bool false) ∧ Below W.heap.size W w') := Lib.hid fun W rs hJ => by
    have := stands1_c A n cap l k w.heap.size (w.heap.size + 1) [60, 33, 91, 67, 68, 65, 84, 65, 91] W (HK.out W rs hJ).1 hk (by decide) (cell_of 0 hJ.bs) (cell_of 0 hJ.at_)
    rwa [h1] at this
  have S2 : Hid (∀ W rs, RJ A n cap k w W rs → Calls Tryz.prog 59 #[.string ⟨#[60, 63]⟩, .pointer (some ⟨w.heap.size, 0, none⟩), .pointer (some ⟨w.heap.size + 1, 0, none⟩)] W fun e w' => e = .returned (.bool false) ∧ Below W.heap.size W w') := Lib.hid fun W rs hJ => by
    have := stands1_c A n cap l k w.heap.size (w.heap.size + 1) [60, 63] W (HK.out W rs hJ).1 hk (by decide) (cell_of 0 hJ.bs) (cell_of 0 hJ.at_)
    rwa [h2] at this
  have S3 : Hid (∀ W rs, RJ A n cap k w W rs → Calls Tryz.prog 59 #[.string ⟨#[60, 47]⟩, .pointer (some ⟨w.heap.size, 0, none⟩), .pointer (some ⟨w.heap.size + 1, 0, none⟩)] W fun e w' => e = .returned (.bool false) ∧ Below W.heap.size W w') := Lib.hid fun W rs hJ => by
    have := stands1_c A n cap l k w.heap.size (w.heap.size + 1) [60, 47] W (HK.out W rs hJ).1 hk (by decide) (cell_of 0 hJ.bs) (cell_of 0 hJ.at_)
    rwa [h3] at this
  have S4 : Hid (∀ W rs, RJ A n cap k w W rs → Calls Tryz.prog 59 #[.string ⟨#[60]⟩, .pointer (some ⟨w.heap.size, 0, none⟩), .pointer (some ⟨w.heap.size + 1, 0, none⟩)] W fun e w' => e = .returned (.bool false) ∧ Below W.heap.size W w') := Lib.hid fun W rs hJ => by
    have := stands1_c A n cap l k w.heap.size (w.heap.size + 1) [60] W (HK.out W rs hJ).1 hk (by decide) (cell_of 0 hJ.bs) (cell_of 0 hJ.at_)
    rwa [h4] at this
  have S5 : Hid (∀ W rs, RJ A n cap k w W rs → Calls Tryz.prog 59 #[.string ⟨#[38, 35]⟩, .pointer (some ⟨w.heap.size, 0, none⟩), .pointer (some ⟨w.heap.size + 1, 0, none⟩)] W fun e w' => e = .returned (.bool false) ∧ Below W.heap.size W w') := Lib.hid fun W rs hJ => by
    have := stands1_c A n cap l k w.heap.size (w.heap.size + 1) [38, 35] W (HK.out W rs hJ).1 hk (by decide) (cell_of 0 hJ.bs) (cell_of 0 hJ.at_)
    rwa [h5] at this
  have S6 : Hid (∀ W rs, RJ A n cap k w W rs → Calls Tryz.prog 59 #[.string ⟨#[38]⟩, .pointer (some ⟨w.heap.size, 0, none⟩), .pointer (some ⟨w.heap.size + 1, 0, none⟩)] W fun e w' => e = .returned (.bool true) ∧ Below W.heap.size W w') := Lib.hid fun W rs hJ => by
    have := stands1_c A n cap l k w.heap.size (w.heap.size + 1) [38] W (HK.out W rs hJ).1 hk (by decide) (cell_of 0 hJ.bs) (cell_of 0 hJ.at_)
    rwa [h6] at this
  have C : Hid (∀ W rs, RJ A n cap k w W rs → Calls Tryz.prog 67 #[.slice A n cap, .int .i64 (k : Int)] W fun e w' => e = .returned (outV (refOut 38 l k)) ∧ Below W.heap.size W w') := Lib.hid fun W rs hJ => by
    have hB := (HK.out W rs hJ).1
    have hW := (HK.out W rs hJ).2
    have := crefEntity_c A n cap l k W hB hW.forms hW.tabs (by omega)
    have he : refAt 38 l k = refOut 38 l k := by
      unfold refAt
      rw [hln, if_neg (by omega), Int.toNat_natCast]
    rwa [he] at this
  unfold readTok
  rw [if_neg (by rw [h0]; simp), if_neg (by rw [h1]; simp), if_neg (by rw [h2]; simp), if_neg (by rw [h3]; simp), if_neg (by rw [h4]; simp), if_neg (by rw [h5]; simp), if_pos h6]
  generalize refOut 38 l k = o at *
  obtain ⟨s, t, e⟩ := o
  unfold outV at C
  simp only at C ⊢
  have J0 := Lib.hid (RJ.start A n cap k w)
  have hi : (Tryz.prog.info? 26).map (·.size) = some 7 := by kernel_rfl
  obtain ⟨sd, hu⟩ := isStruct_of (P := Tryz.prog) (t := 26) (by kernel_rfl)
  have HU := Lib.hid (And.intro hi hu)
  have hk0 : (0 : Int) ≤ (k : Int) := by omega
  have hk1 : (k : Int) ≤ 40000 := by omega
  clear h hW hln HK hi hu h0 h1 h2 h3 h4 h5 h6
  go_enter Tryz.func29, Tryz.ntmps29
  go_wp2_with fail
  refine (S0.out _ _ J0.out).mono ?_
  rintro e0 w1 ⟨rfl, hb⟩
  have J1 := Lib.hid (J0.out.kept hb)
  clear hb
  go_wp2_with fail
  refine (S1.out _ _ J1.out).mono ?_
  rintro e0 w2 ⟨rfl, hb⟩
  have J2 := Lib.hid (J1.out.kept hb)
  clear hb
  go_wp2_with fail
  refine (S2.out _ _ J2.out).mono ?_
  rintro e0 w3 ⟨rfl, hb⟩
  have J3 := Lib.hid (J2.out.kept hb)
  clear hb
  go_wp2_with fail
  refine (S3.out _ _ J3.out).mono ?_
  rintro e0 w4 ⟨rfl, hb⟩
  have J4 := Lib.hid (J3.out.kept hb)
  clear hb
  go_wp2_with fail
  refine (S4.out _ _ J4.out).mono ?_
  rintro e0 w5 ⟨rfl, hb⟩
  have J5 := Lib.hid (J4.out.kept hb)
  clear hb
  go_wp2_with fail
  refine (S5.out _ _ J5.out).mono ?_
  rintro e0 w6 ⟨rfl, hb⟩
  have J6 := Lib.hid (J5.out.kept hb)
  clear hb
  go_wp2_with fail
  refine (S6.out _ _ J6.out).mono ?_
  rintro e0 w7 ⟨rfl, hb⟩
  have J7 := Lib.hid (J6.out.kept hb)
  clear hb
  have z0 := cell_of 0 J7.out.tok
  have y0 := free_of 0 J7.out.tok
  have JA : Hid (RJ A n cap k w (w7.setCell ⟨w.heap.size + 1 + 1, 0, none⟩ (.int .i64 3)) #[.int .i64 3, .int .i64 0, .int .i64 0, .string ⟨#[]⟩, .string ⟨#[]⟩, .slice none 0 0, .int .i64 0]) := Lib.hid (J7.out.set 0 (.int .i64 3))
  have zb := cell_of 0 JA.out.bs
  have za := cell_of 0 JA.out.at_
  go_wp2_with fail
  clear z0 y0
  generalize w7.setCell ⟨w.heap.size + 1 + 1, 0, none⟩ (.int .i64 3) = v1 at *
  refine (C.out _ _ JA.out).mono ?_
  rintro e0 u0 ⟨rfl, hb⟩
  have K0 := Lib.hid (JA.out.kept hb)
  clear hb zb za
  have z1 := cell_of 3 K0.out.tok
  have y1 := free_of 3 K0.out.tok
  have K1 : Hid (RJ A n cap k w (u0.setCell ⟨w.heap.size + 1 + 1, 3, none⟩ (.string ⟨s.toArray⟩)) #[.int .i64 3, .int .i64 0, .int .i64 0, .string ⟨s.toArray⟩, .string ⟨#[]⟩, .slice none 0 0, .int .i64 0]) := Lib.hid (K0.out.set 3 (.string ⟨s.toArray⟩))
  have z2 := cell_of 2 K1.out.tok
  have y2 := free_of 2 K1.out.tok
  have K2 : Hid (RJ A n cap k w ((u0.setCell ⟨w.heap.size + 1 + 1, 3, none⟩ (.string ⟨s.toArray⟩)).setCell ⟨w.heap.size + 1 + 1, 2, none⟩ (.int .i64 (t : Int))) #[.int .i64 3, .int .i64 0, .int .i64 (t : Int), .string ⟨s.toArray⟩, .string ⟨#[]⟩, .slice none 0 0, .int .i64 0]) := Lib.hid (K1.out.set 2 (.int .i64 (t : Int)))
  have JF := Lib.hid (K2.out.row #[.int .i64 3, .int .i64 0, .int .i64 (t : Int), .string ⟨s.toArray⟩, .string ⟨#[]⟩, .slice none 0 0, .int .i64 0])
  go_wp2_with (first | (refine wpList_load_row rfl _ _ rfl (w.heap.size + 1 + 1) rfl _ _ _ _ K2.out.tok HU.out.2 rfl HU.out.1 ?_) | (refine wpList_store_row rfl _ _ _ rfl (w.heap.size + 1 + 1) #[.int .i64 3, .int .i64 0, .int .i64 (t : Int), .string ⟨s.toArray⟩, .string ⟨#[]⟩, .slice none 0 0, .int .i64 0] rfl rfl _ _ K2.out.tok (by kernel_rfl) rfl (by kernel_rfl) ?_))
  (try simp only [Exit.inBlock, Exit.then])
  exact bodyPost_ret (results_cell2 rfl _ _ (w.heap.size + 1 + 1) _ _ _ _ rfl JF.out.tok HU.out.2 rfl HU.out.1) rfl (TokPost.plain rfl rfl JF.out.below)
set_option maxRecDepth 100000 in
set_option maxHeartbeats 8000000 in
theorem tokRead_text (A : Option Addr) (n cap : Nat) (l : List UInt8) (k : Nat) (w : World) (h : Byt w w.heap.size A n cap l) (hW : W11 w) (hm : n ≤ 40000) (hk : k ≤ n) (h0 : [60, 33, 45, 45].isPrefixOf (l.drop k) = false) (h1 : [60, 33, 91, 67, 68, 65, 84, 65, 91].isPrefixOf (l.drop k) = false) (h2 : [60, 63].isPrefixOf (l.drop k) = false) (h3 : [60, 47].isPrefixOf (l.drop k) = false) (h4 : [60].isPrefixOf (l.drop k) = false) (h5 : [38, 35].isPrefixOf (l.drop k) = false) (h6 : [38].isPrefixOf (l.drop k) = false) :
    Calls Tryz.prog 29 #[.slice A n cap, .int .i64 (k : Int)] w fun e w' => TokPost (readTok l k) w e w' := by
  have hln := h.length
  have HK : Hid (∀ W rs, RJ A n cap k w W rs → Byt W W.heap.size A n cap l ∧ W11 W) := Lib.hid fun W rs hJ => ⟨(h.below hJ.below).more hJ.below.size, hW.below hJ.below⟩
  have S0 : Hid (∀ W rs, RJ A n cap k w W rs → Calls Tryz.prog 59 #[.string ⟨#[60, 33, 45, 45]⟩, .pointer (some ⟨w.heap.size, 0, none⟩), .pointer (some ⟨w.heap.size + 1, 0, none⟩)] W fun e w' => e = .returned (.bool false) ∧ Below W.heap.size W w') := Lib.hid fun W rs hJ => by
    have := stands1_c A n cap l k w.heap.size (w.heap.size + 1) [60, 33, 45, 45] W (HK.out W rs hJ).1 hk (by decide) (cell_of 0 hJ.bs) (cell_of 0 hJ.at_)
    rwa [h0] at this
  have S1 : Hid (∀ W rs, RJ A n cap k w W rs → Calls Tryz.prog 59 #[.string ⟨#[60, 33, 91, 67, 68, 65, 84, 65, 91]⟩, .pointer (some ⟨w.heap.size, 0, none⟩), .pointer (some ⟨w.heap.size + 1, 0, none⟩)] W fun e w' => e = .returned (.bool false) ∧ Below W.heap.size W w') := Lib.hid fun W rs hJ => by
    have := stands1_c A n cap l k w.heap.size (w.heap.size + 1) [60, 33, 91, 67, 68, 65, 84, 65, 91] W (HK.out W rs hJ).1 hk (by decide) (cell_of 0 hJ.bs) (cell_of 0 hJ.at_)
    rwa [h1] at this
  have S2 : Hid (∀ W rs, RJ A n cap k w W rs → Calls Tryz.prog 59 #[.string ⟨#[60, 63]⟩, .pointer (some ⟨w.heap.size, 0, none⟩), .pointer (some ⟨w.heap.size + 1, 0, none⟩)] W fun e w' => e = .returned (.bool false) ∧ Below W.heap.size W w') := Lib.hid fun W rs hJ => by
    have := stands1_c A n cap l k w.heap.size (w.heap.size + 1) [60, 63] W (HK.out W rs hJ).1 hk (by decide) (cell_of 0 hJ.bs) (cell_of 0 hJ.at_)
    rwa [h2] at this
  have S3 : Hid (∀ W rs, RJ A n cap k w W rs → Calls Tryz.prog 59 #[.string ⟨#[60, 47]⟩, .pointer (some ⟨w.heap.size, 0, none⟩), .pointer (some ⟨w.heap.size + 1, 0, none⟩)] W fun e w' => e = .returned (.bool false) ∧ Below W.heap.size W w') := Lib.hid fun W rs hJ => by
    have := stands1_c A n cap l k w.heap.size (w.heap.size + 1) [60, 47] W (HK.out W rs hJ).1 hk (by decide) (cell_of 0 hJ.bs) (cell_of 0 hJ.at_)
    rwa [h3] at this
  have S4 : Hid (∀ W rs, RJ A n cap k w W rs → Calls Tryz.prog 59 #[.string ⟨#[60]⟩, .pointer (some ⟨w.heap.size, 0, none⟩), .pointer (some ⟨w.heap.size + 1, 0, none⟩)] W fun e w' => e = .returned (.bool false) ∧ Below W.heap.size W w') := Lib.hid fun W rs hJ => by
    have := stands1_c A n cap l k w.heap.size (w.heap.size + 1) [60] W (HK.out W rs hJ).1 hk (by decide) (cell_of 0 hJ.bs) (cell_of 0 hJ.at_)
    rwa [h4] at this
  have S5 : Hid (∀ W rs, RJ A n cap k w W rs → Calls Tryz.prog 59 #[.string ⟨#[38, 35]⟩, .pointer (some ⟨w.heap.size, 0, none⟩), .pointer (some ⟨w.heap.size + 1, 0, none⟩)] W fun e w' => e = .returned (.bool false) ∧ Below W.heap.size W w') := Lib.hid fun W rs hJ => by
    have := stands1_c A n cap l k w.heap.size (w.heap.size + 1) [38, 35] W (HK.out W rs hJ).1 hk (by decide) (cell_of 0 hJ.bs) (cell_of 0 hJ.at_)
    rwa [h5] at this
  have S6 : Hid (∀ W rs, RJ A n cap k w W rs → Calls Tryz.prog 59 #[.string ⟨#[38]⟩, .pointer (some ⟨w.heap.size, 0, none⟩), .pointer (some ⟨w.heap.size + 1, 0, none⟩)] W fun e w' => e = .returned (.bool false) ∧ Below W.heap.size W w') := Lib.hid fun W rs hJ => by
    have := stands1_c A n cap l k w.heap.size (w.heap.size + 1) [38] W (HK.out W rs hJ).1 hk (by decide) (cell_of 0 hJ.bs) (cell_of 0 hJ.at_)
    rwa [h6] at this
  have C : Hid (∀ W rs, RJ A n cap k w W rs → Calls Tryz.prog 68 #[.slice A n cap, .int .i64 (k : Int)] W fun e w' => TokPost (textTok l k) W e w') := Lib.hid fun W rs hJ => tokText_c A n cap l k W (HK.out W rs hJ).1 (HK.out W rs hJ).2 hm hk
  have hR : readTok l k = textTok l k := by
    unfold readTok
    rw [if_neg (by rw [h0]; simp), if_neg (by rw [h1]; simp), if_neg (by rw [h2]; simp), if_neg (by rw [h3]; simp), if_neg (by rw [h4]; simp), if_neg (by rw [h5]; simp), if_neg (by rw [h6]; simp)]
  rw [hR]
  generalize textTok l k = o at *
  obtain ⟨o, oe⟩ := o
  have J0 := Lib.hid (RJ.start A n cap k w)
  have hi : (Tryz.prog.info? 26).map (·.size) = some 7 := by kernel_rfl
  obtain ⟨sd, hu⟩ := isStruct_of (P := Tryz.prog) (t := 26) (by kernel_rfl)
  have HU := Lib.hid (And.intro hi hu)
  have hk0 : (0 : Int) ≤ (k : Int) := by omega
  have hk1 : (k : Int) ≤ 40000 := by omega
  clear h hW hln HK hi hu h0 h1 h2 h3 h4 h5 h6
  go_enter Tryz.func29, Tryz.ntmps29
  go_wp2_with fail
  refine (S0.out _ _ J0.out).mono ?_
  rintro e0 w1 ⟨rfl, hb⟩
  have J1 := Lib.hid (J0.out.kept hb)
  clear hb
  go_wp2_with fail
  refine (S1.out _ _ J1.out).mono ?_
  rintro e0 w2 ⟨rfl, hb⟩
  have J2 := Lib.hid (J1.out.kept hb)
  clear hb
  go_wp2_with fail
  refine (S2.out _ _ J2.out).mono ?_
  rintro e0 w3 ⟨rfl, hb⟩
  have J3 := Lib.hid (J2.out.kept hb)
  clear hb
  go_wp2_with fail
  refine (S3.out _ _ J3.out).mono ?_
  rintro e0 w4 ⟨rfl, hb⟩
  have J4 := Lib.hid (J3.out.kept hb)
  clear hb
  go_wp2_with fail
  refine (S4.out _ _ J4.out).mono ?_
  rintro e0 w5 ⟨rfl, hb⟩
  have J5 := Lib.hid (J4.out.kept hb)
  clear hb
  go_wp2_with fail
  refine (S5.out _ _ J5.out).mono ?_
  rintro e0 w6 ⟨rfl, hb⟩
  have J6 := Lib.hid (J5.out.kept hb)
  clear hb
  go_wp2_with fail
  refine (S6.out _ _ J6.out).mono ?_
  rintro e0 w7 ⟨rfl, hb⟩
  have J7 := Lib.hid (J6.out.kept hb)
  clear hb
  have zb := cell_of 0 J7.out.bs
  have za := cell_of 0 J7.out.at_
  go_wp2_with fail
  refine (C.out _ _ J7.out).mono ?_
  rintro e0 u0 ⟨v, hv, rfl, hp, hb, hlo⟩
  have K0 := Lib.hid (J7.out.kept hb)
  have JF := Lib.hid (K0.out.row v.cells.toArray)
  have HP := Lib.hid (And.intro hp (fun b i h => Nat.lt_of_lt_of_le J7.out.size (hlo b i h)))
  clear hb hp hlo za zb
  go_wp2_with (refine wpList_store_row rfl _ _ _ rfl (w.heap.size + 1 + 1) v.cells.toArray rfl rfl _ _ K0.out.tok (by kernel_rfl) rfl (by kernel_rfl) ?_)
  (try simp only [Exit.inBlock, Exit.then])
  refine bodyPost_ret (results_cell2 rfl _ _ (w.heap.size + 1 + 1) _ _ _ _ rfl JF.out.tok HU.out.2 rfl HU.out.1) rfl ⟨v, hv, rfl, HP.out.1.move ?_ ?_, JF.out.below, fun b i h => by have := HP.out.2 b i h; omega⟩
  · simp [World.setRow]
  · intro b' i' hA hb'
    have hlt := HP.out.2 b' i' hA
    rw [setRow_at _ _ _ _ (by omega)]
/-- narthex/tok.read at a place within. -/
theorem tokRead_c (A : Option Addr) (n cap : Nat) (l : List UInt8) (k : Nat) (w : World) (h : Byt w w.heap.size A n cap l) (hW : W11 w) (hm : n ≤ 40000) (hk : k ≤ n) :
    Calls Tryz.prog 29 #[.slice A n cap, .int .i64 (k : Int)] w fun e w' => TokPost (readTok l k) w e w' := by
  cases h0 : [60, 33, 45, 45].isPrefixOf (l.drop k) with
  | true => exact tokRead_comment A n cap l k w h hW hm hk h0
  | false =>
    cases h1 : [60, 33, 91, 67, 68, 65, 84, 65, 91].isPrefixOf (l.drop k) with
    | true => exact tokRead_cdata A n cap l k w h hW hm hk h0 h1
    | false =>
      cases h2 : [60, 63].isPrefixOf (l.drop k) with
      | true => exact tokRead_pi A n cap l k w h hW hm hk h0 h1 h2
      | false =>
        cases h3 : [60, 47].isPrefixOf (l.drop k) with
        | true => exact tokRead_close A n cap l k w h hW hm hk h0 h1 h2 h3
        | false =>
          cases h4 : [60].isPrefixOf (l.drop k) with
          | true => exact tokRead_open A n cap l k w h hW hm hk h0 h1 h2 h3 h4
          | false =>
            cases h5 : [38, 35].isPrefixOf (l.drop k) with
            | true => exact tokRead_char A n cap l k w h hW hm hk h0 h1 h2 h3 h4 h5
            | false =>
              cases h6 : [38].isPrefixOf (l.drop k) with
              | true => exact tokRead_ref A n cap l k w h hW hm hk h0 h1 h2 h3 h4 h5 h6
              | false =>
                exact tokRead_text A n cap l k w h hW hm hk h0 h1 h2 h3 h4 h5 h6
end Go.Proofs.YtmclngahdklfkaaGreatDoor
/- tok.Next. -/
namespace Go.Proofs.YtmclngahdklfkaaGreatDoor
open Go.ChangeShapes Go.WideShapes Go.ChangeAt Go.RowKit
set_option linter.unusedVariables false
set_option maxRecDepth 100000 in
set_option maxHeartbeats 4000000 in
theorem tokNext_c (A : Option Addr) (n cap : Nat) (l : List UInt8) (at_ : Int) (w : World) (h : Byt w w.heap.size A n cap l) (hW : W11 w) (hm : n ≤ 40000) :
    Calls Tryz.prog 10 #[.slice A n cap, .int .i64 at_] w fun e w' => TokPost (nextAt l at_) w e w' := by
  have hln := h.length
  have hJ := CJ.start 26 w #[.int .i64 0, .int .i64 0, .int .i64 0, .string ⟨#[]⟩, .string ⟨#[]⟩, .slice none 0 0, .int .i64 0]
  have hi : (Tryz.prog.info? 26).map (·.size) = some 7 := by kernel_rfl
  obtain ⟨sd, hu⟩ := isStruct_of (P := Tryz.prog) (t := 26) (by kernel_rfl)
  have HU := Lib.hid (And.intro hi hu)
  have J0 := Lib.hid hJ
  have C : Hid (∀ k : Nat, k < n → ∀ W, Below w.heap.size w W → Calls Tryz.prog 29 #[.slice A n cap, .int .i64 (k : Int)] W fun e w' => TokPost (readTok l k) W e w') := Lib.hid fun k hk W hb => tokRead_c A n cap l k W ((h.below hb).more hb.size) (hW.below hb) hm (by omega)
  unfold nextAt
  rw [hln]
  have JZ := Lib.hid (J0.out.row #[.int .i64 0, .int .i64 0, .int .i64 0, .string ⟨#[]⟩, .string ⟨#[]⟩, .slice none 0 0, .int .i64 0])
  clear h hW hi hu hJ hln
  by_cases ha : at_ < 0 ∨ (n : Int) < at_
  · rw [if_pos ha]
    clear C
    by_cases h0 : at_ < 0
    · have hd : decide (at_ < 0) = true := by simpa using h0
      clear ha
      go_enter Tryz.func10, Tryz.ntmps10
      go_wp2_with (refine wpList_store_row rfl _ _ _ rfl w.heap.size #[.int .i64 0, .int .i64 0, .int .i64 0, .string ⟨#[]⟩, .string ⟨#[]⟩, .slice none 0 0, .int .i64 0] rfl rfl _ _ J0.out.2 (by kernel_rfl) rfl (by kernel_rfl) ?_)
      (try simp only [Exit.inBlock, Exit.then])
      exact bodyPost_ret (results_cell2 rfl _ _ w.heap.size _ _ _ _ rfl JZ.out.2 HU.out.2 rfl HU.out.1) rfl (TokPost.no rfl JZ.out.1)
    · have h1 : (n : Int) < at_ := by omega
      clear ha
      go_enter Tryz.func10, Tryz.ntmps10
      go_wp2_with (refine wpList_store_row rfl _ _ _ rfl w.heap.size #[.int .i64 0, .int .i64 0, .int .i64 0, .string ⟨#[]⟩, .string ⟨#[]⟩, .slice none 0 0, .int .i64 0] rfl rfl _ _ J0.out.2 (by kernel_rfl) rfl (by kernel_rfl) ?_)
      (try simp only [Exit.inBlock, Exit.then])
      exact bodyPost_ret (results_cell2 rfl _ _ w.heap.size _ _ _ _ rfl JZ.out.2 HU.out.2 rfl HU.out.1) rfl (TokPost.no rfl JZ.out.1)
  · rw [if_neg ha]
    by_cases hn : at_ = (n : Int)
    · rw [if_pos hn]
      subst hn
      clear ha C
      have hn0 : ¬ (n : Int) < 0 := by omega
      go_enter Tryz.func10, Tryz.ntmps10
      go_wp2_with (refine wpList_store_row rfl _ _ _ rfl w.heap.size #[.int .i64 0, .int .i64 0, .int .i64 0, .string ⟨#[]⟩, .string ⟨#[]⟩, .slice none 0 0, .int .i64 0] rfl rfl _ _ J0.out.2 (by kernel_rfl) rfl (by kernel_rfl) ?_)
      (try simp only [Exit.inBlock, Exit.then])
      exact bodyPost_ret (results_cell2 rfl _ _ w.heap.size _ _ _ _ rfl JZ.out.2 HU.out.2 rfl HU.out.1) rfl (TokPost.no rfl JZ.out.1)
    · rw [if_neg hn]
      obtain ⟨k, rfl⟩ : ∃ k : Nat, at_ = (k : Int) := ⟨at_.toNat, by omega⟩
      rw [Int.toNat_natCast]
      have hk : k < n := by omega
      have C1 := Lib.hid (C.out k hk _ J0.out.1)
      unfold nextOut
      generalize readTok l k = ro at *
      obtain ⟨o, e⟩ := ro
      have hk0 : ¬ (k : Int) < 0 := by omega
      have hk1 : ¬ (n : Int) < (k : Int) := by omega
      have hk2 : ((k : Int) == (n : Int)) = false := by simp; omega
      clear ha hn hk C
      by_cases he : e = 0
      · subst he
        rw [if_pos rfl]
        go_enter Tryz.func10, Tryz.ntmps10
        go_wp2_with fail
        refine C1.out.mono ?_
        intro e0 w1 hp
        obtain ⟨PA, pn, pc, rfl, hpr, hb, hlo⟩ := hp.out
        simp only at hpr ⊢
        have J1 := J0.out.kept hb
        have HP := Lib.hid (And.intro hpr (fun b i h => Nat.lt_of_lt_of_le (lt_of J0.out.2) (hlo b i h)))
        have J4 := Lib.hid (J1.kept ((Below.refl _ w1).alloc (Nat.le_refl _) (.cells #[.int .i64 o.kind, .int .i64 (k : Int), .int .i64 o.to_, .string ⟨o.name.toArray⟩, .string ⟨o.text.toArray⟩, .slice PA pn pc, .int .i64 o.r] 26)))
        have HQ := Lib.hid (hp_new w1 (.cells #[.int .i64 o.kind, .int .i64 (k : Int), .int .i64 o.to_, .string ⟨o.name.toArray⟩, .string ⟨o.text.toArray⟩, .slice PA pn pc, .int .i64 o.r] 26))
        have JF := Lib.hid (J4.out.row #[.int .i64 o.kind, .int .i64 (k : Int), .int .i64 o.to_, .string ⟨o.name.toArray⟩, .string ⟨o.text.toArray⟩, .slice PA pn pc, .int .i64 o.r])
        clear hpr hb hlo J1 hp
        go_wp2_with (first | (refine wpList_load_row rfl _ _ rfl w1.heap.size rfl _ _ _ _ HQ.out HU.out.2 rfl HU.out.1 ?_) | (refine wpList_store_row rfl _ _ _ rfl w.heap.size #[.int .i64 o.kind, .int .i64 (k : Int), .int .i64 o.to_, .string ⟨o.name.toArray⟩, .string ⟨o.text.toArray⟩, .slice PA pn pc, .int .i64 o.r] rfl rfl _ _ J4.out.2 (by kernel_rfl) rfl (by kernel_rfl) ?_))
        (try simp only [Exit.inBlock, Exit.then])
        refine bodyPost_ret (results_cell2 rfl _ _ w.heap.size _ _ _ _ rfl JF.out.2 HU.out.2 rfl HU.out.1) rfl (TokPost.of PA pn pc rfl (HP.out.1.move ?_ ?_) JF.out.1 fun b i h => Nat.le_of_lt (HP.out.2 b i h))
        · simp [World.setRow]
        · intro b' i' hA hb'
          have hlt := HP.out.2 b' i' hA
          rw [setRow_at _ _ _ _ (by omega), Below.heap_alloc _ _ _ hb']
      · rw [if_neg he]
        have hei : ((e : Int) == 0) = false := by simp; omega
        go_enter Tryz.func10, Tryz.ntmps10
        go_wp2_with fail
        refine C1.out.mono ?_
        intro e0 w1 hp
        obtain ⟨PA, pn, pc, rfl, hpr, hb, hlo⟩ := hp.out
        simp only at hpr ⊢
        have J1 := J0.out.kept hb
        have J4 := Lib.hid (J1.kept ((Below.refl _ w1).alloc (Nat.le_refl _) (.cells #[.int .i64 o.kind, .int .i64 o.fro, .int .i64 o.to_, .string ⟨o.name.toArray⟩, .string ⟨o.text.toArray⟩, .slice PA pn pc, .int .i64 o.r] 26)))
        have JF := Lib.hid (J4.out.row #[.int .i64 0, .int .i64 0, .int .i64 0, .string ⟨#[]⟩, .string ⟨#[]⟩, .slice none 0 0, .int .i64 0])
        clear hpr hb hlo J1 hp
        go_wp2_with (refine wpList_store_row rfl _ _ _ rfl w.heap.size #[.int .i64 0, .int .i64 0, .int .i64 0, .string ⟨#[]⟩, .string ⟨#[]⟩, .slice none 0 0, .int .i64 0] rfl rfl _ _ J4.out.2 (by kernel_rfl) rfl (by kernel_rfl) ?_)
        (try simp only [Exit.inBlock, Exit.then])
        exact bodyPost_ret (results_cell2 rfl _ _ w.heap.size _ _ _ _ rfl JF.out.2 HU.out.2 rfl HU.out.1) rfl (TokPost.no rfl JF.out.1)
end Go.Proofs.YtmclngahdklfkaaGreatDoor
/- tok.All. -/
namespace Go.Proofs.YtmclngahdklfkaaGreatDoor
open Go.ChangeShapes Go.WideShapes Go.ChangeAt Go.RowKit
set_option linter.unusedVariables false
theorem cells_one (v : TokV) : ∀ u ∈ v.cells, u.oneCell' = true := by
  simp [TokV.cells, Value.oneCell']
end Go.Proofs.YtmclngahdklfkaaGreatDoor
/- The law TokNexts: the page's example, the walk. -/
namespace Go.Proofs.YtmclngahdklfkaaGreatDoor
open Go.ChangeShapes Go.WideShapes Go.ChangeAt Go.RowKit
set_option linter.unusedVariables false
end Go.Proofs.YtmclngahdklfkaaGreatDoor
/- The law TokNexts: the page's example, the walk. -/
namespace Go.Proofs.YtmclngahdklfkaaGreatDoor
open Go.ChangeShapes Go.WideShapes Go.ChangeAt Go.RowKit
set_option linter.unusedVariables false
/-- While two tokens are compared: their blocks, their rows of attributes. -/
structure RQ (w W : World) (b1 b2 : Nat) (k : TokL) (A1 A2 : Option Addr) (pn c1 c2 : Nat) : Prop where
  below : Below w.heap.size w W
  q1 : W.heap[b1]? = some (.cells #[.int .i64 k.kind, .int .i64 k.fro, .int .i64 k.to_, .string ⟨k.name.toArray⟩, .string ⟨k.text.toArray⟩, .slice A1 pn c1, .int .i64 k.r] 26)
  q2 : W.heap[b2]? = some (.cells #[.int .i64 k.kind, .int .i64 k.fro, .int .i64 k.to_, .string ⟨k.name.toArray⟩, .string ⟨k.text.toArray⟩, .slice A2 pn c2, .int .i64 k.r] 30)
  p1 : PRd W W.heap.size A1 pn c1 k.pairs
  p2 : PRd W W.heap.size A2 pn c2 k.pairs
theorem RQ.kept {w W W' : World} {b1 b2 : Nat} {k : TokL} {A1 A2 : Option Addr} {pn c1 c2 : Nat} (h : RQ w W b1 b2 k A1 A2 pn c1 c2) (hb : Below W.heap.size W W') : RQ w W' b1 b2 k A1 A2 pn c1 c2 :=
  ⟨h.below.trans (hb.mono h.below.size), by rw [hb.block _ (lt_of h.q1)]; exact h.q1, by rw [hb.block _ (lt_of h.q2)]; exact h.q2, (h.p1.below hb).more hb.size, (h.p2.below hb).more hb.size⟩
theorem pairsR_len (l : List UInt8) : ∀ (f : Nat) (acc : List PairL) (t : Nat), (pairsR l f acc t).1.length ≤ acc.length + f
  | 0, acc, t => Nat.zero_le _
  | f + 1, acc, t => by
    cases hs : stopB l (blankTo l t) t with
    | true => rw [pairs_stop hs]; show acc.length ≤ _; omega
    | false =>
      by_cases he : (pairOut l (blankTo l t)).2.2 = 0
      · cases hh : hasN acc (pairOut l (blankTo l t)).1.1 with
        | true => rw [pairs_twice hs he hh]; exact Nat.zero_le _
        | false =>
          rw [pairs_more hs he hh]
          have := pairsR_len l f (acc ++ [(pairOut l (blankTo l t)).1]) (pairOut l (blankTo l t)).2.1
          simp only [List.length_append, List.length_cons, List.length_nil] at this
          omega
      · rw [pairs_bad hs rfl he]
        exact Nat.zero_le _
theorem pairsOut_len (l : List UInt8) (k : Nat) : (pairsOut l k).1.length ≤ l.length + 1 := by
  have := pairsR_len l (l.length + 1) [] k
  simp only [List.length_nil] at this
  unfold pairsOut
  omega
theorem openOut_len (l : List UInt8) (k : Nat) : (openOut l k).1.pairs.length ≤ l.length + 1 := by
  unfold openOut
  repeat' split
  all_goals first | exact pairsOut_len l _ | simp [noTag]
theorem nextAt_len (l : List UInt8) (at_ : Int) : (nextAt l at_).1.pairs.length ≤ l.length + 1 := by
  have key : ∀ k, (nextOut l k).1.pairs.length ≤ l.length + 1 := fun k => by
    unfold nextOut
    split
    · show (readTok l k).1.pairs.length ≤ _
      unfold readTok
      repeat' split
      all_goals first | exact Nat.zero_le _ | exact openOut_len l k | (unfold textTok; split <;> exact Nat.zero_le _)
    · exact Nat.zero_le _
  unfold nextAt
  repeat' split
  all_goals first | exact Nat.zero_le _ | exact key _
end Go.Proofs.YtmclngahdklfkaaGreatDoor
/- Rows of strings; the last one. -/
namespace Go.Proofs.YtmclngahdklfkaaGreatDoor
open Go.ChangeShapes Go.WideShapes Go.ChangeAt Go.RowKit
set_option linter.unusedVariables false
def strV (s : List UInt8) : Value := .string ⟨s.toArray⟩
/-- A row of strings of the call's own. -/
def OwnS (w : World) (base : Nat) (v : Value) (op : List (List UInt8)) : Prop := w.ownsRow base 9 1 v op.length (op.map strV)
theorem OwnS.start (w : World) (base : Nat) : OwnS w base (.slice none 0 0) [] := ⟨rfl, .inl ⟨rfl, rfl⟩⟩
theorem OwnS.kept {w w' : World} {base : Nat} {v : Value} {op : List (List UInt8)} (h : OwnS w base v op) (hb : Below w.heap.size w w') : OwnS w' base v op := ownsRow_keep h fun g _ hg => hb.block g hg
theorem OwnS.form {w : World} {base : Nat} {v : Value} {op : List (List UInt8)} (h : OwnS w base v op) : ∃ A c, v = .slice A op.length c := by
  obtain ⟨hl, ⟨hv, h0⟩ | ⟨g, cap, cur, hv, r⟩⟩ := h
  · exact ⟨none, 0, by rw [hv, h0]⟩
  · exact ⟨_, cap, hv⟩
/-- The last one of a row that holds one: where it lies; the row without it. -/
theorem OwnS.last {w : World} {base : Nat} {v : Value} {op : List (List UInt8)} {s : List UInt8} (h : OwnS w base v (op ++ [s])) :
    ∃ g c, v = .slice (some ⟨g, 0, none⟩) (op.length + 1) c ∧ op.length + 1 ≤ c ∧ base ≤ g ∧ g < w.heap.size ∧ w.cell? ⟨g, op.length, none⟩ = some (strV s) ∧ OwnS w base (.slice (some ⟨g, 0, none⟩) op.length c) op := by
  obtain ⟨hl, ⟨hv, h0⟩ | ⟨g, cap, cur, hv, hg, hh, hn, hc, hs, ht⟩⟩ := h
  · simp at h0
  · rw [List.length_append, List.length_singleton] at hv hn ht
    refine ⟨g, cap, hv, hn, hg, lt_of hh, ?_, by simp, .inr ⟨g, cap, cur, rfl, hg, hh, by omega, hc, hs, ?_⟩⟩
    · rw [cell_of _ hh]
      have : (cur.toList.take ((op.length + 1) * 1))[op.length]? = some (strV s) := by rw [ht, List.map_append, List.getElem?_append_right (by simp)]; simp
      rw [List.getElem?_take_of_lt (by omega)] at this
      simpa using this
    · have := congrArg (List.take (op.length * 1)) ht
      rw [List.take_take, show min (op.length * 1) ((op.length + 1) * 1) = op.length * 1 by omega] at this
      rw [this, List.map_append, List.take_left' (by simp)]
theorem OwnS.cap {w : World} {base : Nat} {A : Option Addr} {c : Nat} {op : List (List UInt8)} (h : OwnS w base (.slice A op.length c) op) : op.length ≤ c ∧ c ≤ maxLen := by
  obtain ⟨hl, ⟨hv, h0⟩ | ⟨g, cap, cur, hv, hg, hh, hn, hc, hs, ht⟩⟩ := h
  · injection hv with h1 h2 h3
    exact ⟨by omega, by omega⟩
  · injection hv with h1 h2 h3
    exact ⟨by omega, by omega⟩
theorem run_cutS {w : World} (A : Option Addr) (n cap t : Nat) (ht : t ≤ cap) : (Instr.slice 71 (.slice A n cap) none (some (.int .i64 (t : Int))) none).run Tryz.prog w = .ok (.slice A t cap) w := by
  rw [run_slice_h (P := Tryz.prog) (w := w) 71 A n cap (by kernel_rfl) .i64 (t : Int) (by omega) (by omega), show (sizeOf (Tryz.prog.elem 71)).run Tryz.prog w = .ok 1 w by kernel_rfl]
  simp [sliced]
  intro _
  cases A with
  | none => rfl
  | some a => simp [Addr.add]
end Go.Proofs.YtmclngahdklfkaaGreatDoor
/- tok.Match. -/
namespace Go.Proofs.YtmclngahdklfkaaGreatDoor
open Go.ChangeShapes Go.WideShapes Go.ChangeAt Go.RowKit
set_option linter.unusedVariables false
theorem info_str : ∃ i, Tryz.prog.info? 9 = some i ∧ i.zero = some (.string ⟨#[]⟩) ∧ i.size = 1 ∧ i.bytes = 16 := by
  obtain ⟨i, h1, h2, h3, h4⟩ := info_parts (show (Tryz.prog.info? 9).map (fun i => (i.zero, i.size, i.bytes)) = some (some (.string ⟨#[]⟩), 1, 16) by kernel_rfl)
  exact ⟨i, h1, h2, h3, h4⟩
theorem OwnS.of {w : World} {base : Nat} {v : Value} {op : List (List UInt8)} {s : List UInt8} (h : w.ownsRow base 9 1 v (op.length + 1) (op.map strV ++ [strV s])) : OwnS w base v (op ++ [s]) := by
  unfold OwnS
  rw [List.length_append, List.length_singleton, List.map_append]
  exact h
end Go.Proofs.YtmclngahdklfkaaGreatDoor
/- narthexref11.Match. -/
namespace Go.Proofs.YtmclngahdklfkaaGreatDoor
open Go.ChangeShapes Go.WideShapes Go.ChangeAt Go.RowKit
set_option linter.unusedVariables false
end Go.Proofs.YtmclngahdklfkaaGreatDoor
/- Tokens one behind the other, in plain Lean. -/
namespace Go.Proofs.YtmclngahdklfkaaGreatDoor
open Go.ChangeShapes Go.WideShapes Go.ChangeAt Go.RowKit
set_option linter.unusedVariables false
/-- The place that is reached behind the first i tokens. -/
def plc (L : List TokL) : Nat → Int
  | 0 => 0
  | i + 1 => match L[i]? with | some k => k.to_ | none => 0
/-- Tokens one behind the other, from place 0 on. -/
structure Chain (l : List UInt8) (L : List TokL) : Prop where
  one : ∀ i k, L[i]? = some k → k.fro = plc L i ∧ plc L i < k.to_
  prs : ∀ k ∈ L, k.pairs.length ≤ l.length + 1
theorem Chain.nil (l : List UInt8) : Chain l [] := ⟨fun i k h => by simp at h, fun k h => by cases h⟩
theorem nextOut_pairs (l : List UInt8) (k : Nat) (hk : k < l.length) : (nextOut l k).1.pairs.length ≤ l.length + 1 := by
  have := nextAt_len l k
  rwa [nextAt_in l k hk] at this
end Go.Proofs.YtmclngahdklfkaaGreatDoor
/- A content's tokens, in plain Lean. -/
namespace Go.Proofs.YtmclngahdklfkaaGreatDoor
open Go.ChangeShapes Go.WideShapes Go.ChangeAt Go.RowKit
set_option linter.unusedVariables false
def blankB (s : List UInt8) : Bool := decide (blankTo s 0 = s.length)
/-- May a token stand there? What is open behind it, and whether there was an element; none: it may not. -/
def mayS (whole : Bool) (op : List (List UInt8)) (root : Bool) (t : TokL) : Option (List (List UInt8) × Bool) :=
  if t.kind = 7 then (if (whole && op.isEmpty && root) = true then none else some (op ++ [t.name], true))
  else if t.kind = 8 then (if (whole && op.isEmpty && root) = true then none else some (op, true))
  else if t.kind = 9 then (if op.getLast? = some t.name then some (op.dropLast, root) else none)
  else if t.kind = 1 then (if (whole && op.isEmpty && !blankB t.text) = true then none else some (op, root))
  else if t.kind = 2 ∨ t.kind = 3 ∨ t.kind = 4 then (if (whole && op.isEmpty) = true then none else some (op, root))
  else some (op, root)
/-- Is it left out? -/
def leftOut (whole : Bool) (op : List (List UInt8)) (t : TokL) : Bool := whole && op.isEmpty && decide (t.kind = 1)
def overR (l : List UInt8) (whole : Bool) : Nat → List TokL → List (List UInt8) → Bool → Nat → List TokL × Nat × Nat
  | 0, _, _, _, _ => ([], 0, 0)
  | f + 1, acc, op, root, t =>
    if t < l.length then
      (if (nextOut l t).2 ≠ 0 then ([], t, (nextOut l t).2)
       else match mayS whole op root (nextOut l t).1 with
         | none => ([], t, 7)
         | some (op', root') => overR l whole f (if leftOut whole op (nextOut l t).1 = true then acc else acc ++ [(nextOut l t).1]) op' root' (nextOut l t).1.to_.toNat)
    else if (!op.isEmpty || (whole && !root)) = true then ([], t, 7) else (acc, t, 0)
/-- The tokens of a content, the place reached, the error. -/
def overAt (l : List UInt8) (at_ : Int) (whole : Bool) : List TokL × Nat × Nat := if at_ < 0 ∨ (l.length : Int) < at_ then ([], 0, 3) else overR l whole (l.length + 1) [] [] false at_.toNat
theorem over_open {l : List UInt8} {whole : Bool} {f t : Nat} {acc : List TokL} {op : List (List UInt8)} {root : Bool} (h : ¬ t < l.length) (hb : (!op.isEmpty || (whole && !root)) = true) : overR l whole (f + 1) acc op root t = ([], t, 7) := by rw [overR, if_neg h, if_pos hb]
theorem over_end {l : List UInt8} {whole : Bool} {f t : Nat} {acc : List TokL} {op : List (List UInt8)} {root : Bool} (h : ¬ t < l.length) (hb : (!op.isEmpty || (whole && !root)) = false) : overR l whole (f + 1) acc op root t = (acc, t, 0) := by rw [overR, if_neg h, if_neg (by rw [hb]; simp)]
theorem over_bad {l : List UInt8} {whole : Bool} {f t : Nat} {acc : List TokL} {op : List (List UInt8)} {root : Bool} (h : t < l.length) {e : Nat} (he : (nextOut l t).2 = e) (h0 : e ≠ 0) : overR l whole (f + 1) acc op root t = ([], t, e) := by
  rw [overR, if_pos h, if_pos (by rw [he]; exact h0), he]
theorem over_no {l : List UInt8} {whole : Bool} {f t : Nat} {acc : List TokL} {op : List (List UInt8)} {root : Bool} {k : TokL} (h : t < l.length) (he : nextOut l t = (k, 0)) (hm : mayS whole op root k = none) : overR l whole (f + 1) acc op root t = ([], t, 7) := by
  rw [overR, if_pos h, if_neg (by rw [he]; simp), he]
  simp only [hm]
theorem over_more {l : List UInt8} {whole : Bool} {f t u : Nat} {acc : List TokL} {op op' : List (List UInt8)} {root root' : Bool} {k : TokL} (h : t < l.length) (he : nextOut l t = (k, 0)) (hm : mayS whole op root k = some (op', root')) (hu : k.to_ = (u : Int)) :
    overR l whole (f + 1) acc op root t = overR l whole f (if leftOut whole op k = true then acc else acc ++ [k]) op' root' u := by
  rw [overR, if_pos h, if_neg (by rw [he]; simp), he]
  simp only [hm, hu, Int.toNat_natCast]
theorem kind_of (l : List UInt8) (k : Nat) (h : (nextOut l k).2 = 0) : 1 ≤ (nextOut l k).1.kind ∧ (nextOut l k).1.kind ≤ 9 := by
  unfold nextOut at h ⊢
  split
  · rename_i h1
    simp only
    unfold readTok at h1 ⊢
    split
    · constructor <;> simp
    · rename_i g; rw [if_neg g] at h1
      split
      · constructor <;> simp
      · rename_i g; rw [if_neg g] at h1
        split
        · constructor <;> simp
        · rename_i g; rw [if_neg g] at h1
          split
          · constructor <;> simp
          · rename_i g; rw [if_neg g] at h1
            split
            · simp only; split <;> constructor <;> simp
            · rename_i g; rw [if_neg g] at h1
              split
              · constructor <;> simp
              · rename_i g; rw [if_neg g] at h1
                split
                · constructor <;> simp
                · rename_i g; rw [if_neg g] at h1
                  unfold textTok at h1 ⊢
                  split
                  · rename_i g; rw [if_pos g] at h1; cases h1
                  · constructor <;> simp
  · rename_i h1; rw [if_neg h1] at h; exact absurd h h1
end Go.Proofs.YtmclngahdklfkaaGreatDoor
/- sweep: the row of names that are open. -/
namespace Go.Proofs.YtmclngahdklfkaaGreatDoor
open Go.ChangeShapes Go.WideShapes Go.ChangeAt Go.RowKit
set_option linter.unusedVariables false
/-- What may turn while the sweeper's row of names turns: the sweeper's block, the row's own, blocks made anew. -/
structure MF (sb : Nat) (W X : World) (sv sv' : Value) : Prop where
  below : Below sb W X
  blk : ∀ k, k < W.heap.size → k ≠ sb → some k ≠ sv.ownBlock → X.heap[k]? = W.heap[k]?
  own : sv'.ownBlock = sv.ownBlock ∨ ∃ g, sv'.ownBlock = some g ∧ W.heap.size ≤ g
theorem MF.ofBelow {sb : Nat} {W X : World} {sv : Value} (hb : Below W.heap.size W X) (hs : sb ≤ W.heap.size) : MF sb W X sv sv := ⟨hb.mono hs, fun k hk _ _ => hb.block k hk, .inl rfl⟩
theorem MF.trans {sb : Nat} {W X Y : World} {a b c : Value} (h1 : MF sb W X a b) (h2 : MF sb X Y b c) : MF sb W Y a c := by
  have hs := h1.below.size
  refine ⟨h1.below.trans h2.below, fun k hk hne hown => ?_, ?_⟩
  · rw [h2.blk k (by omega) hne ?_]
    · exact h1.blk k hk hne hown
    · rcases h1.own with e | ⟨g, e, hg⟩
      · rw [e]; exact hown
      · rw [e]; intro h; cases h; omega
  · rcases h2.own with e | ⟨g, e, hg⟩
    · rw [e]; exact h1.own
    · exact .inr ⟨g, e, by omega⟩
theorem MF.cell {sb i : Nat} {W : World} {a b v : Value} (he : b.ownBlock = a.ownBlock) : MF sb W (W.setCell ⟨sb, i, none⟩ v) a b :=
  ⟨(Below.refl _ _).setCell (p := ⟨sb, i, none⟩) (Nat.le_refl _) v, fun k hk hne _ => hp_other hne, .inl he⟩
theorem MF.keep {sb : Nat} {W X : World} {sv sv' : Value} (h : MF sb W X sv sv') {A : Option Addr} {n cap : Nat} {ps : List PairL} (hp : PRd W W.heap.size A n cap ps) (ho : 0 < cap → ∀ b i, A = some ⟨b, i, none⟩ → b ≠ sb ∧ some b ≠ sv.ownBlock) : PRd X X.heap.size A n cap ps :=
  hp.moveC h.below.size fun h0 b i hA hb => h.blk b hb (ho h0 b i hA).1 (ho h0 b i hA).2
theorem ownS_lt {w : World} {base : Nat} {v : Value} {op : List (List UInt8)} (h : OwnS w base v op) {b : Nat} (hb : v.ownBlock = some b) : b < w.heap.size ∧ base ≤ b := ownBlock_lt h hb
theorem ownS_ne {w : World} {base : Nat} {v : Value} {op : List (List UInt8)} (h : OwnS w base v op) {b : Nat} (hb : b < base) : some b ≠ v.ownBlock := fun e => by
  have := (ownS_lt h e.symm).2
  omega
set_option maxRecDepth 100000 in
set_option maxHeartbeats 4000000 in
theorem push_c (sb base : Nat) (sv : Value) (op : List (List UInt8)) (s : List UInt8) (r : Int) (whole : Bool) (W : World) (hq : W.heap[sb]? = some (.cells #[sv, .int .i64 r, .bool whole] 78)) (ho : OwnS W base sv op) (hsb : sb < base) (hbW : base ≤ W.heap.size) (hop : op.length ≤ 1000000) :
    Calls Tryz.prog 104 #[.pointer (some ⟨sb, 0, none⟩), .string ⟨s.toArray⟩] W fun e w' => e = .returned (.tuple #[]) ∧ ∃ sv', w'.heap[sb]? = some (.cells #[sv', .int .i64 r, .bool whole] 78) ∧ OwnS w' base sv' (op ++ [s]) ∧ MF sb W w' sv sv' := by
  have z0 := cell_of 0 hq
  have hown2 := ho
  unfold OwnS at hown2
  have HQ := Lib.hid hq
  have HO := Lib.hid ho
  have hopn : op.length ≤ 1000000000 := by omega
  have hsW : sb < W.heap.size := by omega
  clear hq ho
  go_enter Tryz.func104, Tryz.ntmps104
  go_wp2_with (at_builtin; refine wpList_appK rfl (.tmp 8) (.tmp 10) 71 9 rfl (.string ⟨#[]⟩) 1 16 Tryz.underlying71 info_str rfl (by decide) base _ op.length (op.map strV) rfl hown2 [strV s] _ rfl rfl rfl (by simp [strV, Value.oneCell']) hopn (by decide) hbW ?_)
  intro v4 w4 hown4 hg4 hat4
  have hs4 := hg4.size
  rw [World.size_alloc] at hs4
  have HO4 := OwnS.of hown4
  obtain ⟨A6, n6, c6, rfl⟩ : ∃ A n c, v4 = .slice A n c := by
    obtain ⟨A6, c6, h6⟩ := HO4.form
    exact ⟨_, _, _, h6⟩
  have hq4 : w4.heap[sb]? = some (.cells #[sv, .int .i64 r, .bool whole] 78) := by
    rw [hg4.block sb (by rw [World.size_alloc]; omega) (ownS_ne HO.out hsb), Below.heap_alloc _ _ _ hsW]
    exact HQ.out
  have x0 := cell_of 0 hq4
  have y0 := free_of 0 hq4
  have hM : MF sb W w4 sv (.slice A6 n6 c6) := by
    refine ⟨(((Below.refl sb W).alloc (Nat.le_of_lt hsW) _).grown hg4 (by rw [World.size_alloc]; omega) fun k hk => ?_), fun k hk hne hown => ?_, ?_⟩
    · have := (ownS_lt HO.out hk).2
      omega
    · rw [hg4.block k (by rw [World.size_alloc]; omega) hown, Below.heap_alloc _ _ _ hk]
    · rcases hat4 with e | e
      · exact .inl e
      · exact .inr ⟨_, e, by omega⟩
  have HF : Hid ((w4.setCell ⟨sb, 0, none⟩ (.slice A6 n6 c6)).heap[sb]? = some (.cells #[.slice A6 n6 c6, .int .i64 r, .bool whole] 78) ∧ OwnS (w4.setCell ⟨sb, 0, none⟩ (.slice A6 n6 c6)) base (.slice A6 n6 c6) (op ++ [s]) ∧ MF sb W (w4.setCell ⟨sb, 0, none⟩ (.slice A6 n6 c6)) sv (.slice A6 n6 c6)) := Lib.hid ⟨hp_set hq4, ownsRow_keep HO4 fun g hg _ => hp_other (by omega), hM.trans (MF.cell rfl)⟩
  clear hown4 hg4 hat4 HO4 hM hq4
  go_wp2
  go_end0
  exact ⟨rfl, _, HF.out.1, HF.out.2.1, HF.out.2.2⟩
set_option maxRecDepth 100000 in
set_option maxHeartbeats 4000000 in
theorem pop_no (sb base : Nat) (sv : Value) (op : List (List UInt8)) (s : List UInt8) (r : Int) (whole : Bool) (W : World) (hq : W.heap[sb]? = some (.cells #[sv, .int .i64 r, .bool whole] 78)) (ho : OwnS W base sv op) (hop : op.length ≤ 1000000) (hn : op.getLast? ≠ some s) :
    Calls Tryz.prog 105 #[.pointer (some ⟨sb, 0, none⟩), .string ⟨s.toArray⟩] W fun e w' => e = .returned (.bool false) ∧ W = w' := by
  have z0 := cell_of 0 hq
  rcases List.eq_nil_or_concat op with rfl | ⟨op2, s2, rfl⟩
  · obtain ⟨A4, c4, rfl⟩ := ho.form
    clear hq ho
    simp only [List.length_nil] at z0
    go_enter Tryz.func105, Tryz.ntmps105
    go_wp2
    go_ret
    exact ⟨rfl, rfl⟩
  · rw [List.concat_eq_append] at *
    obtain ⟨g5, c5, rfl, hc5, hg5, hgl5, hz5, ho5⟩ := ho.last
    have hop2 : op2.length ≤ 1000000 := by rw [List.length_append] at hop; omega
    have hs : s2 ≠ s := by simpa using hn
    have hbn : (s2 == s) = false := by simpa using hs
    have l0 : (0 : Int) ≤ (op2.length : Int) := by omega
    have l1 : (op2.length : Int) < (op2.length : Int) + 1 := by omega
    have l4 : ¬ (op2.length : Int) < 0 := by omega
    have l9 : (op2.length : Int) ≤ 1000000 := by omega
    have l2 : IntKind.i64.wrap (op2.length : Int) = (op2.length : Int) := by rw [IntKind.wrap_i64]; omega
    unfold strV at hz5
    clear hq ho ho5 hop hn hs
    generalize op2.length = m5 at *
    go_enter Tryz.func105, Tryz.ntmps105
    go_wp2
    go_ret
    exact ⟨rfl, rfl⟩
set_option maxRecDepth 100000 in
set_option maxHeartbeats 4000000 in
theorem pop_yes (sb base : Nat) (sv : Value) (op2 : List (List UInt8)) (s : List UInt8) (r : Int) (whole : Bool) (W : World) (hq : W.heap[sb]? = some (.cells #[sv, .int .i64 r, .bool whole] 78)) (ho : OwnS W base sv (op2 ++ [s])) (hsb : sb < base) (hop : op2.length ≤ 1000000) :
    Calls Tryz.prog 105 #[.pointer (some ⟨sb, 0, none⟩), .string ⟨s.toArray⟩] W fun e w' => e = .returned (.bool true) ∧ ∃ sv', w'.heap[sb]? = some (.cells #[sv', .int .i64 r, .bool whole] 78) ∧ OwnS w' base sv' op2 ∧ MF sb W w' sv sv' := by
  have z0 := cell_of 0 hq
  have y0 := free_of 0 hq
  obtain ⟨g5, c5, rfl, hc5, hg5, hgl5, hz5, ho5⟩ := ho.last
  have hbn : (s == s) = true := by simp
  have l0 : (0 : Int) ≤ (op2.length : Int) := by omega
  have l1 : (op2.length : Int) < (op2.length : Int) + 1 := by omega
  have l4 : ¬ (op2.length : Int) < 0 := by omega
  have l9 : (op2.length : Int) ≤ 1000000 := by omega
  have l2 : IntKind.i64.wrap (op2.length : Int) = (op2.length : Int) := by rw [IntKind.wrap_i64]; omega
  have hcut := fun W => run_cutS (w := W) (some ⟨g5, 0, none⟩) (op2.length + 1) c5 op2.length (by omega)
  unfold strV at hz5
  have HF : Hid ((W.setCell ⟨sb, 0, none⟩ (.slice (some ⟨g5, 0, none⟩) op2.length c5)).heap[sb]? = some (.cells #[.slice (some ⟨g5, 0, none⟩) op2.length c5, .int .i64 r, .bool whole] 78) ∧ OwnS (W.setCell ⟨sb, 0, none⟩ (.slice (some ⟨g5, 0, none⟩) op2.length c5)) base (.slice (some ⟨g5, 0, none⟩) op2.length c5) op2 ∧ MF sb W (W.setCell ⟨sb, 0, none⟩ (.slice (some ⟨g5, 0, none⟩) op2.length c5)) (.slice (some ⟨g5, 0, none⟩) (op2.length + 1) c5) (.slice (some ⟨g5, 0, none⟩) op2.length c5)) :=
    Lib.hid ⟨hp_set hq, ownsRow_keep ho5 fun g hg _ => hp_other (by omega), MF.cell rfl⟩
  clear hq ho ho5 hop
  generalize op2.length = m5 at *
  go_enter Tryz.func105, Tryz.ntmps105
  go_wp2
  go_ret
  exact ⟨rfl, _, HF.out.1, HF.out.2.1, HF.out.2.2⟩
end Go.Proofs.YtmclngahdklfkaaGreatDoor
/- sweep.Blank, the sweeper's state. -/
namespace Go.Proofs.YtmclngahdklfkaaGreatDoor
open Go.ChangeShapes Go.WideShapes Go.ChangeAt Go.RowKit
set_option linter.unusedVariables false
theorem blankB_c (s : List UInt8) (W : World) (hs : s.length ≤ 500000) : Calls Tryz.prog 24 #[.string ⟨s.toArray⟩] W fun e w' => e = .returned (.bool (blankB s)) ∧ Below W.heap.size W w' := by
  have cv := run_toBytes W s
  have hb1 := Go.Joins.below_bytesWorld W.heap.size W 5 ⟨s.toArray⟩ (Nat.le_refl _)
  have C1 := Lib.hid (blanks_c _ _ _ _ 0 _ _ (byt_new W s (by omega)) (by omega) (Nat.zero_le _))
  have HB := Lib.hid hb1
  have hE : ((blankTo s 0 : Int) == (s.length : Int)) = blankB s := by
    unfold blankB
    rw [Bool.eq_iff_iff]
    simp
    omega
  have HE := Lib.hid hE
  generalize blankTo s 0 = b at *
  clear hb1 hE
  go_enter Tryz.func24, Tryz.ntmps24
  go_wp2_with fail
  refine C1.out.mono ?_
  rintro e wq ⟨rfl, hwq⟩
  subst hwq
  go_wp2
  go_ret
  exact ⟨by simp [← HE.out], HB.out⟩
/-- The sweeper's state: what is open, how many elements stand outside. -/
structure SwJ (sb base : Nat) (whole : Bool) (W : World) (sv : Value) (op : List (List UInt8)) (root : Bool) : Prop where
  sw : W.heap[sb]? = some (.cells #[sv, .int .i64 (if (whole && root) = true then 1 else 0), .bool whole] 78)
  own : OwnS W base sv op
  lt : sb < base
  le : base ≤ W.heap.size
  inv : whole = true → op ≠ [] → root = true
theorem SwJ.kept {sb base : Nat} {whole : Bool} {W W' : World} {sv : Value} {op : List (List UInt8)} {root : Bool} (h : SwJ sb base whole W sv op root) (hb : Below W.heap.size W W') : SwJ sb base whole W' sv op root :=
  ⟨by rw [hb.block _ (lt_of h.sw)]; exact h.sw, h.own.kept hb, h.lt, Nat.le_trans h.le hb.size, h.inv⟩
/-- What 'may' leaves. -/
def MayPost (sb base : Nat) (whole : Bool) (W : World) (sv : Value) (o : Option (List (List UInt8) × Bool)) (e : Ending) (w' : World) : Prop :=
  match o with
  | some (op', root') => e = .returned (.bool true) ∧ ∃ sv', SwJ sb base whole w' sv' op' root' ∧ MF sb W w' sv sv'
  | none => e = .returned (.bool false) ∧ ∃ sv', MF sb W w' sv sv'
end Go.Proofs.YtmclngahdklfkaaGreatDoor
