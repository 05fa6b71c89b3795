/- Texts of ours, joined: Tok4, Tok4b. -/
import Derived.Test.YtmclngahdklfkaaGreatDoorRows
import Derived.WalkKit
import Derived.ProofKit
import Derived.OpenShut
import Derived.ShutString
import Derived.ChangeOld
import Derived.Below
import Derived.BigQuiet
import Derived.Deep.QuietTactic
import Derived.Lib.Hide
import Derived.Deep.RegionHeld3
import Derived.Lib.SlBytesConst
import Derived.Laws.CopyOwn
import Derived.Laws.CopyRow
import Derived.Lib.Bytes
import Derived.Deep.LoopGhost
import Derived.Deep.DeepFit
import Derived.Deep.DeepMust
import Derived.WalkSpells
import Derived.WalkLawsBesides
import Derived.Maps.OwnOps
import Derived.Maps.OwnSet
import Derived.Maps.Views
import Derived.Laws.EntriesVeiled
import Derived.Laws.Rows
import Derived.Maps.AppendAt
import Derived.Lib.SmallJoins
import Derived.Test.YtmclngahdklfkaaGreatDoorQ1
import Derived.Test.YtmclngahdklfkaaGreatDoorQ7
import Derived.Test.YtmclngahdklfkaaGreatDoorQ3
import Derived.Test.YtmclngahdklfkaaGreatDoorQ2
import Derived.Test.YtmclngahdklfkaaGreatDoorQ5
import Derived.Test.YtmclngahdklfkaaGreatDoorQ6
import Derived.Test.YtmclngahdklfkaaGreatDoorQ8
import Derived.Test.YtmclngahdklfkaaGreatDoorQ9
import Derived.Test.YtmclngahdklfkaaGreatDoorQ10
import Derived.Test.YtmclngahdklfkaaGreatDoorQ11
import Derived.Test.YtmclngahdklfkaaGreatDoorQ12
import Derived.Test.YtmclngahdklfkaaGreatDoorQ13
/- narthexref11.Next, arm by arm. -/
namespace Go.Proofs.YtmclngahdklfkaaGreatDoor
open Go.ChangeShapes Go.WideShapes Go.ChangeAt Go.RowKit
set_option linter.unusedVariables false
/-- While the document's token is read: the result's block, the token's own. -/
structure RN (w W : World) (rs vs : Array Value) : Prop where
  below : Below w.heap.size w W
  size : w.heap.size + 1 < W.heap.size
  res : W.heap[w.heap.size]? = some (.cells rs 30)
  tok : W.heap[w.heap.size + 1]? = some (.cells vs 30)
theorem RN.start (k : Nat) (w : World) : RN w ((w.alloc (.cells #[.int .i64 0, .int .i64 0, .int .i64 0, .string ⟨#[]⟩, .string ⟨#[]⟩, .slice none 0 0, .int .i64 0] 30)).alloc (.cells #[.int .i64 0, .int .i64 (k : Int), .int .i64 0, .string ⟨#[]⟩, .string ⟨#[]⟩, .slice none 0 0, .int .i64 0] 30)) #[.int .i64 0, .int .i64 0, .int .i64 0, .string ⟨#[]⟩, .string ⟨#[]⟩, .slice none 0 0, .int .i64 0] #[.int .i64 0, .int .i64 (k : Int), .int .i64 0, .string ⟨#[]⟩, .string ⟨#[]⟩, .slice none 0 0, .int .i64 0] := by
  have b1 := (Below.refl w.heap.size w).alloc (Nat.le_refl _) (.cells #[.int .i64 0, .int .i64 0, .int .i64 0, .string ⟨#[]⟩, .string ⟨#[]⟩, .slice none 0 0, .int .i64 0] 30)
  refine ⟨b1.alloc (by simp) (.cells #[.int .i64 0, .int .i64 (k : Int), .int .i64 0, .string ⟨#[]⟩, .string ⟨#[]⟩, .slice none 0 0, .int .i64 0] 30), by simp, ?_, ?_⟩
  · rw [Below.heap_alloc _ _ _ (by simp)]; exact hp_new _ _
  · have := hp_new (w.alloc (.cells #[.int .i64 0, .int .i64 0, .int .i64 0, .string ⟨#[]⟩, .string ⟨#[]⟩, .slice none 0 0, .int .i64 0] 30)) (.cells #[.int .i64 0, .int .i64 (k : Int), .int .i64 0, .string ⟨#[]⟩, .string ⟨#[]⟩, .slice none 0 0, .int .i64 0] 30)
    rwa [World.size_alloc] at this
theorem RN.start' (w : World) (vs : Array Value) : RN w ((w.alloc (.cells #[.int .i64 0, .int .i64 0, .int .i64 0, .string ⟨#[]⟩, .string ⟨#[]⟩, .slice none 0 0, .int .i64 0] 30)).alloc (.cells vs 30)) #[.int .i64 0, .int .i64 0, .int .i64 0, .string ⟨#[]⟩, .string ⟨#[]⟩, .slice none 0 0, .int .i64 0] vs := by
  have b1 := (Below.refl w.heap.size w).alloc (Nat.le_refl _) (.cells #[.int .i64 0, .int .i64 0, .int .i64 0, .string ⟨#[]⟩, .string ⟨#[]⟩, .slice none 0 0, .int .i64 0] 30)
  refine ⟨b1.alloc (by simp) (.cells vs 30), by simp, ?_, ?_⟩
  · rw [Below.heap_alloc _ _ _ (by simp)]; exact hp_new _ _
  · have := hp_new (w.alloc (.cells #[.int .i64 0, .int .i64 0, .int .i64 0, .string ⟨#[]⟩, .string ⟨#[]⟩, .slice none 0 0, .int .i64 0] 30)) (.cells vs 30)
    rwa [World.size_alloc] at this
theorem RN.kept {w W W' : World} {rs vs : Array Value} (h : RN w W rs vs) (hb : Below W.heap.size W W') : RN w W' rs vs :=
  ⟨h.below.trans (hb.mono h.below.size), by have := hb.size; have := h.size; omega, by rw [hb.block _ (by have := h.size; omega)]; exact h.res, by rw [hb.block _ h.size]; exact h.tok⟩
theorem RN.set {w W : World} {rs vs : Array Value} (h : RN w W rs vs) (i : Nat) (v : Value) : RN w (W.setCell ⟨w.heap.size + 1, i, none⟩ v) rs (vs.setIfInBounds i v) :=
  ⟨h.below.setCell (p := ⟨w.heap.size + 1, i, none⟩) (Nat.le_succ _) v, by simpa using h.size, by rw [hp_other (by omega)]; exact h.res, hp_set h.tok⟩
theorem RN.row {w W : World} {rs vs : Array Value} (h : RN w W rs vs) (cs : Array Value) : RN w (W.setRow w.heap.size cs) cs vs := by
  refine ⟨⟨h.below.os, h.below.tape, h.below.output, ?_, fun j hj => ?_⟩, ?_, setRow_heap _ _ _ _ _ _ h.res, ?_⟩
  · have := h.below.size; simpa [World.setRow] using this
  · rw [setRow_other _ _ _ _ (by omega)]; exact h.below.block j hj
  · simpa [World.setRow] using h.size
  · rw [setRow_other _ _ _ _ (by omega)]; exact h.tok
theorem RN.drewN {w W : World} {rs vs : Array Value} (h : RN w W rs vs) (q : Nat) : RN w (W.drewN q) rs vs := ⟨below_drewN' h.below, h.size, h.res, h.tok⟩
set_option maxRecDepth 100000 in
set_option maxHeartbeats 8000000 in
theorem refNext_comment (A : Option Addr) (n cap : Nat) (l : List UInt8) (k : Nat) (w : World) (h : Byt w w.heap.size A n cap l) (hm : n ≤ 40000) (hk : k < n) (h0 : [60, 33, 45, 45].isPrefixOf (l.drop k) = true) :
    Calls Tryz.prog 11 #[.slice A n cap, .int .i64 (k : Int)] w fun e w' => TokPost (nextOut l k) w e w' := by
  have hln := h.length
  have HK : Hid (∀ W rs vs, RN w W rs vs → Byt W W.heap.size A n cap l) := Lib.hid fun W rs vs hJ => (h.below hJ.below).more hJ.below.size
  obtain ⟨bb, oo, c, hA, hbB, hc, _⟩ := h.cell hk
  have HC : Hid (∀ W rs vs, RN w W rs vs → W.cell? ⟨bb, oo + k, none⟩ = some (.int .u8 c.toNat)) := Lib.hid fun W rs vs hJ => by
    obtain ⟨b2, o2, c2, e2, _, hc2, hz⟩ := (h.below hJ.below).cell hk
    rw [hA] at e2
    cases e2
    rw [hc] at hc2
    cases hc2
    exact hz
  have c0 : (0 : Int) ≤ (c.toNat : Int) := by omega
  have c9 : (c.toNat : Int) ≤ 255 := by have := c.toNat_lt; omega
  have S0 : Hid (∀ W rs vs, RN w W rs vs → Calls Tryz.prog 30 #[.slice A n cap, .int .i64 (k : Int), .string ⟨#[60, 33, 45, 45]⟩] W fun e w' => e = .returned (.bool true) ∧ W = w') := Lib.hid fun W rs vs hJ => by
    have := refAt8_c A n cap l k [60, 33, 45, 45] W.heap.size W (HK.out W rs vs hJ) (by simp) (by omega) (by decide) (by omega)
    rwa [h0] at this
  have C : Hid (∀ W rs vs, RN w W rs vs → Calls Tryz.prog 31 #[.slice A n cap, .int .i64 (k : Int)] W fun e w' => e = .returned (outV (commentOut l k)) ∧ W = w') := Lib.hid fun W rs vs hJ => by
    have hB := HK.out W rs vs hJ
    have := refCommentAt_c A n cap l k W.heap.size W hB (by omega)
    have he : anyAt commentOut l k = commentOut l k := by
      unfold anyAt
      rw [hln, if_neg (by omega), Int.toNat_natCast]
    rwa [he] at this
  have hR : nextOut l k = (if (readTok l k).2 = 0 then ({ (readTok l k).1 with fro := (k : Int) }, 0) else (noTok, (readTok l k).2)) := rfl
  have hRT : readTok l k = (⟨5, 0, ((commentOut l k).2.1 : Int), [], (commentOut l k).1, [], 0⟩, (commentOut l k).2.2) := by
    unfold readTok
    rw [if_pos h0]
  rw [hR, hRT]
  clear hR hRT
  generalize commentOut l k = o at *
  obtain ⟨s, t, e⟩ := o
  unfold outV at C
  simp only at C ⊢
  have J0 := Lib.hid (RN.start k w)
  have hi : (Tryz.prog.info? 30).map (·.size) = some 7 := by kernel_rfl
  obtain ⟨sd, hu⟩ := isStruct_of (P := Tryz.prog) (t := 30) (by kernel_rfl)
  have HU := Lib.hid (And.intro hi hu)
  have hk0 : ¬ (k : Int) < 0 := by omega
  have hk1 : ¬ (n : Int) < (k : Int) := by omega
  have hk2 : ((k : Int) == (n : Int)) = false := by simp; omega
  have hk3 : (k : Int) < (n : Int) := by omega
  have hk4 : (k : Int) ≤ 40000 := by omega
  clear h hln HK hi hu hbB hc h0
  subst hA
  by_cases he : e = 0
  · subst he
    rw [if_pos rfl]
    have KF : Hid (RN w ((w.alloc (.cells #[.int .i64 0, .int .i64 0, .int .i64 0, .string ⟨#[]⟩, .string ⟨#[]⟩, .slice none 0 0, .int .i64 0] 30)).alloc (.cells #[.int .i64 5, .int .i64 (k : Int), .int .i64 (t : Int), .string ⟨#[]⟩, .string ⟨s.toArray⟩, .slice none 0 0, .int .i64 0] 30)) #[.int .i64 0, .int .i64 0, .int .i64 0, .string ⟨#[]⟩, .string ⟨#[]⟩, .slice none 0 0, .int .i64 0] #[.int .i64 5, .int .i64 (k : Int), .int .i64 (t : Int), .string ⟨#[]⟩, .string ⟨s.toArray⟩, .slice none 0 0, .int .i64 0]) := Lib.hid (RN.start' w #[.int .i64 5, .int .i64 (k : Int), .int .i64 (t : Int), .string ⟨#[]⟩, .string ⟨s.toArray⟩, .slice none 0 0, .int .i64 0])
    have JA : Hid (RN w ((w.alloc (.cells #[.int .i64 0, .int .i64 0, .int .i64 0, .string ⟨#[]⟩, .string ⟨#[]⟩, .slice none 0 0, .int .i64 0] 30)).alloc (.cells #[.int .i64 5, .int .i64 (k : Int), .int .i64 0, .string ⟨#[]⟩, .string ⟨#[]⟩, .slice none 0 0, .int .i64 0] 30)) #[.int .i64 0, .int .i64 0, .int .i64 0, .string ⟨#[]⟩, .string ⟨#[]⟩, .slice none 0 0, .int .i64 0] #[.int .i64 5, .int .i64 (k : Int), .int .i64 0, .string ⟨#[]⟩, .string ⟨#[]⟩, .slice none 0 0, .int .i64 0]) := Lib.hid (RN.start' w #[.int .i64 5, .int .i64 (k : Int), .int .i64 0, .string ⟨#[]⟩, .string ⟨#[]⟩, .slice none 0 0, .int .i64 0])
    go_enter Tryz.func11, Tryz.ntmps11
    have zc := HC.out _ _ _ J0.out
    go_wp2_with fail
    refine (S0.out _ _ _ J0.out).mono ?_
    rintro e wq ⟨rfl, rfl⟩
    go_wp2_with fail
    refine (C.out _ _ _ JA.out).mono ?_
    rintro e0 wq ⟨rfl, hwq⟩
    subst hwq
    clear zc
    have JF := Lib.hid (KF.out.row #[.int .i64 5, .int .i64 (k : Int), .int .i64 (t : Int), .string ⟨#[]⟩, .string ⟨s.toArray⟩, .slice none 0 0, .int .i64 0])
    go_wp2_with (first | (refine wpList_load_row rfl _ _ rfl (w.heap.size + 1) rfl _ _ _ _ KF.out.tok HU.out.2 rfl HU.out.1 ?_) | (refine wpList_store_row rfl _ _ _ rfl w.heap.size #[.int .i64 5, .int .i64 (k : Int), .int .i64 (t : Int), .string ⟨#[]⟩, .string ⟨s.toArray⟩, .slice none 0 0, .int .i64 0] rfl rfl _ _ KF.out.res (by kernel_rfl) rfl (by kernel_rfl) ?_))
    (try simp only [Exit.inBlock, Exit.then])
    exact bodyPost_ret (results_cell2 rfl _ _ w.heap.size _ _ _ _ rfl JF.out.res HU.out.2 rfl HU.out.1) rfl (TokPost.of none 0 0 rfl (PRd.nilR _ _) JF.out.below fun b i h => by cases h)
  · rw [if_neg he]
    have hei : ((e : Int) == 0) = false := by simp; omega
    have KF : Hid (RN w ((w.alloc (.cells #[.int .i64 0, .int .i64 0, .int .i64 0, .string ⟨#[]⟩, .string ⟨#[]⟩, .slice none 0 0, .int .i64 0] 30)).alloc (.cells #[.int .i64 5, .int .i64 (k : Int), .int .i64 (t : Int), .string ⟨#[]⟩, .string ⟨s.toArray⟩, .slice none 0 0, .int .i64 0] 30)) #[.int .i64 0, .int .i64 0, .int .i64 0, .string ⟨#[]⟩, .string ⟨#[]⟩, .slice none 0 0, .int .i64 0] #[.int .i64 5, .int .i64 (k : Int), .int .i64 (t : Int), .string ⟨#[]⟩, .string ⟨s.toArray⟩, .slice none 0 0, .int .i64 0]) := Lib.hid (RN.start' w #[.int .i64 5, .int .i64 (k : Int), .int .i64 (t : Int), .string ⟨#[]⟩, .string ⟨s.toArray⟩, .slice none 0 0, .int .i64 0])
    have JA : Hid (RN w ((w.alloc (.cells #[.int .i64 0, .int .i64 0, .int .i64 0, .string ⟨#[]⟩, .string ⟨#[]⟩, .slice none 0 0, .int .i64 0] 30)).alloc (.cells #[.int .i64 5, .int .i64 (k : Int), .int .i64 0, .string ⟨#[]⟩, .string ⟨#[]⟩, .slice none 0 0, .int .i64 0] 30)) #[.int .i64 0, .int .i64 0, .int .i64 0, .string ⟨#[]⟩, .string ⟨#[]⟩, .slice none 0 0, .int .i64 0] #[.int .i64 5, .int .i64 (k : Int), .int .i64 0, .string ⟨#[]⟩, .string ⟨#[]⟩, .slice none 0 0, .int .i64 0]) := Lib.hid (RN.start' w #[.int .i64 5, .int .i64 (k : Int), .int .i64 0, .string ⟨#[]⟩, .string ⟨#[]⟩, .slice none 0 0, .int .i64 0])
    go_enter Tryz.func11, Tryz.ntmps11
    have zc := HC.out _ _ _ J0.out
    go_wp2_with fail
    refine (S0.out _ _ _ J0.out).mono ?_
    rintro e wq ⟨rfl, rfl⟩
    go_wp2_with fail
    refine (C.out _ _ _ JA.out).mono ?_
    rintro e0 wq ⟨rfl, hwq⟩
    subst hwq
    clear zc
    have JF := Lib.hid (KF.out.row #[.int .i64 0, .int .i64 0, .int .i64 0, .string ⟨#[]⟩, .string ⟨#[]⟩, .slice none 0 0, .int .i64 0])
    go_wp2_with (refine wpList_store_row rfl _ _ _ rfl w.heap.size #[.int .i64 0, .int .i64 0, .int .i64 0, .string ⟨#[]⟩, .string ⟨#[]⟩, .slice none 0 0, .int .i64 0] rfl rfl _ _ KF.out.res (by kernel_rfl) rfl (by kernel_rfl) ?_)
    (try simp only [Exit.inBlock, Exit.then])
    exact bodyPost_ret (results_cell2 rfl _ _ w.heap.size _ _ _ _ rfl JF.out.res HU.out.2 rfl HU.out.1) rfl (TokPost.no rfl JF.out.below)
set_option maxRecDepth 100000 in
set_option maxHeartbeats 8000000 in
theorem refNext_cdata (A : Option Addr) (n cap : Nat) (l : List UInt8) (k : Nat) (w : World) (h : Byt w w.heap.size A n cap l) (hm : n ≤ 40000) (hk : k < n) (h0 : [60, 33, 45, 45].isPrefixOf (l.drop k) = false) (h1 : [60, 33, 91, 67, 68, 65, 84, 65, 91].isPrefixOf (l.drop k) = true) :
    Calls Tryz.prog 11 #[.slice A n cap, .int .i64 (k : Int)] w fun e w' => TokPost (nextOut l k) w e w' := by
  have hln := h.length
  have HK : Hid (∀ W rs vs, RN w W rs vs → Byt W W.heap.size A n cap l) := Lib.hid fun W rs vs hJ => (h.below hJ.below).more hJ.below.size
  obtain ⟨bb, oo, c, hA, hbB, hc, _⟩ := h.cell hk
  have HC : Hid (∀ W rs vs, RN w W rs vs → W.cell? ⟨bb, oo + k, none⟩ = some (.int .u8 c.toNat)) := Lib.hid fun W rs vs hJ => by
    obtain ⟨b2, o2, c2, e2, _, hc2, hz⟩ := (h.below hJ.below).cell hk
    rw [hA] at e2
    cases e2
    rw [hc] at hc2
    cases hc2
    exact hz
  have c0 : (0 : Int) ≤ (c.toNat : Int) := by omega
  have c9 : (c.toNat : Int) ≤ 255 := by have := c.toNat_lt; omega
  have S0 : Hid (∀ W rs vs, RN w W rs vs → Calls Tryz.prog 30 #[.slice A n cap, .int .i64 (k : Int), .string ⟨#[60, 33, 45, 45]⟩] W fun e w' => e = .returned (.bool false) ∧ W = w') := Lib.hid fun W rs vs hJ => by
    have := refAt8_c A n cap l k [60, 33, 45, 45] W.heap.size W (HK.out W rs vs hJ) (by simp) (by omega) (by decide) (by omega)
    rwa [h0] at this
  have S1 : Hid (∀ W rs vs, RN w W rs vs → Calls Tryz.prog 30 #[.slice A n cap, .int .i64 (k : Int), .string ⟨#[60, 33, 91, 67, 68, 65, 84, 65, 91]⟩] W fun e w' => e = .returned (.bool true) ∧ W = w') := Lib.hid fun W rs vs hJ => by
    have := refAt8_c A n cap l k [60, 33, 91, 67, 68, 65, 84, 65, 91] W.heap.size W (HK.out W rs vs hJ) (by simp) (by omega) (by decide) (by omega)
    rwa [h1] at this
  have C : Hid (∀ W rs vs, RN w W rs vs → Calls Tryz.prog 32 #[.slice A n cap, .int .i64 (k : Int)] W fun e w' => e = .returned (outV (cdataOut l k)) ∧ W = w') := Lib.hid fun W rs vs hJ => by
    have hB := HK.out W rs vs hJ
    have := refCDataAt_c A n cap l k W.heap.size W hB (by omega)
    have he : anyAt cdataOut l k = cdataOut l k := by
      unfold anyAt
      rw [hln, if_neg (by omega), Int.toNat_natCast]
    rwa [he] at this
  have hR : nextOut l k = (if (readTok l k).2 = 0 then ({ (readTok l k).1 with fro := (k : Int) }, 0) else (noTok, (readTok l k).2)) := rfl
  have hRT : readTok l k = (⟨4, 0, ((cdataOut l k).2.1 : Int), [], (cdataOut l k).1, [], 0⟩, (cdataOut l k).2.2) := by
    unfold readTok
    rw [if_neg (by rw [h0]; simp), if_pos h1]
  rw [hR, hRT]
  clear hR hRT
  generalize cdataOut l k = o at *
  obtain ⟨s, t, e⟩ := o
  unfold outV at C
  simp only at C ⊢
  have J0 := Lib.hid (RN.start k w)
  have hi : (Tryz.prog.info? 30).map (·.size) = some 7 := by kernel_rfl
  obtain ⟨sd, hu⟩ := isStruct_of (P := Tryz.prog) (t := 30) (by kernel_rfl)
  have HU := Lib.hid (And.intro hi hu)
  have hk0 : ¬ (k : Int) < 0 := by omega
  have hk1 : ¬ (n : Int) < (k : Int) := by omega
  have hk2 : ((k : Int) == (n : Int)) = false := by simp; omega
  have hk3 : (k : Int) < (n : Int) := by omega
  have hk4 : (k : Int) ≤ 40000 := by omega
  clear h hln HK hi hu hbB hc h0 h1
  subst hA
  by_cases he : e = 0
  · subst he
    rw [if_pos rfl]
    have KF : Hid (RN w ((w.alloc (.cells #[.int .i64 0, .int .i64 0, .int .i64 0, .string ⟨#[]⟩, .string ⟨#[]⟩, .slice none 0 0, .int .i64 0] 30)).alloc (.cells #[.int .i64 4, .int .i64 (k : Int), .int .i64 (t : Int), .string ⟨#[]⟩, .string ⟨s.toArray⟩, .slice none 0 0, .int .i64 0] 30)) #[.int .i64 0, .int .i64 0, .int .i64 0, .string ⟨#[]⟩, .string ⟨#[]⟩, .slice none 0 0, .int .i64 0] #[.int .i64 4, .int .i64 (k : Int), .int .i64 (t : Int), .string ⟨#[]⟩, .string ⟨s.toArray⟩, .slice none 0 0, .int .i64 0]) := Lib.hid (RN.start' w #[.int .i64 4, .int .i64 (k : Int), .int .i64 (t : Int), .string ⟨#[]⟩, .string ⟨s.toArray⟩, .slice none 0 0, .int .i64 0])
    have JA : Hid (RN w ((w.alloc (.cells #[.int .i64 0, .int .i64 0, .int .i64 0, .string ⟨#[]⟩, .string ⟨#[]⟩, .slice none 0 0, .int .i64 0] 30)).alloc (.cells #[.int .i64 4, .int .i64 (k : Int), .int .i64 0, .string ⟨#[]⟩, .string ⟨#[]⟩, .slice none 0 0, .int .i64 0] 30)) #[.int .i64 0, .int .i64 0, .int .i64 0, .string ⟨#[]⟩, .string ⟨#[]⟩, .slice none 0 0, .int .i64 0] #[.int .i64 4, .int .i64 (k : Int), .int .i64 0, .string ⟨#[]⟩, .string ⟨#[]⟩, .slice none 0 0, .int .i64 0]) := Lib.hid (RN.start' w #[.int .i64 4, .int .i64 (k : Int), .int .i64 0, .string ⟨#[]⟩, .string ⟨#[]⟩, .slice none 0 0, .int .i64 0])
    go_enter Tryz.func11, Tryz.ntmps11
    have zc := HC.out _ _ _ J0.out
    go_wp2_with fail
    refine (S0.out _ _ _ J0.out).mono ?_
    rintro e wq ⟨rfl, rfl⟩
    go_wp2_with fail
    refine (S1.out _ _ _ J0.out).mono ?_
    rintro e wq ⟨rfl, rfl⟩
    go_wp2_with fail
    refine (C.out _ _ _ JA.out).mono ?_
    rintro e0 wq ⟨rfl, hwq⟩
    subst hwq
    clear zc
    have JF := Lib.hid (KF.out.row #[.int .i64 4, .int .i64 (k : Int), .int .i64 (t : Int), .string ⟨#[]⟩, .string ⟨s.toArray⟩, .slice none 0 0, .int .i64 0])
    go_wp2_with (first | (refine wpList_load_row rfl _ _ rfl (w.heap.size + 1) rfl _ _ _ _ KF.out.tok HU.out.2 rfl HU.out.1 ?_) | (refine wpList_store_row rfl _ _ _ rfl w.heap.size #[.int .i64 4, .int .i64 (k : Int), .int .i64 (t : Int), .string ⟨#[]⟩, .string ⟨s.toArray⟩, .slice none 0 0, .int .i64 0] rfl rfl _ _ KF.out.res (by kernel_rfl) rfl (by kernel_rfl) ?_))
    (try simp only [Exit.inBlock, Exit.then])
    exact bodyPost_ret (results_cell2 rfl _ _ w.heap.size _ _ _ _ rfl JF.out.res HU.out.2 rfl HU.out.1) rfl (TokPost.of none 0 0 rfl (PRd.nilR _ _) JF.out.below fun b i h => by cases h)
  · rw [if_neg he]
    have hei : ((e : Int) == 0) = false := by simp; omega
    have KF : Hid (RN w ((w.alloc (.cells #[.int .i64 0, .int .i64 0, .int .i64 0, .string ⟨#[]⟩, .string ⟨#[]⟩, .slice none 0 0, .int .i64 0] 30)).alloc (.cells #[.int .i64 4, .int .i64 (k : Int), .int .i64 (t : Int), .string ⟨#[]⟩, .string ⟨s.toArray⟩, .slice none 0 0, .int .i64 0] 30)) #[.int .i64 0, .int .i64 0, .int .i64 0, .string ⟨#[]⟩, .string ⟨#[]⟩, .slice none 0 0, .int .i64 0] #[.int .i64 4, .int .i64 (k : Int), .int .i64 (t : Int), .string ⟨#[]⟩, .string ⟨s.toArray⟩, .slice none 0 0, .int .i64 0]) := Lib.hid (RN.start' w #[.int .i64 4, .int .i64 (k : Int), .int .i64 (t : Int), .string ⟨#[]⟩, .string ⟨s.toArray⟩, .slice none 0 0, .int .i64 0])
    have JA : Hid (RN w ((w.alloc (.cells #[.int .i64 0, .int .i64 0, .int .i64 0, .string ⟨#[]⟩, .string ⟨#[]⟩, .slice none 0 0, .int .i64 0] 30)).alloc (.cells #[.int .i64 4, .int .i64 (k : Int), .int .i64 0, .string ⟨#[]⟩, .string ⟨#[]⟩, .slice none 0 0, .int .i64 0] 30)) #[.int .i64 0, .int .i64 0, .int .i64 0, .string ⟨#[]⟩, .string ⟨#[]⟩, .slice none 0 0, .int .i64 0] #[.int .i64 4, .int .i64 (k : Int), .int .i64 0, .string ⟨#[]⟩, .string ⟨#[]⟩, .slice none 0 0, .int .i64 0]) := Lib.hid (RN.start' w #[.int .i64 4, .int .i64 (k : Int), .int .i64 0, .string ⟨#[]⟩, .string ⟨#[]⟩, .slice none 0 0, .int .i64 0])
    go_enter Tryz.func11, Tryz.ntmps11
    have zc := HC.out _ _ _ J0.out
    go_wp2_with fail
    refine (S0.out _ _ _ J0.out).mono ?_
    rintro e wq ⟨rfl, rfl⟩
    go_wp2_with fail
    refine (S1.out _ _ _ J0.out).mono ?_
    rintro e wq ⟨rfl, rfl⟩
    go_wp2_with fail
    refine (C.out _ _ _ JA.out).mono ?_
    rintro e0 wq ⟨rfl, hwq⟩
    subst hwq
    clear zc
    have JF := Lib.hid (KF.out.row #[.int .i64 0, .int .i64 0, .int .i64 0, .string ⟨#[]⟩, .string ⟨#[]⟩, .slice none 0 0, .int .i64 0])
    go_wp2_with (refine wpList_store_row rfl _ _ _ rfl w.heap.size #[.int .i64 0, .int .i64 0, .int .i64 0, .string ⟨#[]⟩, .string ⟨#[]⟩, .slice none 0 0, .int .i64 0] rfl rfl _ _ KF.out.res (by kernel_rfl) rfl (by kernel_rfl) ?_)
    (try simp only [Exit.inBlock, Exit.then])
    exact bodyPost_ret (results_cell2 rfl _ _ w.heap.size _ _ _ _ rfl JF.out.res HU.out.2 rfl HU.out.1) rfl (TokPost.no rfl JF.out.below)
set_option maxRecDepth 100000 in
set_option maxHeartbeats 8000000 in
theorem refNext_pi (A : Option Addr) (n cap : Nat) (l : List UInt8) (k : Nat) (w : World) (h : Byt w w.heap.size A n cap l) (hm : n ≤ 40000) (hk : k < n) (h0 : [60, 33, 45, 45].isPrefixOf (l.drop k) = false) (h1 : [60, 33, 91, 67, 68, 65, 84, 65, 91].isPrefixOf (l.drop k) = false) (h2 : [60, 63].isPrefixOf (l.drop k) = true) :
    Calls Tryz.prog 11 #[.slice A n cap, .int .i64 (k : Int)] w fun e w' => TokPost (nextOut l k) w e w' := by
  have hln := h.length
  have HK : Hid (∀ W rs vs, RN w W rs vs → Byt W W.heap.size A n cap l) := Lib.hid fun W rs vs hJ => (h.below hJ.below).more hJ.below.size
  obtain ⟨bb, oo, c, hA, hbB, hc, _⟩ := h.cell hk
  have HC : Hid (∀ W rs vs, RN w W rs vs → W.cell? ⟨bb, oo + k, none⟩ = some (.int .u8 c.toNat)) := Lib.hid fun W rs vs hJ => by
    obtain ⟨b2, o2, c2, e2, _, hc2, hz⟩ := (h.below hJ.below).cell hk
    rw [hA] at e2
    cases e2
    rw [hc] at hc2
    cases hc2
    exact hz
  have c0 : (0 : Int) ≤ (c.toNat : Int) := by omega
  have c9 : (c.toNat : Int) ≤ 255 := by have := c.toNat_lt; omega
  have S0 : Hid (∀ W rs vs, RN w W rs vs → Calls Tryz.prog 30 #[.slice A n cap, .int .i64 (k : Int), .string ⟨#[60, 33, 45, 45]⟩] W fun e w' => e = .returned (.bool false) ∧ W = w') := Lib.hid fun W rs vs hJ => by
    have := refAt8_c A n cap l k [60, 33, 45, 45] W.heap.size W (HK.out W rs vs hJ) (by simp) (by omega) (by decide) (by omega)
    rwa [h0] at this
  have S1 : Hid (∀ W rs vs, RN w W rs vs → Calls Tryz.prog 30 #[.slice A n cap, .int .i64 (k : Int), .string ⟨#[60, 33, 91, 67, 68, 65, 84, 65, 91]⟩] W fun e w' => e = .returned (.bool false) ∧ W = w') := Lib.hid fun W rs vs hJ => by
    have := refAt8_c A n cap l k [60, 33, 91, 67, 68, 65, 84, 65, 91] W.heap.size W (HK.out W rs vs hJ) (by simp) (by omega) (by decide) (by omega)
    rwa [h1] at this
  have S2 : Hid (∀ W rs vs, RN w W rs vs → Calls Tryz.prog 30 #[.slice A n cap, .int .i64 (k : Int), .string ⟨#[60, 63]⟩] W fun e w' => e = .returned (.bool true) ∧ W = w') := Lib.hid fun W rs vs hJ => by
    have := refAt8_c A n cap l k [60, 63] W.heap.size W (HK.out W rs vs hJ) (by simp) (by omega) (by decide) (by omega)
    rwa [h2] at this
  have C : Hid (∀ W rs vs, RN w W rs vs → Calls Tryz.prog 33 #[.slice A n cap, .int .i64 (k : Int)] W fun e w' => e = .returned (out4V (piOut l k)) ∧ Below W.heap.size W w') := Lib.hid fun W rs vs hJ => by
    have hB := HK.out W rs vs hJ
    have := refPiAt_c A n cap l k W hB (by omega)
    have he : piAt l k = piOut l k := by
      unfold piAt
      rw [hln, if_neg (by omega), Int.toNat_natCast]
    rwa [he] at this
  have hR : nextOut l k = (if (readTok l k).2 = 0 then ({ (readTok l k).1 with fro := (k : Int) }, 0) else (noTok, (readTok l k).2)) := rfl
  have hRT : readTok l k = (⟨6, 0, ((piOut l k).2.2.1 : Int), (piOut l k).1, (piOut l k).2.1, [], 0⟩, (piOut l k).2.2.2) := by
    unfold readTok
    rw [if_neg (by rw [h0]; simp), if_neg (by rw [h1]; simp), if_pos h2]
  rw [hR, hRT]
  clear hR hRT
  generalize piOut l k = o at *
  obtain ⟨s, d, t, e⟩ := o
  unfold out4V at C
  simp only at C ⊢
  have J0 := Lib.hid (RN.start k w)
  have hi : (Tryz.prog.info? 30).map (·.size) = some 7 := by kernel_rfl
  obtain ⟨sd, hu⟩ := isStruct_of (P := Tryz.prog) (t := 30) (by kernel_rfl)
  have HU := Lib.hid (And.intro hi hu)
  have hk0 : ¬ (k : Int) < 0 := by omega
  have hk1 : ¬ (n : Int) < (k : Int) := by omega
  have hk2 : ((k : Int) == (n : Int)) = false := by simp; omega
  have hk3 : (k : Int) < (n : Int) := by omega
  have hk4 : (k : Int) ≤ 40000 := by omega
  clear h hln HK hi hu hbB hc h0 h1 h2
  subst hA
  by_cases he : e = 0
  · subst he
    rw [if_pos rfl]
    have JA : Hid (RN w ((w.alloc (.cells #[.int .i64 0, .int .i64 0, .int .i64 0, .string ⟨#[]⟩, .string ⟨#[]⟩, .slice none 0 0, .int .i64 0] 30)).alloc (.cells #[.int .i64 6, .int .i64 (k : Int), .int .i64 0, .string ⟨#[]⟩, .string ⟨#[]⟩, .slice none 0 0, .int .i64 0] 30)) #[.int .i64 0, .int .i64 0, .int .i64 0, .string ⟨#[]⟩, .string ⟨#[]⟩, .slice none 0 0, .int .i64 0] #[.int .i64 6, .int .i64 (k : Int), .int .i64 0, .string ⟨#[]⟩, .string ⟨#[]⟩, .slice none 0 0, .int .i64 0]) := Lib.hid (RN.start' w #[.int .i64 6, .int .i64 (k : Int), .int .i64 0, .string ⟨#[]⟩, .string ⟨#[]⟩, .slice none 0 0, .int .i64 0])
    go_enter Tryz.func11, Tryz.ntmps11
    have zc := HC.out _ _ _ J0.out
    go_wp2_with fail
    refine (S0.out _ _ _ J0.out).mono ?_
    rintro e wq ⟨rfl, rfl⟩
    go_wp2_with fail
    refine (S1.out _ _ _ J0.out).mono ?_
    rintro e wq ⟨rfl, rfl⟩
    go_wp2_with fail
    refine (S2.out _ _ _ J0.out).mono ?_
    rintro e wq ⟨rfl, rfl⟩
    go_wp2_with fail
    refine (C.out _ _ _ JA.out).mono ?_
    rintro e0 u0 ⟨rfl, hb⟩
    have K0 := Lib.hid (JA.out.kept hb)
    clear hb zc
    have z1 := cell_of 3 K0.out.tok
    have y1 := free_of 3 K0.out.tok
    have K1 : Hid (RN w (u0.setCell ⟨w.heap.size + 1, 3, none⟩ (.string ⟨s.toArray⟩)) #[.int .i64 0, .int .i64 0, .int .i64 0, .string ⟨#[]⟩, .string ⟨#[]⟩, .slice none 0 0, .int .i64 0] #[.int .i64 6, .int .i64 (k : Int), .int .i64 0, .string ⟨s.toArray⟩, .string ⟨#[]⟩, .slice none 0 0, .int .i64 0]) := Lib.hid (K0.out.set 3 (.string ⟨s.toArray⟩))
    have z2 := cell_of 4 K1.out.tok
    have y2 := free_of 4 K1.out.tok
    have K2 : Hid (RN w ((u0.setCell ⟨w.heap.size + 1, 3, none⟩ (.string ⟨s.toArray⟩)).setCell ⟨w.heap.size + 1, 4, none⟩ (.string ⟨d.toArray⟩)) #[.int .i64 0, .int .i64 0, .int .i64 0, .string ⟨#[]⟩, .string ⟨#[]⟩, .slice none 0 0, .int .i64 0] #[.int .i64 6, .int .i64 (k : Int), .int .i64 0, .string ⟨s.toArray⟩, .string ⟨d.toArray⟩, .slice none 0 0, .int .i64 0]) := Lib.hid (K1.out.set 4 (.string ⟨d.toArray⟩))
    have z3 := cell_of 2 K2.out.tok
    have y3 := free_of 2 K2.out.tok
    have K3 : Hid (RN w (((u0.setCell ⟨w.heap.size + 1, 3, none⟩ (.string ⟨s.toArray⟩)).setCell ⟨w.heap.size + 1, 4, none⟩ (.string ⟨d.toArray⟩)).setCell ⟨w.heap.size + 1, 2, none⟩ (.int .i64 (t : Int))) #[.int .i64 0, .int .i64 0, .int .i64 0, .string ⟨#[]⟩, .string ⟨#[]⟩, .slice none 0 0, .int .i64 0] #[.int .i64 6, .int .i64 (k : Int), .int .i64 (t : Int), .string ⟨s.toArray⟩, .string ⟨d.toArray⟩, .slice none 0 0, .int .i64 0]) := Lib.hid (K2.out.set 2 (.int .i64 (t : Int)))
    have JF := Lib.hid (K3.out.row #[.int .i64 6, .int .i64 (k : Int), .int .i64 (t : Int), .string ⟨s.toArray⟩, .string ⟨d.toArray⟩, .slice none 0 0, .int .i64 0])
    go_wp2_with (first | (refine wpList_load_row rfl _ _ rfl (w.heap.size + 1) rfl _ _ _ _ K3.out.tok HU.out.2 rfl HU.out.1 ?_) | (refine wpList_store_row rfl _ _ _ rfl w.heap.size #[.int .i64 6, .int .i64 (k : Int), .int .i64 (t : Int), .string ⟨s.toArray⟩, .string ⟨d.toArray⟩, .slice none 0 0, .int .i64 0] rfl rfl _ _ K3.out.res (by kernel_rfl) rfl (by kernel_rfl) ?_))
    (try simp only [Exit.inBlock, Exit.then])
    exact bodyPost_ret (results_cell2 rfl _ _ w.heap.size _ _ _ _ rfl JF.out.res HU.out.2 rfl HU.out.1) rfl (TokPost.of none 0 0 rfl (PRd.nilR _ _) JF.out.below fun b i h => by cases h)
  · rw [if_neg he]
    have hei : ((e : Int) == 0) = false := by simp; omega
    have JA : Hid (RN w ((w.alloc (.cells #[.int .i64 0, .int .i64 0, .int .i64 0, .string ⟨#[]⟩, .string ⟨#[]⟩, .slice none 0 0, .int .i64 0] 30)).alloc (.cells #[.int .i64 6, .int .i64 (k : Int), .int .i64 0, .string ⟨#[]⟩, .string ⟨#[]⟩, .slice none 0 0, .int .i64 0] 30)) #[.int .i64 0, .int .i64 0, .int .i64 0, .string ⟨#[]⟩, .string ⟨#[]⟩, .slice none 0 0, .int .i64 0] #[.int .i64 6, .int .i64 (k : Int), .int .i64 0, .string ⟨#[]⟩, .string ⟨#[]⟩, .slice none 0 0, .int .i64 0]) := Lib.hid (RN.start' w #[.int .i64 6, .int .i64 (k : Int), .int .i64 0, .string ⟨#[]⟩, .string ⟨#[]⟩, .slice none 0 0, .int .i64 0])
    go_enter Tryz.func11, Tryz.ntmps11
    have zc := HC.out _ _ _ J0.out
    go_wp2_with fail
    refine (S0.out _ _ _ J0.out).mono ?_
    rintro e wq ⟨rfl, rfl⟩
    go_wp2_with fail
    refine (S1.out _ _ _ J0.out).mono ?_
    rintro e wq ⟨rfl, rfl⟩
    go_wp2_with fail
    refine (S2.out _ _ _ J0.out).mono ?_
    rintro e wq ⟨rfl, rfl⟩
    go_wp2_with fail
    refine (C.out _ _ _ JA.out).mono ?_
    rintro e0 u0 ⟨rfl, hb⟩
    have K0 := Lib.hid (JA.out.kept hb)
    clear hb zc
    have z1 := cell_of 3 K0.out.tok
    have y1 := free_of 3 K0.out.tok
    have K1 : Hid (RN w (u0.setCell ⟨w.heap.size + 1, 3, none⟩ (.string ⟨s.toArray⟩)) #[.int .i64 0, .int .i64 0, .int .i64 0, .string ⟨#[]⟩, .string ⟨#[]⟩, .slice none 0 0, .int .i64 0] #[.int .i64 6, .int .i64 (k : Int), .int .i64 0, .string ⟨s.toArray⟩, .string ⟨#[]⟩, .slice none 0 0, .int .i64 0]) := Lib.hid (K0.out.set 3 (.string ⟨s.toArray⟩))
    have z2 := cell_of 4 K1.out.tok
    have y2 := free_of 4 K1.out.tok
    have K2 : Hid (RN w ((u0.setCell ⟨w.heap.size + 1, 3, none⟩ (.string ⟨s.toArray⟩)).setCell ⟨w.heap.size + 1, 4, none⟩ (.string ⟨d.toArray⟩)) #[.int .i64 0, .int .i64 0, .int .i64 0, .string ⟨#[]⟩, .string ⟨#[]⟩, .slice none 0 0, .int .i64 0] #[.int .i64 6, .int .i64 (k : Int), .int .i64 0, .string ⟨s.toArray⟩, .string ⟨d.toArray⟩, .slice none 0 0, .int .i64 0]) := Lib.hid (K1.out.set 4 (.string ⟨d.toArray⟩))
    have z3 := cell_of 2 K2.out.tok
    have y3 := free_of 2 K2.out.tok
    have K3 : Hid (RN w (((u0.setCell ⟨w.heap.size + 1, 3, none⟩ (.string ⟨s.toArray⟩)).setCell ⟨w.heap.size + 1, 4, none⟩ (.string ⟨d.toArray⟩)).setCell ⟨w.heap.size + 1, 2, none⟩ (.int .i64 (t : Int))) #[.int .i64 0, .int .i64 0, .int .i64 0, .string ⟨#[]⟩, .string ⟨#[]⟩, .slice none 0 0, .int .i64 0] #[.int .i64 6, .int .i64 (k : Int), .int .i64 (t : Int), .string ⟨s.toArray⟩, .string ⟨d.toArray⟩, .slice none 0 0, .int .i64 0]) := Lib.hid (K2.out.set 2 (.int .i64 (t : Int)))
    have JF := Lib.hid (K3.out.row #[.int .i64 0, .int .i64 0, .int .i64 0, .string ⟨#[]⟩, .string ⟨#[]⟩, .slice none 0 0, .int .i64 0])
    go_wp2_with (refine wpList_store_row rfl _ _ _ rfl w.heap.size #[.int .i64 0, .int .i64 0, .int .i64 0, .string ⟨#[]⟩, .string ⟨#[]⟩, .slice none 0 0, .int .i64 0] rfl rfl _ _ K3.out.res (by kernel_rfl) rfl (by kernel_rfl) ?_)
    (try simp only [Exit.inBlock, Exit.then])
    exact bodyPost_ret (results_cell2 rfl _ _ w.heap.size _ _ _ _ rfl JF.out.res HU.out.2 rfl HU.out.1) rfl (TokPost.no rfl JF.out.below)
set_option maxRecDepth 100000 in
set_option maxHeartbeats 8000000 in
theorem refNext_close (A : Option Addr) (n cap : Nat) (l : List UInt8) (k : Nat) (w : World) (h : Byt w w.heap.size A n cap l) (hm : n ≤ 40000) (hk : k < n) (h0 : [60, 33, 45, 45].isPrefixOf (l.drop k) = false) (h1 : [60, 33, 91, 67, 68, 65, 84, 65, 91].isPrefixOf (l.drop k) = false) (h2 : [60, 63].isPrefixOf (l.drop k) = false) (h3 : [60, 47].isPrefixOf (l.drop k) = true) :
    Calls Tryz.prog 11 #[.slice A n cap, .int .i64 (k : Int)] w fun e w' => TokPost (nextOut l k) w e w' := by
  have hln := h.length
  have HK : Hid (∀ W rs vs, RN w W rs vs → Byt W W.heap.size A n cap l) := Lib.hid fun W rs vs hJ => (h.below hJ.below).more hJ.below.size
  obtain ⟨bb, oo, c, hA, hbB, hc, _⟩ := h.cell hk
  have HC : Hid (∀ W rs vs, RN w W rs vs → W.cell? ⟨bb, oo + k, none⟩ = some (.int .u8 c.toNat)) := Lib.hid fun W rs vs hJ => by
    obtain ⟨b2, o2, c2, e2, _, hc2, hz⟩ := (h.below hJ.below).cell hk
    rw [hA] at e2
    cases e2
    rw [hc] at hc2
    cases hc2
    exact hz
  have c0 : (0 : Int) ≤ (c.toNat : Int) := by omega
  have c9 : (c.toNat : Int) ≤ 255 := by have := c.toNat_lt; omega
  have S0 : Hid (∀ W rs vs, RN w W rs vs → Calls Tryz.prog 30 #[.slice A n cap, .int .i64 (k : Int), .string ⟨#[60, 33, 45, 45]⟩] W fun e w' => e = .returned (.bool false) ∧ W = w') := Lib.hid fun W rs vs hJ => by
    have := refAt8_c A n cap l k [60, 33, 45, 45] W.heap.size W (HK.out W rs vs hJ) (by simp) (by omega) (by decide) (by omega)
    rwa [h0] at this
  have S1 : Hid (∀ W rs vs, RN w W rs vs → Calls Tryz.prog 30 #[.slice A n cap, .int .i64 (k : Int), .string ⟨#[60, 33, 91, 67, 68, 65, 84, 65, 91]⟩] W fun e w' => e = .returned (.bool false) ∧ W = w') := Lib.hid fun W rs vs hJ => by
    have := refAt8_c A n cap l k [60, 33, 91, 67, 68, 65, 84, 65, 91] W.heap.size W (HK.out W rs vs hJ) (by simp) (by omega) (by decide) (by omega)
    rwa [h1] at this
  have S2 : Hid (∀ W rs vs, RN w W rs vs → Calls Tryz.prog 30 #[.slice A n cap, .int .i64 (k : Int), .string ⟨#[60, 63]⟩] W fun e w' => e = .returned (.bool false) ∧ W = w') := Lib.hid fun W rs vs hJ => by
    have := refAt8_c A n cap l k [60, 63] W.heap.size W (HK.out W rs vs hJ) (by simp) (by omega) (by decide) (by omega)
    rwa [h2] at this
  have S3 : Hid (∀ W rs vs, RN w W rs vs → Calls Tryz.prog 30 #[.slice A n cap, .int .i64 (k : Int), .string ⟨#[60, 47]⟩] W fun e w' => e = .returned (.bool true) ∧ W = w') := Lib.hid fun W rs vs hJ => by
    have := refAt8_c A n cap l k [60, 47] W.heap.size W (HK.out W rs vs hJ) (by simp) (by omega) (by decide) (by omega)
    rwa [h3] at this
  have C : Hid (∀ W rs vs, RN w W rs vs → Calls Tryz.prog 34 #[.slice A n cap, .int .i64 (k : Int)] W fun e w' => e = .returned (outV (closeOut l k)) ∧ Below W.heap.size W w') := Lib.hid fun W rs vs hJ => by
    have hB := HK.out W rs vs hJ
    have := refClose_c A n cap l k W hB hm
    have he : tagAt [] closeOut l k = closeOut l k := by
      unfold tagAt
      rw [hln, if_neg (by omega), Int.toNat_natCast]
    rwa [he] at this
  have hR : nextOut l k = (if (readTok l k).2 = 0 then ({ (readTok l k).1 with fro := (k : Int) }, 0) else (noTok, (readTok l k).2)) := rfl
  have hRT : readTok l k = (⟨9, 0, ((closeOut l k).2.1 : Int), (closeOut l k).1, [], [], 0⟩, (closeOut l k).2.2) := by
    unfold readTok
    rw [if_neg (by rw [h0]; simp), if_neg (by rw [h1]; simp), if_neg (by rw [h2]; simp), if_pos h3]
  rw [hR, hRT]
  clear hR hRT
  generalize closeOut l k = o at *
  obtain ⟨s, t, e⟩ := o
  unfold outV at C
  simp only at C ⊢
  have J0 := Lib.hid (RN.start k w)
  have hi : (Tryz.prog.info? 30).map (·.size) = some 7 := by kernel_rfl
  obtain ⟨sd, hu⟩ := isStruct_of (P := Tryz.prog) (t := 30) (by kernel_rfl)
  have HU := Lib.hid (And.intro hi hu)
  have hk0 : ¬ (k : Int) < 0 := by omega
  have hk1 : ¬ (n : Int) < (k : Int) := by omega
  have hk2 : ((k : Int) == (n : Int)) = false := by simp; omega
  have hk3 : (k : Int) < (n : Int) := by omega
  have hk4 : (k : Int) ≤ 40000 := by omega
  clear h hln HK hi hu hbB hc h0 h1 h2 h3
  subst hA
  by_cases he : e = 0
  · subst he
    rw [if_pos rfl]
    have JA : Hid (RN w ((w.alloc (.cells #[.int .i64 0, .int .i64 0, .int .i64 0, .string ⟨#[]⟩, .string ⟨#[]⟩, .slice none 0 0, .int .i64 0] 30)).alloc (.cells #[.int .i64 9, .int .i64 (k : Int), .int .i64 0, .string ⟨#[]⟩, .string ⟨#[]⟩, .slice none 0 0, .int .i64 0] 30)) #[.int .i64 0, .int .i64 0, .int .i64 0, .string ⟨#[]⟩, .string ⟨#[]⟩, .slice none 0 0, .int .i64 0] #[.int .i64 9, .int .i64 (k : Int), .int .i64 0, .string ⟨#[]⟩, .string ⟨#[]⟩, .slice none 0 0, .int .i64 0]) := Lib.hid (RN.start' w #[.int .i64 9, .int .i64 (k : Int), .int .i64 0, .string ⟨#[]⟩, .string ⟨#[]⟩, .slice none 0 0, .int .i64 0])
    go_enter Tryz.func11, Tryz.ntmps11
    have zc := HC.out _ _ _ J0.out
    go_wp2_with fail
    refine (S0.out _ _ _ J0.out).mono ?_
    rintro e wq ⟨rfl, rfl⟩
    go_wp2_with fail
    refine (S1.out _ _ _ J0.out).mono ?_
    rintro e wq ⟨rfl, rfl⟩
    go_wp2_with fail
    refine (S2.out _ _ _ J0.out).mono ?_
    rintro e wq ⟨rfl, rfl⟩
    go_wp2_with fail
    refine (S3.out _ _ _ J0.out).mono ?_
    rintro e wq ⟨rfl, rfl⟩
    go_wp2_with fail
    refine (C.out _ _ _ JA.out).mono ?_
    rintro e0 u0 ⟨rfl, hb⟩
    have K0 := Lib.hid (JA.out.kept hb)
    clear hb zc
    have z1 := cell_of 3 K0.out.tok
    have y1 := free_of 3 K0.out.tok
    have K1 : Hid (RN w (u0.setCell ⟨w.heap.size + 1, 3, none⟩ (.string ⟨s.toArray⟩)) #[.int .i64 0, .int .i64 0, .int .i64 0, .string ⟨#[]⟩, .string ⟨#[]⟩, .slice none 0 0, .int .i64 0] #[.int .i64 9, .int .i64 (k : Int), .int .i64 0, .string ⟨s.toArray⟩, .string ⟨#[]⟩, .slice none 0 0, .int .i64 0]) := Lib.hid (K0.out.set 3 (.string ⟨s.toArray⟩))
    have z2 := cell_of 2 K1.out.tok
    have y2 := free_of 2 K1.out.tok
    have K2 : Hid (RN w ((u0.setCell ⟨w.heap.size + 1, 3, none⟩ (.string ⟨s.toArray⟩)).setCell ⟨w.heap.size + 1, 2, none⟩ (.int .i64 (t : Int))) #[.int .i64 0, .int .i64 0, .int .i64 0, .string ⟨#[]⟩, .string ⟨#[]⟩, .slice none 0 0, .int .i64 0] #[.int .i64 9, .int .i64 (k : Int), .int .i64 (t : Int), .string ⟨s.toArray⟩, .string ⟨#[]⟩, .slice none 0 0, .int .i64 0]) := Lib.hid (K1.out.set 2 (.int .i64 (t : Int)))
    have JF := Lib.hid (K2.out.row #[.int .i64 9, .int .i64 (k : Int), .int .i64 (t : Int), .string ⟨s.toArray⟩, .string ⟨#[]⟩, .slice none 0 0, .int .i64 0])
    go_wp2_with (first | (refine wpList_load_row rfl _ _ rfl (w.heap.size + 1) rfl _ _ _ _ K2.out.tok HU.out.2 rfl HU.out.1 ?_) | (refine wpList_store_row rfl _ _ _ rfl w.heap.size #[.int .i64 9, .int .i64 (k : Int), .int .i64 (t : Int), .string ⟨s.toArray⟩, .string ⟨#[]⟩, .slice none 0 0, .int .i64 0] rfl rfl _ _ K2.out.res (by kernel_rfl) rfl (by kernel_rfl) ?_))
    (try simp only [Exit.inBlock, Exit.then])
    exact bodyPost_ret (results_cell2 rfl _ _ w.heap.size _ _ _ _ rfl JF.out.res HU.out.2 rfl HU.out.1) rfl (TokPost.of none 0 0 rfl (PRd.nilR _ _) JF.out.below fun b i h => by cases h)
  · rw [if_neg he]
    have hei : ((e : Int) == 0) = false := by simp; omega
    have JA : Hid (RN w ((w.alloc (.cells #[.int .i64 0, .int .i64 0, .int .i64 0, .string ⟨#[]⟩, .string ⟨#[]⟩, .slice none 0 0, .int .i64 0] 30)).alloc (.cells #[.int .i64 9, .int .i64 (k : Int), .int .i64 0, .string ⟨#[]⟩, .string ⟨#[]⟩, .slice none 0 0, .int .i64 0] 30)) #[.int .i64 0, .int .i64 0, .int .i64 0, .string ⟨#[]⟩, .string ⟨#[]⟩, .slice none 0 0, .int .i64 0] #[.int .i64 9, .int .i64 (k : Int), .int .i64 0, .string ⟨#[]⟩, .string ⟨#[]⟩, .slice none 0 0, .int .i64 0]) := Lib.hid (RN.start' w #[.int .i64 9, .int .i64 (k : Int), .int .i64 0, .string ⟨#[]⟩, .string ⟨#[]⟩, .slice none 0 0, .int .i64 0])
    go_enter Tryz.func11, Tryz.ntmps11
    have zc := HC.out _ _ _ J0.out
    go_wp2_with fail
    refine (S0.out _ _ _ J0.out).mono ?_
    rintro e wq ⟨rfl, rfl⟩
    go_wp2_with fail
    refine (S1.out _ _ _ J0.out).mono ?_
    rintro e wq ⟨rfl, rfl⟩
    go_wp2_with fail
    refine (S2.out _ _ _ J0.out).mono ?_
    rintro e wq ⟨rfl, rfl⟩
    go_wp2_with fail
    refine (S3.out _ _ _ J0.out).mono ?_
    rintro e wq ⟨rfl, rfl⟩
    go_wp2_with fail
    refine (C.out _ _ _ JA.out).mono ?_
    rintro e0 u0 ⟨rfl, hb⟩
    have K0 := Lib.hid (JA.out.kept hb)
    clear hb zc
    have z1 := cell_of 3 K0.out.tok
    have y1 := free_of 3 K0.out.tok
    have K1 : Hid (RN w (u0.setCell ⟨w.heap.size + 1, 3, none⟩ (.string ⟨s.toArray⟩)) #[.int .i64 0, .int .i64 0, .int .i64 0, .string ⟨#[]⟩, .string ⟨#[]⟩, .slice none 0 0, .int .i64 0] #[.int .i64 9, .int .i64 (k : Int), .int .i64 0, .string ⟨s.toArray⟩, .string ⟨#[]⟩, .slice none 0 0, .int .i64 0]) := Lib.hid (K0.out.set 3 (.string ⟨s.toArray⟩))
    have z2 := cell_of 2 K1.out.tok
    have y2 := free_of 2 K1.out.tok
    have K2 : Hid (RN w ((u0.setCell ⟨w.heap.size + 1, 3, none⟩ (.string ⟨s.toArray⟩)).setCell ⟨w.heap.size + 1, 2, none⟩ (.int .i64 (t : Int))) #[.int .i64 0, .int .i64 0, .int .i64 0, .string ⟨#[]⟩, .string ⟨#[]⟩, .slice none 0 0, .int .i64 0] #[.int .i64 9, .int .i64 (k : Int), .int .i64 (t : Int), .string ⟨s.toArray⟩, .string ⟨#[]⟩, .slice none 0 0, .int .i64 0]) := Lib.hid (K1.out.set 2 (.int .i64 (t : Int)))
    have JF := Lib.hid (K2.out.row #[.int .i64 0, .int .i64 0, .int .i64 0, .string ⟨#[]⟩, .string ⟨#[]⟩, .slice none 0 0, .int .i64 0])
    go_wp2_with (refine wpList_store_row rfl _ _ _ rfl w.heap.size #[.int .i64 0, .int .i64 0, .int .i64 0, .string ⟨#[]⟩, .string ⟨#[]⟩, .slice none 0 0, .int .i64 0] rfl rfl _ _ K2.out.res (by kernel_rfl) rfl (by kernel_rfl) ?_)
    (try simp only [Exit.inBlock, Exit.then])
    exact bodyPost_ret (results_cell2 rfl _ _ w.heap.size _ _ _ _ rfl JF.out.res HU.out.2 rfl HU.out.1) rfl (TokPost.no rfl JF.out.below)
set_option maxRecDepth 100000 in
set_option maxHeartbeats 8000000 in
theorem refNext_char (A : Option Addr) (n cap : Nat) (l : List UInt8) (k : Nat) (w : World) (h : Byt w w.heap.size A n cap l) (hm : n ≤ 40000) (hk : k < n) (h0 : [60, 33, 45, 45].isPrefixOf (l.drop k) = false) (h1 : [60, 33, 91, 67, 68, 65, 84, 65, 91].isPrefixOf (l.drop k) = false) (h2 : [60, 63].isPrefixOf (l.drop k) = false) (h3 : [60, 47].isPrefixOf (l.drop k) = false) (h4 : [60].isPrefixOf (l.drop k) = false) (h5 : [38, 35].isPrefixOf (l.drop k) = true) :
    Calls Tryz.prog 11 #[.slice A n cap, .int .i64 (k : Int)] w fun e w' => TokPost (nextOut l k) w e w' := by
  have hln := h.length
  have HK : Hid (∀ W rs vs, RN w W rs vs → Byt W W.heap.size A n cap l) := Lib.hid fun W rs vs hJ => (h.below hJ.below).more hJ.below.size
  obtain ⟨bb, oo, c, hA, hbB, hc, _⟩ := h.cell hk
  have HC : Hid (∀ W rs vs, RN w W rs vs → W.cell? ⟨bb, oo + k, none⟩ = some (.int .u8 c.toNat)) := Lib.hid fun W rs vs hJ => by
    obtain ⟨b2, o2, c2, e2, _, hc2, hz⟩ := (h.below hJ.below).cell hk
    rw [hA] at e2
    cases e2
    rw [hc] at hc2
    cases hc2
    exact hz
  have c0 : (0 : Int) ≤ (c.toNat : Int) := by omega
  have c9 : (c.toNat : Int) ≤ 255 := by have := c.toNat_lt; omega
  have S0 : Hid (∀ W rs vs, RN w W rs vs → Calls Tryz.prog 30 #[.slice A n cap, .int .i64 (k : Int), .string ⟨#[60, 33, 45, 45]⟩] W fun e w' => e = .returned (.bool false) ∧ W = w') := Lib.hid fun W rs vs hJ => by
    have := refAt8_c A n cap l k [60, 33, 45, 45] W.heap.size W (HK.out W rs vs hJ) (by simp) (by omega) (by decide) (by omega)
    rwa [h0] at this
  have S1 : Hid (∀ W rs vs, RN w W rs vs → Calls Tryz.prog 30 #[.slice A n cap, .int .i64 (k : Int), .string ⟨#[60, 33, 91, 67, 68, 65, 84, 65, 91]⟩] W fun e w' => e = .returned (.bool false) ∧ W = w') := Lib.hid fun W rs vs hJ => by
    have := refAt8_c A n cap l k [60, 33, 91, 67, 68, 65, 84, 65, 91] W.heap.size W (HK.out W rs vs hJ) (by simp) (by omega) (by decide) (by omega)
    rwa [h1] at this
  have S2 : Hid (∀ W rs vs, RN w W rs vs → Calls Tryz.prog 30 #[.slice A n cap, .int .i64 (k : Int), .string ⟨#[60, 63]⟩] W fun e w' => e = .returned (.bool false) ∧ W = w') := Lib.hid fun W rs vs hJ => by
    have := refAt8_c A n cap l k [60, 63] W.heap.size W (HK.out W rs vs hJ) (by simp) (by omega) (by decide) (by omega)
    rwa [h2] at this
  have S3 : Hid (∀ W rs vs, RN w W rs vs → Calls Tryz.prog 30 #[.slice A n cap, .int .i64 (k : Int), .string ⟨#[60, 47]⟩] W fun e w' => e = .returned (.bool false) ∧ W = w') := Lib.hid fun W rs vs hJ => by
    have := refAt8_c A n cap l k [60, 47] W.heap.size W (HK.out W rs vs hJ) (by simp) (by omega) (by decide) (by omega)
    rwa [h3] at this
  have b60 : ((c.toNat : Int) == 60) = false := by
    rw [pre_one, hc] at h4
    have : c ≠ 60 := by simpa using h4
    have h' : c.toNat ≠ 60 := fun e => this (UInt8.toNat_inj.1 e)
    simp; omega
  have S5 : Hid (∀ W rs vs, RN w W rs vs → Calls Tryz.prog 30 #[.slice A n cap, .int .i64 (k : Int), .string ⟨#[38, 35]⟩] W fun e w' => e = .returned (.bool true) ∧ W = w') := Lib.hid fun W rs vs hJ => by
    have := refAt8_c A n cap l k [38, 35] W.heap.size W (HK.out W rs vs hJ) (by simp) (by omega) (by decide) (by omega)
    rwa [h5] at this
  have C : Hid (∀ W rs vs, RN w W rs vs → Calls Tryz.prog 36 #[.slice A n cap, .int .i64 (k : Int)] W fun e w' => e = .returned (numV (charOut l k)) ∧ W = w') := Lib.hid fun W rs vs hJ => by
    have hB := HK.out W rs vs hJ
    have := refCharR_c A n cap l k W W.heap.size hB (by omega)
    have he : charAt l k = charOut l k := by
      unfold charAt
      rw [hln, if_neg (by omega), Int.toNat_natCast]
    rwa [he] at this
  have hR : nextOut l k = (if (readTok l k).2 = 0 then ({ (readTok l k).1 with fro := (k : Int) }, 0) else (noTok, (readTok l k).2)) := rfl
  have hRT : readTok l k = (⟨2, 0, ((charOut l k).2.1 : Int), [], [], [], (charOut l k).1⟩, (charOut l k).2.2) := by
    unfold readTok
    rw [if_neg (by rw [h0]; simp), if_neg (by rw [h1]; simp), if_neg (by rw [h2]; simp), if_neg (by rw [h3]; simp), if_neg (by rw [h4]; simp), if_pos h5]
  rw [hR, hRT]
  clear hR hRT
  generalize charOut l k = o at *
  obtain ⟨r, t, e⟩ := o
  unfold numV at C
  simp only at C ⊢
  have J0 := Lib.hid (RN.start k w)
  have hi : (Tryz.prog.info? 30).map (·.size) = some 7 := by kernel_rfl
  obtain ⟨sd, hu⟩ := isStruct_of (P := Tryz.prog) (t := 30) (by kernel_rfl)
  have HU := Lib.hid (And.intro hi hu)
  have hk0 : ¬ (k : Int) < 0 := by omega
  have hk1 : ¬ (n : Int) < (k : Int) := by omega
  have hk2 : ((k : Int) == (n : Int)) = false := by simp; omega
  have hk3 : (k : Int) < (n : Int) := by omega
  have hk4 : (k : Int) ≤ 40000 := by omega
  clear h hln HK hi hu hbB hc h0 h1 h2 h3 h4 h5
  subst hA
  by_cases he : e = 0
  · subst he
    rw [if_pos rfl]
    have KF : Hid (RN w ((w.alloc (.cells #[.int .i64 0, .int .i64 0, .int .i64 0, .string ⟨#[]⟩, .string ⟨#[]⟩, .slice none 0 0, .int .i64 0] 30)).alloc (.cells #[.int .i64 2, .int .i64 (k : Int), .int .i64 (t : Int), .string ⟨#[]⟩, .string ⟨#[]⟩, .slice none 0 0, .int .i64 r] 30)) #[.int .i64 0, .int .i64 0, .int .i64 0, .string ⟨#[]⟩, .string ⟨#[]⟩, .slice none 0 0, .int .i64 0] #[.int .i64 2, .int .i64 (k : Int), .int .i64 (t : Int), .string ⟨#[]⟩, .string ⟨#[]⟩, .slice none 0 0, .int .i64 r]) := Lib.hid (RN.start' w #[.int .i64 2, .int .i64 (k : Int), .int .i64 (t : Int), .string ⟨#[]⟩, .string ⟨#[]⟩, .slice none 0 0, .int .i64 r])
    have JA : Hid (RN w ((w.alloc (.cells #[.int .i64 0, .int .i64 0, .int .i64 0, .string ⟨#[]⟩, .string ⟨#[]⟩, .slice none 0 0, .int .i64 0] 30)).alloc (.cells #[.int .i64 2, .int .i64 (k : Int), .int .i64 0, .string ⟨#[]⟩, .string ⟨#[]⟩, .slice none 0 0, .int .i64 0] 30)) #[.int .i64 0, .int .i64 0, .int .i64 0, .string ⟨#[]⟩, .string ⟨#[]⟩, .slice none 0 0, .int .i64 0] #[.int .i64 2, .int .i64 (k : Int), .int .i64 0, .string ⟨#[]⟩, .string ⟨#[]⟩, .slice none 0 0, .int .i64 0]) := Lib.hid (RN.start' w #[.int .i64 2, .int .i64 (k : Int), .int .i64 0, .string ⟨#[]⟩, .string ⟨#[]⟩, .slice none 0 0, .int .i64 0])
    go_enter Tryz.func11, Tryz.ntmps11
    have zc := HC.out _ _ _ J0.out
    go_wp2_with fail
    refine (S0.out _ _ _ J0.out).mono ?_
    rintro e wq ⟨rfl, rfl⟩
    go_wp2_with fail
    refine (S1.out _ _ _ J0.out).mono ?_
    rintro e wq ⟨rfl, rfl⟩
    go_wp2_with fail
    refine (S2.out _ _ _ J0.out).mono ?_
    rintro e wq ⟨rfl, rfl⟩
    go_wp2_with fail
    refine (S3.out _ _ _ J0.out).mono ?_
    rintro e wq ⟨rfl, rfl⟩
    go_wp2_with fail
    refine (S5.out _ _ _ J0.out).mono ?_
    rintro e wq ⟨rfl, rfl⟩
    go_wp2_with fail
    refine (C.out _ _ _ JA.out).mono ?_
    rintro e0 wq ⟨rfl, hwq⟩
    subst hwq
    clear zc
    have JF := Lib.hid (KF.out.row #[.int .i64 2, .int .i64 (k : Int), .int .i64 (t : Int), .string ⟨#[]⟩, .string ⟨#[]⟩, .slice none 0 0, .int .i64 r])
    go_wp2_with (first | (refine wpList_load_row rfl _ _ rfl (w.heap.size + 1) rfl _ _ _ _ KF.out.tok HU.out.2 rfl HU.out.1 ?_) | (refine wpList_store_row rfl _ _ _ rfl w.heap.size #[.int .i64 2, .int .i64 (k : Int), .int .i64 (t : Int), .string ⟨#[]⟩, .string ⟨#[]⟩, .slice none 0 0, .int .i64 r] rfl rfl _ _ KF.out.res (by kernel_rfl) rfl (by kernel_rfl) ?_))
    (try simp only [Exit.inBlock, Exit.then])
    exact bodyPost_ret (results_cell2 rfl _ _ w.heap.size _ _ _ _ rfl JF.out.res HU.out.2 rfl HU.out.1) rfl (TokPost.of none 0 0 rfl (PRd.nilR _ _) JF.out.below fun b i h => by cases h)
  · rw [if_neg he]
    have hei : ((e : Int) == 0) = false := by simp; omega
    have KF : Hid (RN w ((w.alloc (.cells #[.int .i64 0, .int .i64 0, .int .i64 0, .string ⟨#[]⟩, .string ⟨#[]⟩, .slice none 0 0, .int .i64 0] 30)).alloc (.cells #[.int .i64 2, .int .i64 (k : Int), .int .i64 (t : Int), .string ⟨#[]⟩, .string ⟨#[]⟩, .slice none 0 0, .int .i64 r] 30)) #[.int .i64 0, .int .i64 0, .int .i64 0, .string ⟨#[]⟩, .string ⟨#[]⟩, .slice none 0 0, .int .i64 0] #[.int .i64 2, .int .i64 (k : Int), .int .i64 (t : Int), .string ⟨#[]⟩, .string ⟨#[]⟩, .slice none 0 0, .int .i64 r]) := Lib.hid (RN.start' w #[.int .i64 2, .int .i64 (k : Int), .int .i64 (t : Int), .string ⟨#[]⟩, .string ⟨#[]⟩, .slice none 0 0, .int .i64 r])
    have JA : Hid (RN w ((w.alloc (.cells #[.int .i64 0, .int .i64 0, .int .i64 0, .string ⟨#[]⟩, .string ⟨#[]⟩, .slice none 0 0, .int .i64 0] 30)).alloc (.cells #[.int .i64 2, .int .i64 (k : Int), .int .i64 0, .string ⟨#[]⟩, .string ⟨#[]⟩, .slice none 0 0, .int .i64 0] 30)) #[.int .i64 0, .int .i64 0, .int .i64 0, .string ⟨#[]⟩, .string ⟨#[]⟩, .slice none 0 0, .int .i64 0] #[.int .i64 2, .int .i64 (k : Int), .int .i64 0, .string ⟨#[]⟩, .string ⟨#[]⟩, .slice none 0 0, .int .i64 0]) := Lib.hid (RN.start' w #[.int .i64 2, .int .i64 (k : Int), .int .i64 0, .string ⟨#[]⟩, .string ⟨#[]⟩, .slice none 0 0, .int .i64 0])
    go_enter Tryz.func11, Tryz.ntmps11
    have zc := HC.out _ _ _ J0.out
    go_wp2_with fail
    refine (S0.out _ _ _ J0.out).mono ?_
    rintro e wq ⟨rfl, rfl⟩
    go_wp2_with fail
    refine (S1.out _ _ _ J0.out).mono ?_
    rintro e wq ⟨rfl, rfl⟩
    go_wp2_with fail
    refine (S2.out _ _ _ J0.out).mono ?_
    rintro e wq ⟨rfl, rfl⟩
    go_wp2_with fail
    refine (S3.out _ _ _ J0.out).mono ?_
    rintro e wq ⟨rfl, rfl⟩
    go_wp2_with fail
    refine (S5.out _ _ _ J0.out).mono ?_
    rintro e wq ⟨rfl, rfl⟩
    go_wp2_with fail
    refine (C.out _ _ _ JA.out).mono ?_
    rintro e0 wq ⟨rfl, hwq⟩
    subst hwq
    clear zc
    have JF := Lib.hid (KF.out.row #[.int .i64 0, .int .i64 0, .int .i64 0, .string ⟨#[]⟩, .string ⟨#[]⟩, .slice none 0 0, .int .i64 0])
    go_wp2_with (refine wpList_store_row rfl _ _ _ rfl w.heap.size #[.int .i64 0, .int .i64 0, .int .i64 0, .string ⟨#[]⟩, .string ⟨#[]⟩, .slice none 0 0, .int .i64 0] rfl rfl _ _ KF.out.res (by kernel_rfl) rfl (by kernel_rfl) ?_)
    (try simp only [Exit.inBlock, Exit.then])
    exact bodyPost_ret (results_cell2 rfl _ _ w.heap.size _ _ _ _ rfl JF.out.res HU.out.2 rfl HU.out.1) rfl (TokPost.no rfl JF.out.below)
set_option maxRecDepth 100000 in
set_option maxHeartbeats 8000000 in
theorem refNext_ref (A : Option Addr) (n cap : Nat) (l : List UInt8) (k : Nat) (w : World) (h : Byt w w.heap.size A n cap l) (hm : n ≤ 40000) (hk : k < n) (h0 : [60, 33, 45, 45].isPrefixOf (l.drop k) = false) (h1 : [60, 33, 91, 67, 68, 65, 84, 65, 91].isPrefixOf (l.drop k) = false) (h2 : [60, 63].isPrefixOf (l.drop k) = false) (h3 : [60, 47].isPrefixOf (l.drop k) = false) (h4 : [60].isPrefixOf (l.drop k) = false) (h5 : [38, 35].isPrefixOf (l.drop k) = false) (h6 : [38].isPrefixOf (l.drop k) = true) :
    Calls Tryz.prog 11 #[.slice A n cap, .int .i64 (k : Int)] w fun e w' => TokPost (nextOut l k) w e w' := by
  have hln := h.length
  have HK : Hid (∀ W rs vs, RN w W rs vs → Byt W W.heap.size A n cap l) := Lib.hid fun W rs vs hJ => (h.below hJ.below).more hJ.below.size
  obtain ⟨bb, oo, c, hA, hbB, hc, _⟩ := h.cell hk
  have HC : Hid (∀ W rs vs, RN w W rs vs → W.cell? ⟨bb, oo + k, none⟩ = some (.int .u8 c.toNat)) := Lib.hid fun W rs vs hJ => by
    obtain ⟨b2, o2, c2, e2, _, hc2, hz⟩ := (h.below hJ.below).cell hk
    rw [hA] at e2
    cases e2
    rw [hc] at hc2
    cases hc2
    exact hz
  have c0 : (0 : Int) ≤ (c.toNat : Int) := by omega
  have c9 : (c.toNat : Int) ≤ 255 := by have := c.toNat_lt; omega
  have S0 : Hid (∀ W rs vs, RN w W rs vs → Calls Tryz.prog 30 #[.slice A n cap, .int .i64 (k : Int), .string ⟨#[60, 33, 45, 45]⟩] W fun e w' => e = .returned (.bool false) ∧ W = w') := Lib.hid fun W rs vs hJ => by
    have := refAt8_c A n cap l k [60, 33, 45, 45] W.heap.size W (HK.out W rs vs hJ) (by simp) (by omega) (by decide) (by omega)
    rwa [h0] at this
  have S1 : Hid (∀ W rs vs, RN w W rs vs → Calls Tryz.prog 30 #[.slice A n cap, .int .i64 (k : Int), .string ⟨#[60, 33, 91, 67, 68, 65, 84, 65, 91]⟩] W fun e w' => e = .returned (.bool false) ∧ W = w') := Lib.hid fun W rs vs hJ => by
    have := refAt8_c A n cap l k [60, 33, 91, 67, 68, 65, 84, 65, 91] W.heap.size W (HK.out W rs vs hJ) (by simp) (by omega) (by decide) (by omega)
    rwa [h1] at this
  have S2 : Hid (∀ W rs vs, RN w W rs vs → Calls Tryz.prog 30 #[.slice A n cap, .int .i64 (k : Int), .string ⟨#[60, 63]⟩] W fun e w' => e = .returned (.bool false) ∧ W = w') := Lib.hid fun W rs vs hJ => by
    have := refAt8_c A n cap l k [60, 63] W.heap.size W (HK.out W rs vs hJ) (by simp) (by omega) (by decide) (by omega)
    rwa [h2] at this
  have S3 : Hid (∀ W rs vs, RN w W rs vs → Calls Tryz.prog 30 #[.slice A n cap, .int .i64 (k : Int), .string ⟨#[60, 47]⟩] W fun e w' => e = .returned (.bool false) ∧ W = w') := Lib.hid fun W rs vs hJ => by
    have := refAt8_c A n cap l k [60, 47] W.heap.size W (HK.out W rs vs hJ) (by simp) (by omega) (by decide) (by omega)
    rwa [h3] at this
  have b60 : ((c.toNat : Int) == 60) = false := by
    rw [pre_one, hc] at h4
    have : c ≠ 60 := by simpa using h4
    have h' : c.toNat ≠ 60 := fun e => this (UInt8.toNat_inj.1 e)
    simp; omega
  have S5 : Hid (∀ W rs vs, RN w W rs vs → Calls Tryz.prog 30 #[.slice A n cap, .int .i64 (k : Int), .string ⟨#[38, 35]⟩] W fun e w' => e = .returned (.bool false) ∧ W = w') := Lib.hid fun W rs vs hJ => by
    have := refAt8_c A n cap l k [38, 35] W.heap.size W (HK.out W rs vs hJ) (by simp) (by omega) (by decide) (by omega)
    rwa [h5] at this
  have b38 : ((c.toNat : Int) == 38) = true := by
    rw [pre_one, hc] at h6
    have : c = 38 := by simpa using h6
    subst this
    rfl
  have C : Hid (∀ W rs vs, RN w W rs vs → Calls Tryz.prog 37 #[.slice A n cap, .int .i64 (k : Int), .int .u8 38] W fun e w' => e = .returned (outV (refOut 38 l k)) ∧ Below W.heap.size W w') := Lib.hid fun W rs vs hJ => by
    have hB := HK.out W rs vs hJ
    have := refEntityAt_c A n cap l k 38 W hB (by omega)
    have he : refAt 38 l k = refOut 38 l k := by
      unfold refAt
      rw [hln, if_neg (by omega), Int.toNat_natCast]
    rwa [he] at this
  have hR : nextOut l k = (if (readTok l k).2 = 0 then ({ (readTok l k).1 with fro := (k : Int) }, 0) else (noTok, (readTok l k).2)) := rfl
  have hRT : readTok l k = (⟨3, 0, ((refOut 38 l k).2.1 : Int), (refOut 38 l k).1, [], [], 0⟩, (refOut 38 l k).2.2) := by
    unfold readTok
    rw [if_neg (by rw [h0]; simp), if_neg (by rw [h1]; simp), if_neg (by rw [h2]; simp), if_neg (by rw [h3]; simp), if_neg (by rw [h4]; simp), if_neg (by rw [h5]; simp), if_pos h6]
  rw [hR, hRT]
  clear hR hRT
  generalize refOut 38 l k = o at *
  obtain ⟨s, t, e⟩ := o
  unfold outV at C
  simp only at C ⊢
  have J0 := Lib.hid (RN.start k w)
  have hi : (Tryz.prog.info? 30).map (·.size) = some 7 := by kernel_rfl
  obtain ⟨sd, hu⟩ := isStruct_of (P := Tryz.prog) (t := 30) (by kernel_rfl)
  have HU := Lib.hid (And.intro hi hu)
  have hk0 : ¬ (k : Int) < 0 := by omega
  have hk1 : ¬ (n : Int) < (k : Int) := by omega
  have hk2 : ((k : Int) == (n : Int)) = false := by simp; omega
  have hk3 : (k : Int) < (n : Int) := by omega
  have hk4 : (k : Int) ≤ 40000 := by omega
  clear h hln HK hi hu hbB hc h0 h1 h2 h3 h4 h5 h6
  subst hA
  by_cases he : e = 0
  · subst he
    rw [if_pos rfl]
    have JA : Hid (RN w ((w.alloc (.cells #[.int .i64 0, .int .i64 0, .int .i64 0, .string ⟨#[]⟩, .string ⟨#[]⟩, .slice none 0 0, .int .i64 0] 30)).alloc (.cells #[.int .i64 3, .int .i64 (k : Int), .int .i64 0, .string ⟨#[]⟩, .string ⟨#[]⟩, .slice none 0 0, .int .i64 0] 30)) #[.int .i64 0, .int .i64 0, .int .i64 0, .string ⟨#[]⟩, .string ⟨#[]⟩, .slice none 0 0, .int .i64 0] #[.int .i64 3, .int .i64 (k : Int), .int .i64 0, .string ⟨#[]⟩, .string ⟨#[]⟩, .slice none 0 0, .int .i64 0]) := Lib.hid (RN.start' w #[.int .i64 3, .int .i64 (k : Int), .int .i64 0, .string ⟨#[]⟩, .string ⟨#[]⟩, .slice none 0 0, .int .i64 0])
    go_enter Tryz.func11, Tryz.ntmps11
    have zc := HC.out _ _ _ J0.out
    go_wp2_with fail
    refine (S0.out _ _ _ J0.out).mono ?_
    rintro e wq ⟨rfl, rfl⟩
    go_wp2_with fail
    refine (S1.out _ _ _ J0.out).mono ?_
    rintro e wq ⟨rfl, rfl⟩
    go_wp2_with fail
    refine (S2.out _ _ _ J0.out).mono ?_
    rintro e wq ⟨rfl, rfl⟩
    go_wp2_with fail
    refine (S3.out _ _ _ J0.out).mono ?_
    rintro e wq ⟨rfl, rfl⟩
    go_wp2_with fail
    refine (S5.out _ _ _ J0.out).mono ?_
    rintro e wq ⟨rfl, rfl⟩
    go_wp2_with fail
    refine (C.out _ _ _ JA.out).mono ?_
    rintro e0 u0 ⟨rfl, hb⟩
    have K0 := Lib.hid (JA.out.kept hb)
    clear hb zc
    have z1 := cell_of 3 K0.out.tok
    have y1 := free_of 3 K0.out.tok
    have K1 : Hid (RN w (u0.setCell ⟨w.heap.size + 1, 3, none⟩ (.string ⟨s.toArray⟩)) #[.int .i64 0, .int .i64 0, .int .i64 0, .string ⟨#[]⟩, .string ⟨#[]⟩, .slice none 0 0, .int .i64 0] #[.int .i64 3, .int .i64 (k : Int), .int .i64 0, .string ⟨s.toArray⟩, .string ⟨#[]⟩, .slice none 0 0, .int .i64 0]) := Lib.hid (K0.out.set 3 (.string ⟨s.toArray⟩))
    have z2 := cell_of 2 K1.out.tok
    have y2 := free_of 2 K1.out.tok
    have K2 : Hid (RN w ((u0.setCell ⟨w.heap.size + 1, 3, none⟩ (.string ⟨s.toArray⟩)).setCell ⟨w.heap.size + 1, 2, none⟩ (.int .i64 (t : Int))) #[.int .i64 0, .int .i64 0, .int .i64 0, .string ⟨#[]⟩, .string ⟨#[]⟩, .slice none 0 0, .int .i64 0] #[.int .i64 3, .int .i64 (k : Int), .int .i64 (t : Int), .string ⟨s.toArray⟩, .string ⟨#[]⟩, .slice none 0 0, .int .i64 0]) := Lib.hid (K1.out.set 2 (.int .i64 (t : Int)))
    have JF := Lib.hid (K2.out.row #[.int .i64 3, .int .i64 (k : Int), .int .i64 (t : Int), .string ⟨s.toArray⟩, .string ⟨#[]⟩, .slice none 0 0, .int .i64 0])
    go_wp2_with (first | (refine wpList_load_row rfl _ _ rfl (w.heap.size + 1) rfl _ _ _ _ K2.out.tok HU.out.2 rfl HU.out.1 ?_) | (refine wpList_store_row rfl _ _ _ rfl w.heap.size #[.int .i64 3, .int .i64 (k : Int), .int .i64 (t : Int), .string ⟨s.toArray⟩, .string ⟨#[]⟩, .slice none 0 0, .int .i64 0] rfl rfl _ _ K2.out.res (by kernel_rfl) rfl (by kernel_rfl) ?_))
    (try simp only [Exit.inBlock, Exit.then])
    exact bodyPost_ret (results_cell2 rfl _ _ w.heap.size _ _ _ _ rfl JF.out.res HU.out.2 rfl HU.out.1) rfl (TokPost.of none 0 0 rfl (PRd.nilR _ _) JF.out.below fun b i h => by cases h)
  · rw [if_neg he]
    have hei : ((e : Int) == 0) = false := by simp; omega
    have JA : Hid (RN w ((w.alloc (.cells #[.int .i64 0, .int .i64 0, .int .i64 0, .string ⟨#[]⟩, .string ⟨#[]⟩, .slice none 0 0, .int .i64 0] 30)).alloc (.cells #[.int .i64 3, .int .i64 (k : Int), .int .i64 0, .string ⟨#[]⟩, .string ⟨#[]⟩, .slice none 0 0, .int .i64 0] 30)) #[.int .i64 0, .int .i64 0, .int .i64 0, .string ⟨#[]⟩, .string ⟨#[]⟩, .slice none 0 0, .int .i64 0] #[.int .i64 3, .int .i64 (k : Int), .int .i64 0, .string ⟨#[]⟩, .string ⟨#[]⟩, .slice none 0 0, .int .i64 0]) := Lib.hid (RN.start' w #[.int .i64 3, .int .i64 (k : Int), .int .i64 0, .string ⟨#[]⟩, .string ⟨#[]⟩, .slice none 0 0, .int .i64 0])
    go_enter Tryz.func11, Tryz.ntmps11
    have zc := HC.out _ _ _ J0.out
    go_wp2_with fail
    refine (S0.out _ _ _ J0.out).mono ?_
    rintro e wq ⟨rfl, rfl⟩
    go_wp2_with fail
    refine (S1.out _ _ _ J0.out).mono ?_
    rintro e wq ⟨rfl, rfl⟩
    go_wp2_with fail
    refine (S2.out _ _ _ J0.out).mono ?_
    rintro e wq ⟨rfl, rfl⟩
    go_wp2_with fail
    refine (S3.out _ _ _ J0.out).mono ?_
    rintro e wq ⟨rfl, rfl⟩
    go_wp2_with fail
    refine (S5.out _ _ _ J0.out).mono ?_
    rintro e wq ⟨rfl, rfl⟩
    go_wp2_with fail
    refine (C.out _ _ _ JA.out).mono ?_
    rintro e0 u0 ⟨rfl, hb⟩
    have K0 := Lib.hid (JA.out.kept hb)
    clear hb zc
    have z1 := cell_of 3 K0.out.tok
    have y1 := free_of 3 K0.out.tok
    have K1 : Hid (RN w (u0.setCell ⟨w.heap.size + 1, 3, none⟩ (.string ⟨s.toArray⟩)) #[.int .i64 0, .int .i64 0, .int .i64 0, .string ⟨#[]⟩, .string ⟨#[]⟩, .slice none 0 0, .int .i64 0] #[.int .i64 3, .int .i64 (k : Int), .int .i64 0, .string ⟨s.toArray⟩, .string ⟨#[]⟩, .slice none 0 0, .int .i64 0]) := Lib.hid (K0.out.set 3 (.string ⟨s.toArray⟩))
    have z2 := cell_of 2 K1.out.tok
    have y2 := free_of 2 K1.out.tok
    have K2 : Hid (RN w ((u0.setCell ⟨w.heap.size + 1, 3, none⟩ (.string ⟨s.toArray⟩)).setCell ⟨w.heap.size + 1, 2, none⟩ (.int .i64 (t : Int))) #[.int .i64 0, .int .i64 0, .int .i64 0, .string ⟨#[]⟩, .string ⟨#[]⟩, .slice none 0 0, .int .i64 0] #[.int .i64 3, .int .i64 (k : Int), .int .i64 (t : Int), .string ⟨s.toArray⟩, .string ⟨#[]⟩, .slice none 0 0, .int .i64 0]) := Lib.hid (K1.out.set 2 (.int .i64 (t : Int)))
    have JF := Lib.hid (K2.out.row #[.int .i64 0, .int .i64 0, .int .i64 0, .string ⟨#[]⟩, .string ⟨#[]⟩, .slice none 0 0, .int .i64 0])
    go_wp2_with (refine wpList_store_row rfl _ _ _ rfl w.heap.size #[.int .i64 0, .int .i64 0, .int .i64 0, .string ⟨#[]⟩, .string ⟨#[]⟩, .slice none 0 0, .int .i64 0] rfl rfl _ _ K2.out.res (by kernel_rfl) rfl (by kernel_rfl) ?_)
    (try simp only [Exit.inBlock, Exit.then])
    exact bodyPost_ret (results_cell2 rfl _ _ w.heap.size _ _ _ _ rfl JF.out.res HU.out.2 rfl HU.out.1) rfl (TokPost.no rfl JF.out.below)
end Go.Proofs.YtmclngahdklfkaaGreatDoor
/- narthexref11.Next, at an element. -/
namespace Go.Proofs.YtmclngahdklfkaaGreatDoor
open Go.ChangeShapes Go.WideShapes Go.ChangeAt Go.RowKit
set_option linter.unusedVariables false
set_option maxRecDepth 100000 in
set_option maxHeartbeats 8000000 in
theorem refNext_open (A : Option Addr) (n cap : Nat) (l : List UInt8) (k : Nat) (w : World) (h : Byt w w.heap.size A n cap l) (hm : n ≤ 40000) (hk : k < n) (h0 : [60, 33, 45, 45].isPrefixOf (l.drop k) = false) (h1 : [60, 33, 91, 67, 68, 65, 84, 65, 91].isPrefixOf (l.drop k) = false) (h2 : [60, 63].isPrefixOf (l.drop k) = false) (h3 : [60, 47].isPrefixOf (l.drop k) = false) (h4 : [60].isPrefixOf (l.drop k) = true) :
    Calls Tryz.prog 11 #[.slice A n cap, .int .i64 (k : Int)] w fun e w' => TokPost (nextOut l k) w e w' := by
  have hln := h.length
  have HK : Hid (∀ W rs vs, RN w W rs vs → Byt W W.heap.size A n cap l) := Lib.hid fun W rs vs hJ => (h.below hJ.below).more hJ.below.size
  obtain ⟨bb, oo, c, hA, hbB, hc, _⟩ := h.cell hk
  have HC : Hid (∀ W rs vs, RN w W rs vs → W.cell? ⟨bb, oo + k, none⟩ = some (.int .u8 c.toNat)) := Lib.hid fun W rs vs hJ => by
    obtain ⟨b2, o2, c2, e2, _, hc2, hz⟩ := (h.below hJ.below).cell hk
    rw [hA] at e2
    cases e2
    rw [hc] at hc2
    cases hc2
    exact hz
  have c0 : (0 : Int) ≤ (c.toNat : Int) := by omega
  have c9 : (c.toNat : Int) ≤ 255 := by have := c.toNat_lt; omega
  have S0 : Hid (∀ W rs vs, RN w W rs vs → Calls Tryz.prog 30 #[.slice A n cap, .int .i64 (k : Int), .string ⟨#[60, 33, 45, 45]⟩] W fun e w' => e = .returned (.bool false) ∧ W = w') := Lib.hid fun W rs vs hJ => by
    have := refAt8_c A n cap l k [60, 33, 45, 45] W.heap.size W (HK.out W rs vs hJ) (by simp) (by omega) (by decide) (by omega)
    rwa [h0] at this
  have S1 : Hid (∀ W rs vs, RN w W rs vs → Calls Tryz.prog 30 #[.slice A n cap, .int .i64 (k : Int), .string ⟨#[60, 33, 91, 67, 68, 65, 84, 65, 91]⟩] W fun e w' => e = .returned (.bool false) ∧ W = w') := Lib.hid fun W rs vs hJ => by
    have := refAt8_c A n cap l k [60, 33, 91, 67, 68, 65, 84, 65, 91] W.heap.size W (HK.out W rs vs hJ) (by simp) (by omega) (by decide) (by omega)
    rwa [h1] at this
  have S2 : Hid (∀ W rs vs, RN w W rs vs → Calls Tryz.prog 30 #[.slice A n cap, .int .i64 (k : Int), .string ⟨#[60, 63]⟩] W fun e w' => e = .returned (.bool false) ∧ W = w') := Lib.hid fun W rs vs hJ => by
    have := refAt8_c A n cap l k [60, 63] W.heap.size W (HK.out W rs vs hJ) (by simp) (by omega) (by decide) (by omega)
    rwa [h2] at this
  have S3 : Hid (∀ W rs vs, RN w W rs vs → Calls Tryz.prog 30 #[.slice A n cap, .int .i64 (k : Int), .string ⟨#[60, 47]⟩] W fun e w' => e = .returned (.bool false) ∧ W = w') := Lib.hid fun W rs vs hJ => by
    have := refAt8_c A n cap l k [60, 47] W.heap.size W (HK.out W rs vs hJ) (by simp) (by omega) (by decide) (by omega)
    rwa [h3] at this
  have b60 : ((c.toNat : Int) == 60) = true := by
    rw [pre_one, hc] at h4
    have : c = 60 := by simpa using h4
    subst this
    rfl
  have C : Hid (∀ W rs vs, RN w W rs vs → Calls Tryz.prog 35 #[.slice A n cap, .int .i64 (k : Int)] W fun e w' => OpenPostF (openOut l k) W e w') := Lib.hid fun W rs vs hJ => by
    have := refOpenF_c A n cap l k W (HK.out W rs vs hJ) hm
    have he : tagAt noTag openOut l k = openOut l k := by
      unfold tagAt
      rw [hln, if_neg (by omega), Int.toNat_natCast]
    rwa [he] at this
  have hR : nextOut l k = (if (readTok l k).2 = 0 then ({ (readTok l k).1 with fro := (k : Int) }, 0) else (noTok, (readTok l k).2)) := rfl
  have hRT : readTok l k = (⟨if (openOut l k).1.empty = true then 8 else 7, 0, ((openOut l k).2.1 : Int), (openOut l k).1.name, [], (openOut l k).1.pairs, 0⟩, (openOut l k).2.2) := by
    unfold readTok
    rw [if_neg (by rw [h0]; simp), if_neg (by rw [h1]; simp), if_neg (by rw [h2]; simp), if_neg (by rw [h3]; simp), if_pos h4]
  rw [hR, hRT]
  clear hR hRT
  generalize openOut l k = o at *
  obtain ⟨⟨s, ps, em⟩, t, e⟩ := o
  simp only at C ⊢
  have J0 := Lib.hid (RN.start k w)
  have hi : (Tryz.prog.info? 30).map (·.size) = some 7 := by kernel_rfl
  obtain ⟨sd, hu⟩ := isStruct_of (P := Tryz.prog) (t := 30) (by kernel_rfl)
  have HU := Lib.hid (And.intro hi hu)
  have hk0 : ¬ (k : Int) < 0 := by omega
  have hk1 : ¬ (n : Int) < (k : Int) := by omega
  have hk2 : ((k : Int) == (n : Int)) = false := by simp; omega
  have hk3 : (k : Int) < (n : Int) := by omega
  have hk4 : (k : Int) ≤ 40000 := by omega
  clear h hln HK hi hu hbB hc h0 h1 h2 h3 h4
  subst hA
  cases em
  · by_cases he : e = 0
    · subst he
      rw [if_pos rfl]
      simp only [Bool.false_eq_true, if_false]
      go_enter Tryz.func11, Tryz.ntmps11
      have zc := HC.out _ _ _ J0.out
      go_wp2_with fail
      refine (S0.out _ _ _ J0.out).mono ?_
      rintro e wq ⟨rfl, rfl⟩
      go_wp2_with fail
      refine (S1.out _ _ _ J0.out).mono ?_
      rintro e wq ⟨rfl, rfl⟩
      go_wp2_with fail
      refine (S2.out _ _ _ J0.out).mono ?_
      rintro e wq ⟨rfl, rfl⟩
      go_wp2_with fail
      refine (S3.out _ _ _ J0.out).mono ?_
      rintro e wq ⟨rfl, rfl⟩
      go_wp2_with fail
      refine (C.out _ _ _ J0.out).mono ?_
      rintro e0 u0 ⟨PA, pn, pc, rfl, hpr, hb, hlo⟩
      have K0 := J0.out.kept hb
      have ka := (Below.refl _ u0).alloc (Nat.le_refl _) (.cells #[.string ⟨s.toArray⟩, .slice PA pn pc, .bool false] 63)
      have K1 := Lib.hid (K0.kept ka)
      have hq := hp_new u0 (.cells #[.string ⟨s.toArray⟩, .slice PA pn pc, .bool false] 63)
      have HP := Lib.hid (And.intro (hpr.below ka) (fun b i h => Nat.lt_of_lt_of_le J0.out.size (hlo b i h)))
      have hlt := K0.size
      clear hpr hb hlo K0 ka zc
      go_wp2_with fail
      generalize hv : u0.alloc (.cells #[.string ⟨s.toArray⟩, .slice PA pn pc, .bool false] 63) = v0 at *
      have hvs : v0.heap.size = u0.heap.size + 1 := by rw [← hv, World.size_alloc]
      clear hv
      have zt0 := cell_of 0 hq
      have zt1 := cell_of 1 hq
      have zt2 := cell_of 2 hq
      have z0 := cell_of 0 K1.out.tok
      have y0 := free_of 0 K1.out.tok
      have z3 := cell_of 3 K1.out.tok
      have y3 := free_of 3 K1.out.tok
      have z5 := cell_of 5 K1.out.tok
      have y5 := free_of 5 K1.out.tok
      have z2 := cell_of 2 K1.out.tok
      have y2 := free_of 2 K1.out.tok
      go_region
      have KU : Hid (RN w ((((v0.setCell ⟨w.heap.size + 1, 0, none⟩ (.int .i64 7)).setCell ⟨w.heap.size + 1, 3, none⟩ (.string ⟨s.toArray⟩)).setCell ⟨w.heap.size + 1, 5, none⟩ (.slice PA pn pc)).setCell ⟨w.heap.size + 1, 2, none⟩ (.int .i64 (t : Int))).drew #[.int .i64 0, .int .i64 0, .int .i64 0, .string ⟨#[]⟩, .string ⟨#[]⟩, .slice none 0 0, .int .i64 0] #[.int .i64 7, .int .i64 (k : Int), .int .i64 (t : Int), .string ⟨s.toArray⟩, .string ⟨#[]⟩, .slice PA pn pc, .int .i64 0]) := Lib.hid (((((K1.out.set 0 (.int .i64 7)).set 3 (.string ⟨s.toArray⟩)).set 5 (.slice PA pn pc)).set 2 (.int .i64 (t : Int))).drewN 1)
      have hUo : ∀ b, b ≠ w.heap.size + 1 → (((((v0.setCell ⟨w.heap.size + 1, 0, none⟩ (.int .i64 7)).setCell ⟨w.heap.size + 1, 3, none⟩ (.string ⟨s.toArray⟩)).setCell ⟨w.heap.size + 1, 5, none⟩ (.slice PA pn pc)).setCell ⟨w.heap.size + 1, 2, none⟩ (.int .i64 (t : Int))).drew).heap[b]? = v0.heap[b]? := fun b hb => by
        show ((((v0.setCell ⟨w.heap.size + 1, 0, none⟩ (.int .i64 7)).setCell ⟨w.heap.size + 1, 3, none⟩ (.string ⟨s.toArray⟩)).setCell ⟨w.heap.size + 1, 5, none⟩ (.slice PA pn pc)).setCell ⟨w.heap.size + 1, 2, none⟩ (.int .i64 (t : Int))).heap[b]? = v0.heap[b]?
        rw [hp_other (by omega), hp_other (by omega), hp_other (by omega), hp_other (by omega)]
      have hUs : (((((v0.setCell ⟨w.heap.size + 1, 0, none⟩ (.int .i64 7)).setCell ⟨w.heap.size + 1, 3, none⟩ (.string ⟨s.toArray⟩)).setCell ⟨w.heap.size + 1, 5, none⟩ (.slice PA pn pc)).setCell ⟨w.heap.size + 1, 2, none⟩ (.int .i64 (t : Int))).drew).heap.size = v0.heap.size := by
        show ((((v0.setCell ⟨w.heap.size + 1, 0, none⟩ (.int .i64 7)).setCell ⟨w.heap.size + 1, 3, none⟩ (.string ⟨s.toArray⟩)).setCell ⟨w.heap.size + 1, 5, none⟩ (.slice PA pn pc)).setCell ⟨w.heap.size + 1, 2, none⟩ (.int .i64 (t : Int))).heap.size = v0.heap.size
        simp
      clear zt0 zt1 zt2 z0 y0 z3 y3 z5 y5 z2 y2
      generalize ((((v0.setCell ⟨w.heap.size + 1, 0, none⟩ (.int .i64 7)).setCell ⟨w.heap.size + 1, 3, none⟩ (.string ⟨s.toArray⟩)).setCell ⟨w.heap.size + 1, 5, none⟩ (.slice PA pn pc)).setCell ⟨w.heap.size + 1, 2, none⟩ (.int .i64 (t : Int))).drew = U at *
      have zt2 := cell_of 2 ((hUo u0.heap.size (by omega)).trans hq)
      have KV := KU
      have JF := Lib.hid (KV.out.row #[.int .i64 7, .int .i64 (k : Int), .int .i64 (t : Int), .string ⟨s.toArray⟩, .string ⟨#[]⟩, .slice PA pn pc, .int .i64 0])
      go_wp2_with (first | (refine wpList_load_row rfl _ _ rfl (w.heap.size + 1) rfl _ _ _ _ KV.out.tok HU.out.2 rfl HU.out.1 ?_) | (refine wpList_store_row rfl _ _ _ rfl w.heap.size #[.int .i64 7, .int .i64 (k : Int), .int .i64 (t : Int), .string ⟨s.toArray⟩, .string ⟨#[]⟩, .slice PA pn pc, .int .i64 0] rfl rfl _ _ KV.out.res (by kernel_rfl) rfl (by kernel_rfl) ?_))
      (try simp only [Exit.inBlock, Exit.then])
      refine bodyPost_ret (results_cell2 rfl _ _ w.heap.size _ _ _ _ rfl JF.out.res HU.out.2 rfl HU.out.1) rfl (TokPost.of PA pn pc rfl (HP.out.1.move ?_ ?_) JF.out.below fun b i h => Nat.le_of_lt (Nat.lt_of_succ_lt (HP.out.2 b i h)))
      · simp [World.setRow]; omega
      · intro b' i' hA hb'
        have hlt := HP.out.2 b' i' hA
        rw [setRow_at _ _ _ _ (by omega), hUo b' (by omega)]
    · rw [if_neg he]
      have hei : ((e : Int) == 0) = false := by simp; omega
      go_enter Tryz.func11, Tryz.ntmps11
      have zc := HC.out _ _ _ J0.out
      go_wp2_with fail
      refine (S0.out _ _ _ J0.out).mono ?_
      rintro e wq ⟨rfl, rfl⟩
      go_wp2_with fail
      refine (S1.out _ _ _ J0.out).mono ?_
      rintro e wq ⟨rfl, rfl⟩
      go_wp2_with fail
      refine (S2.out _ _ _ J0.out).mono ?_
      rintro e wq ⟨rfl, rfl⟩
      go_wp2_with fail
      refine (S3.out _ _ _ J0.out).mono ?_
      rintro e wq ⟨rfl, rfl⟩
      go_wp2_with fail
      refine (C.out _ _ _ J0.out).mono ?_
      rintro e0 u0 ⟨PA, pn, pc, rfl, hpr, hb, hlo⟩
      have K0 := J0.out.kept hb
      have ka := (Below.refl _ u0).alloc (Nat.le_refl _) (.cells #[.string ⟨s.toArray⟩, .slice PA pn pc, .bool false] 63)
      have K1 := Lib.hid (K0.kept ka)
      have hq := hp_new u0 (.cells #[.string ⟨s.toArray⟩, .slice PA pn pc, .bool false] 63)
      have HP := Lib.hid (And.intro (hpr.below ka) (fun b i h => Nat.lt_of_lt_of_le J0.out.size (hlo b i h)))
      have hlt := K0.size
      clear hpr hb hlo K0 ka zc
      go_wp2_with fail
      generalize hv : u0.alloc (.cells #[.string ⟨s.toArray⟩, .slice PA pn pc, .bool false] 63) = v0 at *
      have hvs : v0.heap.size = u0.heap.size + 1 := by rw [← hv, World.size_alloc]
      clear hv
      have zt0 := cell_of 0 hq
      have zt1 := cell_of 1 hq
      have zt2 := cell_of 2 hq
      have z0 := cell_of 0 K1.out.tok
      have y0 := free_of 0 K1.out.tok
      have z3 := cell_of 3 K1.out.tok
      have y3 := free_of 3 K1.out.tok
      have z5 := cell_of 5 K1.out.tok
      have y5 := free_of 5 K1.out.tok
      have z2 := cell_of 2 K1.out.tok
      have y2 := free_of 2 K1.out.tok
      go_region
      have KU : Hid (RN w ((((v0.setCell ⟨w.heap.size + 1, 0, none⟩ (.int .i64 7)).setCell ⟨w.heap.size + 1, 3, none⟩ (.string ⟨s.toArray⟩)).setCell ⟨w.heap.size + 1, 5, none⟩ (.slice PA pn pc)).setCell ⟨w.heap.size + 1, 2, none⟩ (.int .i64 (t : Int))).drew #[.int .i64 0, .int .i64 0, .int .i64 0, .string ⟨#[]⟩, .string ⟨#[]⟩, .slice none 0 0, .int .i64 0] #[.int .i64 7, .int .i64 (k : Int), .int .i64 (t : Int), .string ⟨s.toArray⟩, .string ⟨#[]⟩, .slice PA pn pc, .int .i64 0]) := Lib.hid (((((K1.out.set 0 (.int .i64 7)).set 3 (.string ⟨s.toArray⟩)).set 5 (.slice PA pn pc)).set 2 (.int .i64 (t : Int))).drewN 1)
      have hUo : ∀ b, b ≠ w.heap.size + 1 → (((((v0.setCell ⟨w.heap.size + 1, 0, none⟩ (.int .i64 7)).setCell ⟨w.heap.size + 1, 3, none⟩ (.string ⟨s.toArray⟩)).setCell ⟨w.heap.size + 1, 5, none⟩ (.slice PA pn pc)).setCell ⟨w.heap.size + 1, 2, none⟩ (.int .i64 (t : Int))).drew).heap[b]? = v0.heap[b]? := fun b hb => by
        show ((((v0.setCell ⟨w.heap.size + 1, 0, none⟩ (.int .i64 7)).setCell ⟨w.heap.size + 1, 3, none⟩ (.string ⟨s.toArray⟩)).setCell ⟨w.heap.size + 1, 5, none⟩ (.slice PA pn pc)).setCell ⟨w.heap.size + 1, 2, none⟩ (.int .i64 (t : Int))).heap[b]? = v0.heap[b]?
        rw [hp_other (by omega), hp_other (by omega), hp_other (by omega), hp_other (by omega)]
      have hUs : (((((v0.setCell ⟨w.heap.size + 1, 0, none⟩ (.int .i64 7)).setCell ⟨w.heap.size + 1, 3, none⟩ (.string ⟨s.toArray⟩)).setCell ⟨w.heap.size + 1, 5, none⟩ (.slice PA pn pc)).setCell ⟨w.heap.size + 1, 2, none⟩ (.int .i64 (t : Int))).drew).heap.size = v0.heap.size := by
        show ((((v0.setCell ⟨w.heap.size + 1, 0, none⟩ (.int .i64 7)).setCell ⟨w.heap.size + 1, 3, none⟩ (.string ⟨s.toArray⟩)).setCell ⟨w.heap.size + 1, 5, none⟩ (.slice PA pn pc)).setCell ⟨w.heap.size + 1, 2, none⟩ (.int .i64 (t : Int))).heap.size = v0.heap.size
        simp
      clear zt0 zt1 zt2 z0 y0 z3 y3 z5 y5 z2 y2
      generalize ((((v0.setCell ⟨w.heap.size + 1, 0, none⟩ (.int .i64 7)).setCell ⟨w.heap.size + 1, 3, none⟩ (.string ⟨s.toArray⟩)).setCell ⟨w.heap.size + 1, 5, none⟩ (.slice PA pn pc)).setCell ⟨w.heap.size + 1, 2, none⟩ (.int .i64 (t : Int))).drew = U at *
      have zt2 := cell_of 2 ((hUo u0.heap.size (by omega)).trans hq)
      have KV := KU
      have JF := Lib.hid (KV.out.row #[.int .i64 0, .int .i64 0, .int .i64 0, .string ⟨#[]⟩, .string ⟨#[]⟩, .slice none 0 0, .int .i64 0])
      go_wp2_with (refine wpList_store_row rfl _ _ _ rfl w.heap.size #[.int .i64 0, .int .i64 0, .int .i64 0, .string ⟨#[]⟩, .string ⟨#[]⟩, .slice none 0 0, .int .i64 0] rfl rfl _ _ KV.out.res (by kernel_rfl) rfl (by kernel_rfl) ?_)
      (try simp only [Exit.inBlock, Exit.then])
      exact bodyPost_ret (results_cell2 rfl _ _ w.heap.size _ _ _ _ rfl JF.out.res HU.out.2 rfl HU.out.1) rfl (TokPost.no rfl JF.out.below)
  · by_cases he : e = 0
    · subst he
      rw [if_pos rfl]
      simp only [if_true]
      go_enter Tryz.func11, Tryz.ntmps11
      have zc := HC.out _ _ _ J0.out
      go_wp2_with fail
      refine (S0.out _ _ _ J0.out).mono ?_
      rintro e wq ⟨rfl, rfl⟩
      go_wp2_with fail
      refine (S1.out _ _ _ J0.out).mono ?_
      rintro e wq ⟨rfl, rfl⟩
      go_wp2_with fail
      refine (S2.out _ _ _ J0.out).mono ?_
      rintro e wq ⟨rfl, rfl⟩
      go_wp2_with fail
      refine (S3.out _ _ _ J0.out).mono ?_
      rintro e wq ⟨rfl, rfl⟩
      go_wp2_with fail
      refine (C.out _ _ _ J0.out).mono ?_
      rintro e0 u0 ⟨PA, pn, pc, rfl, hpr, hb, hlo⟩
      have K0 := J0.out.kept hb
      have ka := (Below.refl _ u0).alloc (Nat.le_refl _) (.cells #[.string ⟨s.toArray⟩, .slice PA pn pc, .bool true] 63)
      have K1 := Lib.hid (K0.kept ka)
      have hq := hp_new u0 (.cells #[.string ⟨s.toArray⟩, .slice PA pn pc, .bool true] 63)
      have HP := Lib.hid (And.intro (hpr.below ka) (fun b i h => Nat.lt_of_lt_of_le J0.out.size (hlo b i h)))
      have hlt := K0.size
      clear hpr hb hlo K0 ka zc
      go_wp2_with fail
      generalize hv : u0.alloc (.cells #[.string ⟨s.toArray⟩, .slice PA pn pc, .bool true] 63) = v0 at *
      have hvs : v0.heap.size = u0.heap.size + 1 := by rw [← hv, World.size_alloc]
      clear hv
      have zt0 := cell_of 0 hq
      have zt1 := cell_of 1 hq
      have zt2 := cell_of 2 hq
      have z0 := cell_of 0 K1.out.tok
      have y0 := free_of 0 K1.out.tok
      have z3 := cell_of 3 K1.out.tok
      have y3 := free_of 3 K1.out.tok
      have z5 := cell_of 5 K1.out.tok
      have y5 := free_of 5 K1.out.tok
      have z2 := cell_of 2 K1.out.tok
      have y2 := free_of 2 K1.out.tok
      go_region
      have KU : Hid (RN w ((((v0.setCell ⟨w.heap.size + 1, 0, none⟩ (.int .i64 7)).setCell ⟨w.heap.size + 1, 3, none⟩ (.string ⟨s.toArray⟩)).setCell ⟨w.heap.size + 1, 5, none⟩ (.slice PA pn pc)).setCell ⟨w.heap.size + 1, 2, none⟩ (.int .i64 (t : Int))).drew #[.int .i64 0, .int .i64 0, .int .i64 0, .string ⟨#[]⟩, .string ⟨#[]⟩, .slice none 0 0, .int .i64 0] #[.int .i64 7, .int .i64 (k : Int), .int .i64 (t : Int), .string ⟨s.toArray⟩, .string ⟨#[]⟩, .slice PA pn pc, .int .i64 0]) := Lib.hid (((((K1.out.set 0 (.int .i64 7)).set 3 (.string ⟨s.toArray⟩)).set 5 (.slice PA pn pc)).set 2 (.int .i64 (t : Int))).drewN 1)
      have hUo : ∀ b, b ≠ w.heap.size + 1 → (((((v0.setCell ⟨w.heap.size + 1, 0, none⟩ (.int .i64 7)).setCell ⟨w.heap.size + 1, 3, none⟩ (.string ⟨s.toArray⟩)).setCell ⟨w.heap.size + 1, 5, none⟩ (.slice PA pn pc)).setCell ⟨w.heap.size + 1, 2, none⟩ (.int .i64 (t : Int))).drew).heap[b]? = v0.heap[b]? := fun b hb => by
        show ((((v0.setCell ⟨w.heap.size + 1, 0, none⟩ (.int .i64 7)).setCell ⟨w.heap.size + 1, 3, none⟩ (.string ⟨s.toArray⟩)).setCell ⟨w.heap.size + 1, 5, none⟩ (.slice PA pn pc)).setCell ⟨w.heap.size + 1, 2, none⟩ (.int .i64 (t : Int))).heap[b]? = v0.heap[b]?
        rw [hp_other (by omega), hp_other (by omega), hp_other (by omega), hp_other (by omega)]
      have hUs : (((((v0.setCell ⟨w.heap.size + 1, 0, none⟩ (.int .i64 7)).setCell ⟨w.heap.size + 1, 3, none⟩ (.string ⟨s.toArray⟩)).setCell ⟨w.heap.size + 1, 5, none⟩ (.slice PA pn pc)).setCell ⟨w.heap.size + 1, 2, none⟩ (.int .i64 (t : Int))).drew).heap.size = v0.heap.size := by
        show ((((v0.setCell ⟨w.heap.size + 1, 0, none⟩ (.int .i64 7)).setCell ⟨w.heap.size + 1, 3, none⟩ (.string ⟨s.toArray⟩)).setCell ⟨w.heap.size + 1, 5, none⟩ (.slice PA pn pc)).setCell ⟨w.heap.size + 1, 2, none⟩ (.int .i64 (t : Int))).heap.size = v0.heap.size
        simp
      clear zt0 zt1 zt2 z0 y0 z3 y3 z5 y5 z2 y2
      generalize ((((v0.setCell ⟨w.heap.size + 1, 0, none⟩ (.int .i64 7)).setCell ⟨w.heap.size + 1, 3, none⟩ (.string ⟨s.toArray⟩)).setCell ⟨w.heap.size + 1, 5, none⟩ (.slice PA pn pc)).setCell ⟨w.heap.size + 1, 2, none⟩ (.int .i64 (t : Int))).drew = U at *
      have zt2 := cell_of 2 ((hUo u0.heap.size (by omega)).trans hq)
      have z0 := cell_of 0 KU.out.tok
      have y0 := free_of 0 KU.out.tok
      have KV : Hid (RN w (U.setCell ⟨w.heap.size + 1, 0, none⟩ (.int .i64 8)) #[.int .i64 0, .int .i64 0, .int .i64 0, .string ⟨#[]⟩, .string ⟨#[]⟩, .slice none 0 0, .int .i64 0] #[.int .i64 8, .int .i64 (k : Int), .int .i64 (t : Int), .string ⟨s.toArray⟩, .string ⟨#[]⟩, .slice PA pn pc, .int .i64 0]) := Lib.hid (KU.out.set 0 (.int .i64 8))
      have JF := Lib.hid (KV.out.row #[.int .i64 8, .int .i64 (k : Int), .int .i64 (t : Int), .string ⟨s.toArray⟩, .string ⟨#[]⟩, .slice PA pn pc, .int .i64 0])
      go_wp2_with (first | (refine wpList_load_row rfl _ _ rfl (w.heap.size + 1) rfl _ _ _ _ KV.out.tok HU.out.2 rfl HU.out.1 ?_) | (refine wpList_store_row rfl _ _ _ rfl w.heap.size #[.int .i64 8, .int .i64 (k : Int), .int .i64 (t : Int), .string ⟨s.toArray⟩, .string ⟨#[]⟩, .slice PA pn pc, .int .i64 0] rfl rfl _ _ KV.out.res (by kernel_rfl) rfl (by kernel_rfl) ?_))
      (try simp only [Exit.inBlock, Exit.then])
      refine bodyPost_ret (results_cell2 rfl _ _ w.heap.size _ _ _ _ rfl JF.out.res HU.out.2 rfl HU.out.1) rfl (TokPost.of PA pn pc rfl (HP.out.1.move ?_ ?_) JF.out.below fun b i h => Nat.le_of_lt (Nat.lt_of_succ_lt (HP.out.2 b i h)))
      · simp [World.setRow]; omega
      · intro b' i' hA hb'
        have hlt := HP.out.2 b' i' hA
        rw [setRow_at _ _ _ _ (by omega), hp_other (by omega), hUo b' (by omega)]
    · rw [if_neg he]
      have hei : ((e : Int) == 0) = false := by simp; omega
      go_enter Tryz.func11, Tryz.ntmps11
      have zc := HC.out _ _ _ J0.out
      go_wp2_with fail
      refine (S0.out _ _ _ J0.out).mono ?_
      rintro e wq ⟨rfl, rfl⟩
      go_wp2_with fail
      refine (S1.out _ _ _ J0.out).mono ?_
      rintro e wq ⟨rfl, rfl⟩
      go_wp2_with fail
      refine (S2.out _ _ _ J0.out).mono ?_
      rintro e wq ⟨rfl, rfl⟩
      go_wp2_with fail
      refine (S3.out _ _ _ J0.out).mono ?_
      rintro e wq ⟨rfl, rfl⟩
      go_wp2_with fail
      refine (C.out _ _ _ J0.out).mono ?_
      rintro e0 u0 ⟨PA, pn, pc, rfl, hpr, hb, hlo⟩
      have K0 := J0.out.kept hb
      have ka := (Below.refl _ u0).alloc (Nat.le_refl _) (.cells #[.string ⟨s.toArray⟩, .slice PA pn pc, .bool true] 63)
      have K1 := Lib.hid (K0.kept ka)
      have hq := hp_new u0 (.cells #[.string ⟨s.toArray⟩, .slice PA pn pc, .bool true] 63)
      have HP := Lib.hid (And.intro (hpr.below ka) (fun b i h => Nat.lt_of_lt_of_le J0.out.size (hlo b i h)))
      have hlt := K0.size
      clear hpr hb hlo K0 ka zc
      go_wp2_with fail
      generalize hv : u0.alloc (.cells #[.string ⟨s.toArray⟩, .slice PA pn pc, .bool true] 63) = v0 at *
      have hvs : v0.heap.size = u0.heap.size + 1 := by rw [← hv, World.size_alloc]
      clear hv
      have zt0 := cell_of 0 hq
      have zt1 := cell_of 1 hq
      have zt2 := cell_of 2 hq
      have z0 := cell_of 0 K1.out.tok
      have y0 := free_of 0 K1.out.tok
      have z3 := cell_of 3 K1.out.tok
      have y3 := free_of 3 K1.out.tok
      have z5 := cell_of 5 K1.out.tok
      have y5 := free_of 5 K1.out.tok
      have z2 := cell_of 2 K1.out.tok
      have y2 := free_of 2 K1.out.tok
      go_region
      have KU : Hid (RN w ((((v0.setCell ⟨w.heap.size + 1, 0, none⟩ (.int .i64 7)).setCell ⟨w.heap.size + 1, 3, none⟩ (.string ⟨s.toArray⟩)).setCell ⟨w.heap.size + 1, 5, none⟩ (.slice PA pn pc)).setCell ⟨w.heap.size + 1, 2, none⟩ (.int .i64 (t : Int))).drew #[.int .i64 0, .int .i64 0, .int .i64 0, .string ⟨#[]⟩, .string ⟨#[]⟩, .slice none 0 0, .int .i64 0] #[.int .i64 7, .int .i64 (k : Int), .int .i64 (t : Int), .string ⟨s.toArray⟩, .string ⟨#[]⟩, .slice PA pn pc, .int .i64 0]) := Lib.hid (((((K1.out.set 0 (.int .i64 7)).set 3 (.string ⟨s.toArray⟩)).set 5 (.slice PA pn pc)).set 2 (.int .i64 (t : Int))).drewN 1)
      have hUo : ∀ b, b ≠ w.heap.size + 1 → (((((v0.setCell ⟨w.heap.size + 1, 0, none⟩ (.int .i64 7)).setCell ⟨w.heap.size + 1, 3, none⟩ (.string ⟨s.toArray⟩)).setCell ⟨w.heap.size + 1, 5, none⟩ (.slice PA pn pc)).setCell ⟨w.heap.size + 1, 2, none⟩ (.int .i64 (t : Int))).drew).heap[b]? = v0.heap[b]? := fun b hb => by
        show ((((v0.setCell ⟨w.heap.size + 1, 0, none⟩ (.int .i64 7)).setCell ⟨w.heap.size + 1, 3, none⟩ (.string ⟨s.toArray⟩)).setCell ⟨w.heap.size + 1, 5, none⟩ (.slice PA pn pc)).setCell ⟨w.heap.size + 1, 2, none⟩ (.int .i64 (t : Int))).heap[b]? = v0.heap[b]?
        rw [hp_other (by omega), hp_other (by omega), hp_other (by omega), hp_other (by omega)]
      have hUs : (((((v0.setCell ⟨w.heap.size + 1, 0, none⟩ (.int .i64 7)).setCell ⟨w.heap.size + 1, 3, none⟩ (.string ⟨s.toArray⟩)).setCell ⟨w.heap.size + 1, 5, none⟩ (.slice PA pn pc)).setCell ⟨w.heap.size + 1, 2, none⟩ (.int .i64 (t : Int))).drew).heap.size = v0.heap.size := by
        show ((((v0.setCell ⟨w.heap.size + 1, 0, none⟩ (.int .i64 7)).setCell ⟨w.heap.size + 1, 3, none⟩ (.string ⟨s.toArray⟩)).setCell ⟨w.heap.size + 1, 5, none⟩ (.slice PA pn pc)).setCell ⟨w.heap.size + 1, 2, none⟩ (.int .i64 (t : Int))).heap.size = v0.heap.size
        simp
      clear zt0 zt1 zt2 z0 y0 z3 y3 z5 y5 z2 y2
      generalize ((((v0.setCell ⟨w.heap.size + 1, 0, none⟩ (.int .i64 7)).setCell ⟨w.heap.size + 1, 3, none⟩ (.string ⟨s.toArray⟩)).setCell ⟨w.heap.size + 1, 5, none⟩ (.slice PA pn pc)).setCell ⟨w.heap.size + 1, 2, none⟩ (.int .i64 (t : Int))).drew = U at *
      have zt2 := cell_of 2 ((hUo u0.heap.size (by omega)).trans hq)
      have z0 := cell_of 0 KU.out.tok
      have y0 := free_of 0 KU.out.tok
      have KV : Hid (RN w (U.setCell ⟨w.heap.size + 1, 0, none⟩ (.int .i64 8)) #[.int .i64 0, .int .i64 0, .int .i64 0, .string ⟨#[]⟩, .string ⟨#[]⟩, .slice none 0 0, .int .i64 0] #[.int .i64 8, .int .i64 (k : Int), .int .i64 (t : Int), .string ⟨s.toArray⟩, .string ⟨#[]⟩, .slice PA pn pc, .int .i64 0]) := Lib.hid (KU.out.set 0 (.int .i64 8))
      have JF := Lib.hid (KV.out.row #[.int .i64 0, .int .i64 0, .int .i64 0, .string ⟨#[]⟩, .string ⟨#[]⟩, .slice none 0 0, .int .i64 0])
      go_wp2_with (refine wpList_store_row rfl _ _ _ rfl w.heap.size #[.int .i64 0, .int .i64 0, .int .i64 0, .string ⟨#[]⟩, .string ⟨#[]⟩, .slice none 0 0, .int .i64 0] rfl rfl _ _ KV.out.res (by kernel_rfl) rfl (by kernel_rfl) ?_)
      (try simp only [Exit.inBlock, Exit.then])
      exact bodyPost_ret (results_cell2 rfl _ _ w.heap.size _ _ _ _ rfl JF.out.res HU.out.2 rfl HU.out.1) rfl (TokPost.no rfl JF.out.below)
end Go.Proofs.YtmclngahdklfkaaGreatDoor
