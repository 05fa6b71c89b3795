/- Texts of ours, joined: XdM. -/
import Derived.Test.YtgenpgfhjhcahaaGreatDoorRows
import Derived.WalkKit
import Derived.ProofKit
import Derived.OpenShut
import Derived.ShutString
import Derived.ChangeOld
import Derived.Below
import Derived.BigQuiet
import Derived.Deep.QuietTactic
import Derived.Lib.Hide
import Derived.Deep.RegionHeld3
import Derived.Lib.SlBytesConst
import Derived.Laws.CopyOwn
import Derived.Laws.CopyRow
import Derived.Lib.Bytes
import Derived.Deep.LoopGhost
import Derived.Deep.DeepFit
import Derived.Deep.DeepMust
import Derived.WalkSpells
import Derived.WalkLawsBesides
import Derived.Laws.EntriesVeiled
import Derived.Laws.Rows
import Derived.Deep.RegionWith
import Derived.LoopN
import Derived.Test.YtgenpgfhjhcahaaGreatDoorQ1
import Derived.Test.YtgenpgfhjhcahaaGreatDoorQ8
import Derived.Test.YtgenpgfhjhcahaaGreatDoorQ2
import Derived.Test.YtgenpgfhjhcahaaGreatDoorQ7
import Derived.Test.YtgenpgfhjhcahaaGreatDoorQ9
import Derived.Test.YtgenpgfhjhcahaaGreatDoorQ15
import Derived.Test.YtgenpgfhjhcahaaGreatDoorQ16
/- narthex/xdecl.read, way by way. -/
namespace Go.Proofs.YtgenpgfhjhcahaaGreatDoor
open Go.ChangeShapes Go.WideShapes Go.ChangeAt Go.RowKit
set_option linter.unusedVariables false
/-- While the parts are read: all below stands but the declaration's block, and it. -/
def RJ (g : Nat) (vs : Array Value) (w W : World) : Prop := Fr w.heap.size g w W ∧ W.heap[g]? = some (.cells vs 41)
theorem RJ.kept {g : Nat} {vs : Array Value} {w W W' : World} (h : RJ g vs w W) (hb : Below W.heap.size W W') : RJ g vs w W' :=
  ⟨h.1.trans (Fr.ofBelow (hb.mono h.1.size)), by rw [hb.block _ (lt_of h.2)]; exact h.2⟩
theorem RJ.set {g : Nat} {vs : Array Value} {w W : World} (h : RJ g vs w W) (i : Nat) (v : Value) : RJ g (vs.setIfInBounds i v) w (W.setCell ⟨g, i, none⟩ v) := ⟨h.1.set i v, hp_set h.2⟩
theorem RJ.cell {g : Nat} {vs : Array Value} {w W : World} (h : RJ g vs w W) {b i : Nat} (hb : b < w.heap.size) (hg : b ≠ g) : W.cell? ⟨b, i, none⟩ = w.cell? ⟨b, i, none⟩ := by
  unfold World.cell?
  rw [h.1.block b hb hg]
theorem RJ.byt {g : Nat} {vs : Array Value} {w W : World} (h : RJ g vs w W) {B n cap : Nat} {A : Option Addr} {l : List UInt8} (hB : Byt w B A n cap l) (hg : B ≤ g) (hw : B ≤ w.heap.size) : Byt W B A n cap l :=
  hB.below (h.1.below hw hg)
theorem partRead_out (o : Option (List UInt8 × Nat)) (word : List UInt8) (fid : Nat) (may : List UInt8 → Bool) (must : Bool) (g idx : Nat) (vs : Array Value) (T : TypeId) (A : Option Addr) (n cap : Nat) (l : List UInt8) (k : Nat) (w : World) (h : Byt w w.heap.size A n cap l) (hm : n ≤ 40000) (hk : k ≤ n)
    (hw0 : 0 < word.length) (hwl : word.length ≤ 100) (hg : w.heap[g]? = some (.cells vs T)) (hidx : idx < vs.size)
    (ec : ∀ args w, (callFunc fid args).run Tryz.prog w = .ok (.enter fid args) w) (HM : ∀ s : List UInt8, s.length ≤ n → ∀ W, Below w.heap.size w W → Calls Tryz.prog fid #[.string ⟨s.toArray⟩] W fun e w' => e = .returned (.bool (may s)) ∧ Below W.heap.size W w') (ho : partOut word may l k = o) :
    Calls Tryz.prog 92 #[.agg #[.string ⟨word.toArray⟩, .func (.func fid) #[] #[], .pointer (some ⟨g, idx, none⟩), .bool must], .slice A n cap, .int .i64 k] w fun e w' => PartPost o k g idx w e w' := by
  subst ho
  exact partRead_c word fid may must g idx vs T A n cap l k w h hm hk hw0 hwl hg hidx ec HM
theorem PartPost.same {s : List UInt8} {k g idx : Nat} {w : World} {e : Ending} {w' : World} (h : PartPost (some (s, k)) k g idx w e w') : e = .returned (.tuple #[.int .i64 (k : Int), .int .i64 0]) ∧ Below w.heap.size w w' := by
  unfold PartPost at h
  simpa using h
theorem PartPost.found {s : List UInt8} {k j g idx : Nat} {w : World} {e : Ending} {w' : World} (h : PartPost (some (s, j)) k g idx w e w') (hj : k < j) : e = .returned (.tuple #[.int .i64 (j : Int), .int .i64 0]) ∧ ∃ w1, Below w.heap.size w w1 ∧ w' = w1.setCell ⟨g, idx, none⟩ (.string ⟨s.toArray⟩) := by
  unfold PartPost at h
  simp only at h
  rwa [if_neg (by omega)] at h
set_option maxRecDepth 100000 in
set_option maxHeartbeats 8000000 in
theorem xdRead_f_none (g P B : Nat) (A : Option Addr) (n cap : Nat) (l : List UInt8) (k : Nat) (w : World) (h : Byt w B A n cap l) (hm : n ≤ 40000) (hk : k + 5 ≤ n) (hBg : B ≤ g) (hT : FoldT w) (hTB : 2 < B) (hg : w.heap[g]? = some (.cells #[.bool false, .string ⟨#[]⟩, .string ⟨#[]⟩, .string ⟨#[]⟩] 41)) (hgP : g < P)
    (hP : w.heap[P]? = some (.cells #[.string ⟨#[118, 101, 114, 115, 105, 111, 110]⟩, .func (.func 46) #[] #[], .pointer (some ⟨g, 1, none⟩), .bool true, .string ⟨#[101, 110, 99, 111, 100, 105, 110, 103]⟩, .func (.func 47) #[] #[], .pointer (some ⟨g, 2, none⟩), .bool false, .string ⟨#[115, 116, 97, 110, 100, 97, 108, 111, 110, 101]⟩, .func (.func 48) #[] #[], .pointer (some ⟨g, 3, none⟩), .bool false] 122)) (ho0 : partOut verW verB l (k + 5) = none) :
    Calls Tryz.prog 65 #[.slice A n cap, .int .i64 k, .pointer (some ⟨g, 0, none⟩), .slice (some ⟨P, 0, none⟩) 3 3] w fun e w' => e = .returned (.tuple #[.int .i64 0, .int .i64 7]) ∧ RJ g #[.bool false, .string ⟨#[]⟩, .string ⟨#[]⟩, .string ⟨#[]⟩] w w' := by
  have hln := h.length
  have hgl := lt_of hg
  have hPl := lt_of hP
  have HJ : Hid (RJ g #[.bool false, .string ⟨#[]⟩, .string ⟨#[]⟩, .string ⟨#[]⟩] w w) := Lib.hid ⟨Fr.refl _ _ _, hg⟩
  have HX : Hid (∀ vs W, RJ g vs w W → W.cell? ⟨P, 0, none⟩ = some (.string ⟨#[118, 101, 114, 115, 105, 111, 110]⟩) ∧ W.cell? ⟨P, 1, none⟩ = some (.func (.func 46) #[] #[]) ∧ W.cell? ⟨P, 2, none⟩ = some (.pointer (some ⟨g, 1, none⟩)) ∧ W.cell? ⟨P, 3, none⟩ = some (.bool true) ∧ W.cell? ⟨P, 4, none⟩ = some (.string ⟨#[101, 110, 99, 111, 100, 105, 110, 103]⟩) ∧ W.cell? ⟨P, 5, none⟩ = some (.func (.func 47) #[] #[]) ∧ W.cell? ⟨P, 6, none⟩ = some (.pointer (some ⟨g, 2, none⟩)) ∧ W.cell? ⟨P, 7, none⟩ = some (.bool false) ∧ W.cell? ⟨P, 8, none⟩ = some (.string ⟨#[115, 116, 97, 110, 100, 97, 108, 111, 110, 101]⟩) ∧ W.cell? ⟨P, 9, none⟩ = some (.func (.func 48) #[] #[]) ∧ W.cell? ⟨P, 10, none⟩ = some (.pointer (some ⟨g, 3, none⟩)) ∧ W.cell? ⟨P, 11, none⟩ = some (.bool false)) := Lib.hid fun vs W hJ => by
    have hne : P ≠ g := by omega
    refine ⟨?_, ?_, ?_, ?_, ?_, ?_, ?_, ?_, ?_, ?_, ?_, ?_⟩ <;> (rw [hJ.cell hPl hne, cell_of _ hP]; rfl)
  have HB : Hid (∀ vs W, RJ g vs w W → Byt W B A n cap l ∧ B ≤ W.heap.size ∧ FoldT W) := Lib.hid fun vs W hJ => ⟨hJ.byt h hBg (by omega), by have := hJ.1.size; omega, hT.below (hJ.1.below (B := B) (by omega) hBg) hTB⟩
  have P0 : Hid (∀ W, RJ g #[.bool false, .string ⟨#[]⟩, .string ⟨#[]⟩, .string ⟨#[]⟩] w W → Calls Tryz.prog 92 #[.agg #[.string ⟨#[118, 101, 114, 115, 105, 111, 110]⟩, .func (.func 46) #[] #[], .pointer (some ⟨g, 1, none⟩), .bool true], .slice A n cap, .int .i64 ((k + 5) : Nat)] W fun e w' => e = .returned (.tuple #[.int .i64 0, .int .i64 7]) ∧ Below W.heap.size W w') := Lib.hid fun W hJ => by
    obtain ⟨hb1, hb2, hb3⟩ := HB.out _ W hJ
    exact (partRead_out (none) verW 46 verB true g 1 #[.bool false, .string ⟨#[]⟩, .string ⟨#[]⟩, .string ⟨#[]⟩] 41 A n cap l (k + 5) W (hb1.more hb2) hm (by omega) (by decide) (by decide) hJ.2 (by show (1 : Nat) < 4; decide) (enters_of Tryz.func46 (by kernel_rfl) rfl) (fun s hs W' hb => version_c s W' (by omega)) ho0).mono fun e w' hp => hp
  rw [show ((k + 5 : Nat) : Int) = (k : Int) + 5 by omega] at P0
  have hk0 : (0 : Int) ≤ (k : Int) := by omega
  have hk1 : (k : Int) ≤ 40000 := by omega
  clear h hT hTB hg hP hln hBg HB hk hm hPl hgP ho0 
  go_enter Tryz.func65, Tryz.ntmps65
  go_wp2_with fail
  go_step3
  go_wp2_with fail
  go_step3
  go_wp2_with fail
  refine wp_loop_rounds 4 ?_
  rw [rounds_succ]
  obtain ⟨x0, x1, x2, x3, x4, x5, x6, x7, x8, x9, x10, x11⟩ := HX.out _ _ HJ.out
  clear x4 x5 x6 x7 x8 x9 x10 x11
  have hn0 := hp_new w (.cells #[.string ⟨#[118, 101, 114, 115, 105, 111, 110]⟩, .func (.func 46) #[] #[], .pointer (some ⟨g, 1, none⟩), .bool true] 122)
  have JA0 := Lib.hid (HJ.out.kept ((Below.refl _ w).alloc (Nat.le_refl _) (.cells #[.string ⟨#[118, 101, 114, 115, 105, 111, 110]⟩, .func (.func 46) #[] #[], .pointer (some ⟨g, 1, none⟩), .bool true] 122)))
  go_wp2_with fail
  clear x0 x1 x2 x3
  refine (P0.out _ JA0.out).mono ?_
  rintro e u1 ⟨rfl, hb1⟩
  have J0 := Lib.hid (JA0.out.kept hb1)
  clear hb1 hn0 JA0
  go_wp2
  (try rw [Exit.noGoto_ret])
  go_ret2
  exact ⟨rfl, J0.out⟩
set_option maxRecDepth 100000 in
set_option maxHeartbeats 8000000 in
theorem xdRead_f_found_none (g P B : Nat) (A : Option Addr) (n cap : Nat) (l : List UInt8) (k : Nat) (w : World) (h : Byt w B A n cap l) (hm : n ≤ 40000) (hk : k + 5 ≤ n) (hBg : B ≤ g) (hT : FoldT w) (hTB : 2 < B) (hg : w.heap[g]? = some (.cells #[.bool false, .string ⟨#[]⟩, .string ⟨#[]⟩, .string ⟨#[]⟩] 41)) (hgP : g < P)
    (hP : w.heap[P]? = some (.cells #[.string ⟨#[118, 101, 114, 115, 105, 111, 110]⟩, .func (.func 46) #[] #[], .pointer (some ⟨g, 1, none⟩), .bool true, .string ⟨#[101, 110, 99, 111, 100, 105, 110, 103]⟩, .func (.func 47) #[] #[], .pointer (some ⟨g, 2, none⟩), .bool false, .string ⟨#[115, 116, 97, 110, 100, 97, 108, 111, 110, 101]⟩, .func (.func 48) #[] #[], .pointer (some ⟨g, 3, none⟩), .bool false] 122)) (s0 : List UInt8) (j0 : Nat) (ho0 : partOut verW verB l (k + 5) = some (s0, j0)) (hlt0 : (k + 5) < j0) (hle0 : j0 ≤ n) (ho1 : partOut encW encB l j0 = none) :
    Calls Tryz.prog 65 #[.slice A n cap, .int .i64 k, .pointer (some ⟨g, 0, none⟩), .slice (some ⟨P, 0, none⟩) 3 3] w fun e w' => e = .returned (.tuple #[.int .i64 0, .int .i64 7]) ∧ RJ g #[.bool false, .string ⟨s0.toArray⟩, .string ⟨#[]⟩, .string ⟨#[]⟩] w w' := by
  have hln := h.length
  have hgl := lt_of hg
  have hPl := lt_of hP
  have HJ : Hid (RJ g #[.bool false, .string ⟨#[]⟩, .string ⟨#[]⟩, .string ⟨#[]⟩] w w) := Lib.hid ⟨Fr.refl _ _ _, hg⟩
  have HX : Hid (∀ vs W, RJ g vs w W → W.cell? ⟨P, 0, none⟩ = some (.string ⟨#[118, 101, 114, 115, 105, 111, 110]⟩) ∧ W.cell? ⟨P, 1, none⟩ = some (.func (.func 46) #[] #[]) ∧ W.cell? ⟨P, 2, none⟩ = some (.pointer (some ⟨g, 1, none⟩)) ∧ W.cell? ⟨P, 3, none⟩ = some (.bool true) ∧ W.cell? ⟨P, 4, none⟩ = some (.string ⟨#[101, 110, 99, 111, 100, 105, 110, 103]⟩) ∧ W.cell? ⟨P, 5, none⟩ = some (.func (.func 47) #[] #[]) ∧ W.cell? ⟨P, 6, none⟩ = some (.pointer (some ⟨g, 2, none⟩)) ∧ W.cell? ⟨P, 7, none⟩ = some (.bool false) ∧ W.cell? ⟨P, 8, none⟩ = some (.string ⟨#[115, 116, 97, 110, 100, 97, 108, 111, 110, 101]⟩) ∧ W.cell? ⟨P, 9, none⟩ = some (.func (.func 48) #[] #[]) ∧ W.cell? ⟨P, 10, none⟩ = some (.pointer (some ⟨g, 3, none⟩)) ∧ W.cell? ⟨P, 11, none⟩ = some (.bool false)) := Lib.hid fun vs W hJ => by
    have hne : P ≠ g := by omega
    refine ⟨?_, ?_, ?_, ?_, ?_, ?_, ?_, ?_, ?_, ?_, ?_, ?_⟩ <;> (rw [hJ.cell hPl hne, cell_of _ hP]; rfl)
  have HB : Hid (∀ vs W, RJ g vs w W → Byt W B A n cap l ∧ B ≤ W.heap.size ∧ FoldT W) := Lib.hid fun vs W hJ => ⟨hJ.byt h hBg (by omega), by have := hJ.1.size; omega, hT.below (hJ.1.below (B := B) (by omega) hBg) hTB⟩
  have P0 : Hid (∀ W, RJ g #[.bool false, .string ⟨#[]⟩, .string ⟨#[]⟩, .string ⟨#[]⟩] w W → Calls Tryz.prog 92 #[.agg #[.string ⟨#[118, 101, 114, 115, 105, 111, 110]⟩, .func (.func 46) #[] #[], .pointer (some ⟨g, 1, none⟩), .bool true], .slice A n cap, .int .i64 ((k + 5) : Nat)] W fun e w' => e = .returned (.tuple #[.int .i64 (j0 : Int), .int .i64 0]) ∧ ∃ w1, Below W.heap.size W w1 ∧ w' = w1.setCell ⟨g, 1, none⟩ (.string ⟨s0.toArray⟩)) := Lib.hid fun W hJ => by
    obtain ⟨hb1, hb2, hb3⟩ := HB.out _ W hJ
    exact (partRead_out (some (s0, j0)) verW 46 verB true g 1 #[.bool false, .string ⟨#[]⟩, .string ⟨#[]⟩, .string ⟨#[]⟩] 41 A n cap l (k + 5) W (hb1.more hb2) hm (by omega) (by decide) (by decide) hJ.2 (by show (1 : Nat) < 4; decide) (enters_of Tryz.func46 (by kernel_rfl) rfl) (fun s hs W' hb => version_c s W' (by omega)) ho0).mono fun e w' hp => hp.found hlt0
  rw [show ((k + 5 : Nat) : Int) = (k : Int) + 5 by omega] at P0
  have P1 : Hid (∀ W, RJ g #[.bool false, .string ⟨s0.toArray⟩, .string ⟨#[]⟩, .string ⟨#[]⟩] w W → Calls Tryz.prog 92 #[.agg #[.string ⟨#[101, 110, 99, 111, 100, 105, 110, 103]⟩, .func (.func 47) #[] #[], .pointer (some ⟨g, 2, none⟩), .bool false], .slice A n cap, .int .i64 (j0 : Nat)] W fun e w' => e = .returned (.tuple #[.int .i64 0, .int .i64 7]) ∧ Below W.heap.size W w') := Lib.hid fun W hJ => by
    obtain ⟨hb1, hb2, hb3⟩ := HB.out _ W hJ
    exact (partRead_out (none) encW 47 encB false g 2 #[.bool false, .string ⟨s0.toArray⟩, .string ⟨#[]⟩, .string ⟨#[]⟩] 41 A n cap l j0 W (hb1.more hb2) hm (by omega) (by decide) (by decide) hJ.2 (by show (2 : Nat) < 4; decide) (enters_of Tryz.func47 (by kernel_rfl) rfl) (fun s hs W' hb => encoding_c s W' (hb3.below hb hb3.lt)) ho1).mono fun e w' hp => hp
  have hk0 : (0 : Int) ≤ (k : Int) := by omega
  have hk1 : (k : Int) ≤ 40000 := by omega
  have e0 : ((j0 : Int) == (k : Int) + 5) = false := by simp; omega
  clear h hT hTB hg hP hln hBg HB hk hm hPl hgP ho0 ho1 hlt0 hle0
  go_enter Tryz.func65, Tryz.ntmps65
  go_wp2_with fail
  go_step3
  go_wp2_with fail
  go_step3
  go_wp2_with fail
  refine wp_loop_rounds 4 ?_
  rw [rounds_succ]
  obtain ⟨x0, x1, x2, x3, x4, x5, x6, x7, x8, x9, x10, x11⟩ := HX.out _ _ HJ.out
  clear x4 x5 x6 x7 x8 x9 x10 x11
  have hn0 := hp_new w (.cells #[.string ⟨#[118, 101, 114, 115, 105, 111, 110]⟩, .func (.func 46) #[] #[], .pointer (some ⟨g, 1, none⟩), .bool true] 122)
  have JA0 := Lib.hid (HJ.out.kept ((Below.refl _ w).alloc (Nat.le_refl _) (.cells #[.string ⟨#[118, 101, 114, 115, 105, 111, 110]⟩, .func (.func 46) #[] #[], .pointer (some ⟨g, 1, none⟩), .bool true] 122)))
  go_wp2_with fail
  clear x0 x1 x2 x3
  refine (P0.out _ JA0.out).mono ?_
  rintro e w1 ⟨rfl, v1, hb1, rfl⟩
  have J0 : Hid (RJ g #[.bool false, .string ⟨s0.toArray⟩, .string ⟨#[]⟩, .string ⟨#[]⟩] w (v1.setCell ⟨g, 1, none⟩ (.string ⟨s0.toArray⟩))) := Lib.hid ((JA0.out.kept hb1).set 1 (.string ⟨s0.toArray⟩))
  clear hb1 hn0 JA0
  generalize v1.setCell ⟨g, 1, none⟩ (.string ⟨s0.toArray⟩) = u1 at *
  go_wp2
  rw [rounds_succ]
  obtain ⟨x0, x1, x2, x3, x4, x5, x6, x7, x8, x9, x10, x11⟩ := HX.out _ _ J0.out
  clear x0 x1 x2 x3 x8 x9 x10 x11
  have hn1 := hp_new u1 (.cells #[.string ⟨#[101, 110, 99, 111, 100, 105, 110, 103]⟩, .func (.func 47) #[] #[], .pointer (some ⟨g, 2, none⟩), .bool false] 122)
  have JA1 := Lib.hid (J0.out.kept ((Below.refl _ u1).alloc (Nat.le_refl _) (.cells #[.string ⟨#[101, 110, 99, 111, 100, 105, 110, 103]⟩, .func (.func 47) #[] #[], .pointer (some ⟨g, 2, none⟩), .bool false] 122)))
  go_wp2_with fail
  clear x4 x5 x6 x7
  refine (P1.out _ JA1.out).mono ?_
  rintro e u2 ⟨rfl, hb2⟩
  have J1 := Lib.hid (JA1.out.kept hb2)
  clear hb2 hn1 JA1
  go_wp2
  (try rw [Exit.noGoto_ret])
  go_ret2
  exact ⟨rfl, J1.out⟩
set_option maxRecDepth 100000 in
set_option maxHeartbeats 8000000 in
theorem xdRead_f_found_same_none (g P B : Nat) (A : Option Addr) (n cap : Nat) (l : List UInt8) (k : Nat) (w : World) (h : Byt w B A n cap l) (hm : n ≤ 40000) (hk : k + 5 ≤ n) (hBg : B ≤ g) (hT : FoldT w) (hTB : 2 < B) (hg : w.heap[g]? = some (.cells #[.bool false, .string ⟨#[]⟩, .string ⟨#[]⟩, .string ⟨#[]⟩] 41)) (hgP : g < P)
    (hP : w.heap[P]? = some (.cells #[.string ⟨#[118, 101, 114, 115, 105, 111, 110]⟩, .func (.func 46) #[] #[], .pointer (some ⟨g, 1, none⟩), .bool true, .string ⟨#[101, 110, 99, 111, 100, 105, 110, 103]⟩, .func (.func 47) #[] #[], .pointer (some ⟨g, 2, none⟩), .bool false, .string ⟨#[115, 116, 97, 110, 100, 97, 108, 111, 110, 101]⟩, .func (.func 48) #[] #[], .pointer (some ⟨g, 3, none⟩), .bool false] 122)) (s0 : List UInt8) (j0 : Nat) (ho0 : partOut verW verB l (k + 5) = some (s0, j0)) (hlt0 : (k + 5) < j0) (hle0 : j0 ≤ n) (ho1 : partOut encW encB l j0 = some ([], j0)) (ho2 : partOut aloneW aloneB l j0 = none) :
    Calls Tryz.prog 65 #[.slice A n cap, .int .i64 k, .pointer (some ⟨g, 0, none⟩), .slice (some ⟨P, 0, none⟩) 3 3] w fun e w' => e = .returned (.tuple #[.int .i64 0, .int .i64 7]) ∧ RJ g #[.bool false, .string ⟨s0.toArray⟩, .string ⟨#[]⟩, .string ⟨#[]⟩] w w' := by
  have hln := h.length
  have hgl := lt_of hg
  have hPl := lt_of hP
  have HJ : Hid (RJ g #[.bool false, .string ⟨#[]⟩, .string ⟨#[]⟩, .string ⟨#[]⟩] w w) := Lib.hid ⟨Fr.refl _ _ _, hg⟩
  have HX : Hid (∀ vs W, RJ g vs w W → W.cell? ⟨P, 0, none⟩ = some (.string ⟨#[118, 101, 114, 115, 105, 111, 110]⟩) ∧ W.cell? ⟨P, 1, none⟩ = some (.func (.func 46) #[] #[]) ∧ W.cell? ⟨P, 2, none⟩ = some (.pointer (some ⟨g, 1, none⟩)) ∧ W.cell? ⟨P, 3, none⟩ = some (.bool true) ∧ W.cell? ⟨P, 4, none⟩ = some (.string ⟨#[101, 110, 99, 111, 100, 105, 110, 103]⟩) ∧ W.cell? ⟨P, 5, none⟩ = some (.func (.func 47) #[] #[]) ∧ W.cell? ⟨P, 6, none⟩ = some (.pointer (some ⟨g, 2, none⟩)) ∧ W.cell? ⟨P, 7, none⟩ = some (.bool false) ∧ W.cell? ⟨P, 8, none⟩ = some (.string ⟨#[115, 116, 97, 110, 100, 97, 108, 111, 110, 101]⟩) ∧ W.cell? ⟨P, 9, none⟩ = some (.func (.func 48) #[] #[]) ∧ W.cell? ⟨P, 10, none⟩ = some (.pointer (some ⟨g, 3, none⟩)) ∧ W.cell? ⟨P, 11, none⟩ = some (.bool false)) := Lib.hid fun vs W hJ => by
    have hne : P ≠ g := by omega
    refine ⟨?_, ?_, ?_, ?_, ?_, ?_, ?_, ?_, ?_, ?_, ?_, ?_⟩ <;> (rw [hJ.cell hPl hne, cell_of _ hP]; rfl)
  have HB : Hid (∀ vs W, RJ g vs w W → Byt W B A n cap l ∧ B ≤ W.heap.size ∧ FoldT W) := Lib.hid fun vs W hJ => ⟨hJ.byt h hBg (by omega), by have := hJ.1.size; omega, hT.below (hJ.1.below (B := B) (by omega) hBg) hTB⟩
  have P0 : Hid (∀ W, RJ g #[.bool false, .string ⟨#[]⟩, .string ⟨#[]⟩, .string ⟨#[]⟩] w W → Calls Tryz.prog 92 #[.agg #[.string ⟨#[118, 101, 114, 115, 105, 111, 110]⟩, .func (.func 46) #[] #[], .pointer (some ⟨g, 1, none⟩), .bool true], .slice A n cap, .int .i64 ((k + 5) : Nat)] W fun e w' => e = .returned (.tuple #[.int .i64 (j0 : Int), .int .i64 0]) ∧ ∃ w1, Below W.heap.size W w1 ∧ w' = w1.setCell ⟨g, 1, none⟩ (.string ⟨s0.toArray⟩)) := Lib.hid fun W hJ => by
    obtain ⟨hb1, hb2, hb3⟩ := HB.out _ W hJ
    exact (partRead_out (some (s0, j0)) verW 46 verB true g 1 #[.bool false, .string ⟨#[]⟩, .string ⟨#[]⟩, .string ⟨#[]⟩] 41 A n cap l (k + 5) W (hb1.more hb2) hm (by omega) (by decide) (by decide) hJ.2 (by show (1 : Nat) < 4; decide) (enters_of Tryz.func46 (by kernel_rfl) rfl) (fun s hs W' hb => version_c s W' (by omega)) ho0).mono fun e w' hp => hp.found hlt0
  rw [show ((k + 5 : Nat) : Int) = (k : Int) + 5 by omega] at P0
  have P1 : Hid (∀ W, RJ g #[.bool false, .string ⟨s0.toArray⟩, .string ⟨#[]⟩, .string ⟨#[]⟩] w W → Calls Tryz.prog 92 #[.agg #[.string ⟨#[101, 110, 99, 111, 100, 105, 110, 103]⟩, .func (.func 47) #[] #[], .pointer (some ⟨g, 2, none⟩), .bool false], .slice A n cap, .int .i64 (j0 : Nat)] W fun e w' => e = .returned (.tuple #[.int .i64 (j0 : Nat), .int .i64 0]) ∧ Below W.heap.size W w') := Lib.hid fun W hJ => by
    obtain ⟨hb1, hb2, hb3⟩ := HB.out _ W hJ
    exact (partRead_out (some ([], j0)) encW 47 encB false g 2 #[.bool false, .string ⟨s0.toArray⟩, .string ⟨#[]⟩, .string ⟨#[]⟩] 41 A n cap l j0 W (hb1.more hb2) hm (by omega) (by decide) (by decide) hJ.2 (by show (2 : Nat) < 4; decide) (enters_of Tryz.func47 (by kernel_rfl) rfl) (fun s hs W' hb => encoding_c s W' (hb3.below hb hb3.lt)) ho1).mono fun e w' hp => hp.same
  have P2 : Hid (∀ W, RJ g #[.bool false, .string ⟨s0.toArray⟩, .string ⟨#[]⟩, .string ⟨#[]⟩] w W → Calls Tryz.prog 92 #[.agg #[.string ⟨#[115, 116, 97, 110, 100, 97, 108, 111, 110, 101]⟩, .func (.func 48) #[] #[], .pointer (some ⟨g, 3, none⟩), .bool false], .slice A n cap, .int .i64 (j0 : Nat)] W fun e w' => e = .returned (.tuple #[.int .i64 0, .int .i64 7]) ∧ Below W.heap.size W w') := Lib.hid fun W hJ => by
    obtain ⟨hb1, hb2, hb3⟩ := HB.out _ W hJ
    exact (partRead_out (none) aloneW 48 aloneB false g 3 #[.bool false, .string ⟨s0.toArray⟩, .string ⟨#[]⟩, .string ⟨#[]⟩] 41 A n cap l j0 W (hb1.more hb2) hm (by omega) (by decide) (by decide) hJ.2 (by show (3 : Nat) < 4; decide) (enters_of Tryz.func48 (by kernel_rfl) rfl) (fun s hs W' hb => (alone_c s W').mono fun e w' ⟨he, hw⟩ => ⟨he, hw ▸ Below.refl _ _⟩) ho2).mono fun e w' hp => hp
  have hk0 : (0 : Int) ≤ (k : Int) := by omega
  have hk1 : (k : Int) ≤ 40000 := by omega
  have e0 : ((j0 : Int) == (k : Int) + 5) = false := by simp; omega
  clear h hT hTB hg hP hln hBg HB hk hm hPl hgP ho0 ho1 ho2 hlt0 hle0
  go_enter Tryz.func65, Tryz.ntmps65
  go_wp2_with fail
  go_step3
  go_wp2_with fail
  go_step3
  go_wp2_with fail
  refine wp_loop_rounds 4 ?_
  rw [rounds_succ]
  obtain ⟨x0, x1, x2, x3, x4, x5, x6, x7, x8, x9, x10, x11⟩ := HX.out _ _ HJ.out
  clear x4 x5 x6 x7 x8 x9 x10 x11
  have hn0 := hp_new w (.cells #[.string ⟨#[118, 101, 114, 115, 105, 111, 110]⟩, .func (.func 46) #[] #[], .pointer (some ⟨g, 1, none⟩), .bool true] 122)
  have JA0 := Lib.hid (HJ.out.kept ((Below.refl _ w).alloc (Nat.le_refl _) (.cells #[.string ⟨#[118, 101, 114, 115, 105, 111, 110]⟩, .func (.func 46) #[] #[], .pointer (some ⟨g, 1, none⟩), .bool true] 122)))
  go_wp2_with fail
  clear x0 x1 x2 x3
  refine (P0.out _ JA0.out).mono ?_
  rintro e w1 ⟨rfl, v1, hb1, rfl⟩
  have J0 : Hid (RJ g #[.bool false, .string ⟨s0.toArray⟩, .string ⟨#[]⟩, .string ⟨#[]⟩] w (v1.setCell ⟨g, 1, none⟩ (.string ⟨s0.toArray⟩))) := Lib.hid ((JA0.out.kept hb1).set 1 (.string ⟨s0.toArray⟩))
  clear hb1 hn0 JA0
  generalize v1.setCell ⟨g, 1, none⟩ (.string ⟨s0.toArray⟩) = u1 at *
  go_wp2
  rw [rounds_succ]
  obtain ⟨x0, x1, x2, x3, x4, x5, x6, x7, x8, x9, x10, x11⟩ := HX.out _ _ J0.out
  clear x0 x1 x2 x3 x8 x9 x10 x11
  have hn1 := hp_new u1 (.cells #[.string ⟨#[101, 110, 99, 111, 100, 105, 110, 103]⟩, .func (.func 47) #[] #[], .pointer (some ⟨g, 2, none⟩), .bool false] 122)
  have JA1 := Lib.hid (J0.out.kept ((Below.refl _ u1).alloc (Nat.le_refl _) (.cells #[.string ⟨#[101, 110, 99, 111, 100, 105, 110, 103]⟩, .func (.func 47) #[] #[], .pointer (some ⟨g, 2, none⟩), .bool false] 122)))
  go_wp2_with fail
  clear x4 x5 x6 x7
  refine (P1.out _ JA1.out).mono ?_
  rintro e u2 ⟨rfl, hb2⟩
  have J1 := Lib.hid (JA1.out.kept hb2)
  have m1 : u2.cell? ⟨u1.heap.size, 3, none⟩ = some (.bool false) := by rw [hb2.cell (p := ⟨u1.heap.size, 3, none⟩) (by simp), cell_of 3 hn1]; rfl
  clear hb2 hn1 JA1
  go_wp2
  clear m1
  rw [rounds_succ]
  obtain ⟨x0, x1, x2, x3, x4, x5, x6, x7, x8, x9, x10, x11⟩ := HX.out _ _ J1.out
  clear x0 x1 x2 x3 x4 x5 x6 x7
  have hn2 := hp_new u2 (.cells #[.string ⟨#[115, 116, 97, 110, 100, 97, 108, 111, 110, 101]⟩, .func (.func 48) #[] #[], .pointer (some ⟨g, 3, none⟩), .bool false] 122)
  have JA2 := Lib.hid (J1.out.kept ((Below.refl _ u2).alloc (Nat.le_refl _) (.cells #[.string ⟨#[115, 116, 97, 110, 100, 97, 108, 111, 110, 101]⟩, .func (.func 48) #[] #[], .pointer (some ⟨g, 3, none⟩), .bool false] 122)))
  go_wp2_with fail
  clear x8 x9 x10 x11
  refine (P2.out _ JA2.out).mono ?_
  rintro e u3 ⟨rfl, hb3⟩
  have J2 := Lib.hid (JA2.out.kept hb3)
  clear hb3 hn2 JA2
  go_wp2
  (try rw [Exit.noGoto_ret])
  go_ret2
  exact ⟨rfl, J2.out⟩
set_option maxRecDepth 100000 in
set_option maxHeartbeats 8000000 in
theorem xdRead_f_found_same_same_yes (g P B : Nat) (A : Option Addr) (n cap : Nat) (l : List UInt8) (k : Nat) (w : World) (h : Byt w B A n cap l) (hm : n ≤ 40000) (hk : k + 5 ≤ n) (hBg : B ≤ g) (hT : FoldT w) (hTB : 2 < B) (hg : w.heap[g]? = some (.cells #[.bool false, .string ⟨#[]⟩, .string ⟨#[]⟩, .string ⟨#[]⟩] 41)) (hgP : g < P)
    (hP : w.heap[P]? = some (.cells #[.string ⟨#[118, 101, 114, 115, 105, 111, 110]⟩, .func (.func 46) #[] #[], .pointer (some ⟨g, 1, none⟩), .bool true, .string ⟨#[101, 110, 99, 111, 100, 105, 110, 103]⟩, .func (.func 47) #[] #[], .pointer (some ⟨g, 2, none⟩), .bool false, .string ⟨#[115, 116, 97, 110, 100, 97, 108, 111, 110, 101]⟩, .func (.func 48) #[] #[], .pointer (some ⟨g, 3, none⟩), .bool false] 122)) (s0 : List UInt8) (j0 : Nat) (ho0 : partOut verW verB l (k + 5) = some (s0, j0)) (hlt0 : (k + 5) < j0) (hle0 : j0 ≤ n) (ho1 : partOut encW encB l j0 = some ([], j0)) (ho2 : partOut aloneW aloneB l j0 = some ([], j0)) (ht : [63, 62].isPrefixOf (l.drop (blankTo l j0)) = true) :
    Calls Tryz.prog 65 #[.slice A n cap, .int .i64 k, .pointer (some ⟨g, 0, none⟩), .slice (some ⟨P, 0, none⟩) 3 3] w fun e w' => e = .returned (.tuple #[.int .i64 ((blankTo l j0 : Int) + 2), .int .i64 0]) ∧ RJ g #[.bool false, .string ⟨s0.toArray⟩, .string ⟨#[]⟩, .string ⟨#[]⟩] w w' := by
  have kc := fun (w : World) (C : Array Value) (n c : Nat) => Lib.run_convert_bytes_const (P := Tryz.prog) w 22 5 C n c Tryz.underlying22 Tryz.underlying5
  have hln := h.length
  have hgl := lt_of hg
  have hPl := lt_of hP
  have HJ : Hid (RJ g #[.bool false, .string ⟨#[]⟩, .string ⟨#[]⟩, .string ⟨#[]⟩] w w) := Lib.hid ⟨Fr.refl _ _ _, hg⟩
  have HX : Hid (∀ vs W, RJ g vs w W → W.cell? ⟨P, 0, none⟩ = some (.string ⟨#[118, 101, 114, 115, 105, 111, 110]⟩) ∧ W.cell? ⟨P, 1, none⟩ = some (.func (.func 46) #[] #[]) ∧ W.cell? ⟨P, 2, none⟩ = some (.pointer (some ⟨g, 1, none⟩)) ∧ W.cell? ⟨P, 3, none⟩ = some (.bool true) ∧ W.cell? ⟨P, 4, none⟩ = some (.string ⟨#[101, 110, 99, 111, 100, 105, 110, 103]⟩) ∧ W.cell? ⟨P, 5, none⟩ = some (.func (.func 47) #[] #[]) ∧ W.cell? ⟨P, 6, none⟩ = some (.pointer (some ⟨g, 2, none⟩)) ∧ W.cell? ⟨P, 7, none⟩ = some (.bool false) ∧ W.cell? ⟨P, 8, none⟩ = some (.string ⟨#[115, 116, 97, 110, 100, 97, 108, 111, 110, 101]⟩) ∧ W.cell? ⟨P, 9, none⟩ = some (.func (.func 48) #[] #[]) ∧ W.cell? ⟨P, 10, none⟩ = some (.pointer (some ⟨g, 3, none⟩)) ∧ W.cell? ⟨P, 11, none⟩ = some (.bool false)) := Lib.hid fun vs W hJ => by
    have hne : P ≠ g := by omega
    refine ⟨?_, ?_, ?_, ?_, ?_, ?_, ?_, ?_, ?_, ?_, ?_, ?_⟩ <;> (rw [hJ.cell hPl hne, cell_of _ hP]; rfl)
  have HB : Hid (∀ vs W, RJ g vs w W → Byt W B A n cap l ∧ B ≤ W.heap.size ∧ FoldT W) := Lib.hid fun vs W hJ => ⟨hJ.byt h hBg (by omega), by have := hJ.1.size; omega, hT.below (hJ.1.below (B := B) (by omega) hBg) hTB⟩
  have P0 : Hid (∀ W, RJ g #[.bool false, .string ⟨#[]⟩, .string ⟨#[]⟩, .string ⟨#[]⟩] w W → Calls Tryz.prog 92 #[.agg #[.string ⟨#[118, 101, 114, 115, 105, 111, 110]⟩, .func (.func 46) #[] #[], .pointer (some ⟨g, 1, none⟩), .bool true], .slice A n cap, .int .i64 ((k + 5) : Nat)] W fun e w' => e = .returned (.tuple #[.int .i64 (j0 : Int), .int .i64 0]) ∧ ∃ w1, Below W.heap.size W w1 ∧ w' = w1.setCell ⟨g, 1, none⟩ (.string ⟨s0.toArray⟩)) := Lib.hid fun W hJ => by
    obtain ⟨hb1, hb2, hb3⟩ := HB.out _ W hJ
    exact (partRead_out (some (s0, j0)) verW 46 verB true g 1 #[.bool false, .string ⟨#[]⟩, .string ⟨#[]⟩, .string ⟨#[]⟩] 41 A n cap l (k + 5) W (hb1.more hb2) hm (by omega) (by decide) (by decide) hJ.2 (by show (1 : Nat) < 4; decide) (enters_of Tryz.func46 (by kernel_rfl) rfl) (fun s hs W' hb => version_c s W' (by omega)) ho0).mono fun e w' hp => hp.found hlt0
  rw [show ((k + 5 : Nat) : Int) = (k : Int) + 5 by omega] at P0
  have P1 : Hid (∀ W, RJ g #[.bool false, .string ⟨s0.toArray⟩, .string ⟨#[]⟩, .string ⟨#[]⟩] w W → Calls Tryz.prog 92 #[.agg #[.string ⟨#[101, 110, 99, 111, 100, 105, 110, 103]⟩, .func (.func 47) #[] #[], .pointer (some ⟨g, 2, none⟩), .bool false], .slice A n cap, .int .i64 (j0 : Nat)] W fun e w' => e = .returned (.tuple #[.int .i64 (j0 : Nat), .int .i64 0]) ∧ Below W.heap.size W w') := Lib.hid fun W hJ => by
    obtain ⟨hb1, hb2, hb3⟩ := HB.out _ W hJ
    exact (partRead_out (some ([], j0)) encW 47 encB false g 2 #[.bool false, .string ⟨s0.toArray⟩, .string ⟨#[]⟩, .string ⟨#[]⟩] 41 A n cap l j0 W (hb1.more hb2) hm (by omega) (by decide) (by decide) hJ.2 (by show (2 : Nat) < 4; decide) (enters_of Tryz.func47 (by kernel_rfl) rfl) (fun s hs W' hb => encoding_c s W' (hb3.below hb hb3.lt)) ho1).mono fun e w' hp => hp.same
  have P2 : Hid (∀ W, RJ g #[.bool false, .string ⟨s0.toArray⟩, .string ⟨#[]⟩, .string ⟨#[]⟩] w W → Calls Tryz.prog 92 #[.agg #[.string ⟨#[115, 116, 97, 110, 100, 97, 108, 111, 110, 101]⟩, .func (.func 48) #[] #[], .pointer (some ⟨g, 3, none⟩), .bool false], .slice A n cap, .int .i64 (j0 : Nat)] W fun e w' => e = .returned (.tuple #[.int .i64 (j0 : Nat), .int .i64 0]) ∧ Below W.heap.size W w') := Lib.hid fun W hJ => by
    obtain ⟨hb1, hb2, hb3⟩ := HB.out _ W hJ
    exact (partRead_out (some ([], j0)) aloneW 48 aloneB false g 3 #[.bool false, .string ⟨s0.toArray⟩, .string ⟨#[]⟩, .string ⟨#[]⟩] 41 A n cap l j0 W (hb1.more hb2) hm (by omega) (by decide) (by decide) hJ.2 (by show (3 : Nat) < 4; decide) (enters_of Tryz.func48 (by kernel_rfl) rfl) (fun s hs W' hb => (alone_c s W').mono fun e w' ⟨he, hw⟩ => ⟨he, hw ▸ Below.refl _ _⟩) ho2).mono fun e w' hp => hp.same
  have CB : Hid (∀ W, RJ g #[.bool false, .string ⟨s0.toArray⟩, .string ⟨#[]⟩, .string ⟨#[]⟩] w W → Calls Tryz.prog 13 #[.slice A n cap, .int .i64 (j0 : Nat)] W fun e w' => e = .returned (.int .i64 (blankTo l j0)) ∧ W = w') := Lib.hid fun W hJ => blanks_c A n cap l j0 _ W (HB.out _ W hJ).1 (by omega) (by omega)
  have hbl := blankTo_le l j0 (by omega)
  have CH : Hid (∀ W, RJ g #[.bool false, .string ⟨s0.toArray⟩, .string ⟨#[]⟩, .string ⟨#[]⟩] w W → Calls Tryz.prog 53 #[.slice (cutA A cap (blankTo l j0)) (n - blankTo l j0) (cap - blankTo l j0), .slice (some ⟨W.heap.size, 0, none⟩) 2 2] (W.alloc (.cells #[.int .u8 63, .int .u8 62] 5 (2, 3))) fun e w' => e = .returned (.bool true) ∧ Hid (RJ g #[.bool false, .string ⟨s0.toArray⟩, .string ⟨#[]⟩, .string ⟨#[]⟩] w w')) := Lib.hid fun W hJ => by
    have ka := alloc_const W [63, 62] (2, 3) (by decide)
    obtain ⟨hb1, hb2, _⟩ := HB.out _ W hJ
    have := hasPrefix_c _ _ _ _ _ _ _ _ (W.alloc (.cells #[.int .u8 63, .int .u8 62] 5 (2, 3))) _ _ (((hb1.more hb2).below ka.1).drop (k := blankTo l j0) (by omega)) ka.2
    rw [ht] at this
    exact this.mono fun e w' ⟨he, hw⟩ => ⟨he, Lib.hid (hw ▸ hJ.kept ka.1)⟩
  have hrb : ∀ W : World, (Instr.slice 22 (.slice A n cap) (some (.int .i64 (blankTo l j0 : Nat))) none none).run Tryz.prog W = .ok (.slice (cutA A cap (blankTo l j0)) (n - blankTo l j0) (cap - blankTo l j0)) W := fun W => run_from A n cap (blankTo l j0) (by omega)
  have hbi : (blankTo l j0 : Int) ≤ 40000 := by omega
  generalize hbt : blankTo l j0 = bt at *
  have hk0 : (0 : Int) ≤ (k : Int) := by omega
  have hk1 : (k : Int) ≤ 40000 := by omega
  have e0 : ((j0 : Int) == (k : Int) + 5) = false := by simp; omega
  clear h hT hTB hg hP hln hBg HB hk hm hPl hgP ho0 ho1 ho2 hlt0 hle0 ht hbl hbt
  go_enter Tryz.func65, Tryz.ntmps65
  go_wp2_with fail
  go_step3
  go_wp2_with fail
  go_step3
  go_wp2_with fail
  refine wp_loop_rounds 4 ?_
  rw [rounds_succ]
  obtain ⟨x0, x1, x2, x3, x4, x5, x6, x7, x8, x9, x10, x11⟩ := HX.out _ _ HJ.out
  clear x4 x5 x6 x7 x8 x9 x10 x11
  have hn0 := hp_new w (.cells #[.string ⟨#[118, 101, 114, 115, 105, 111, 110]⟩, .func (.func 46) #[] #[], .pointer (some ⟨g, 1, none⟩), .bool true] 122)
  have JA0 := Lib.hid (HJ.out.kept ((Below.refl _ w).alloc (Nat.le_refl _) (.cells #[.string ⟨#[118, 101, 114, 115, 105, 111, 110]⟩, .func (.func 46) #[] #[], .pointer (some ⟨g, 1, none⟩), .bool true] 122)))
  go_wp2_with fail
  clear x0 x1 x2 x3
  refine (P0.out _ JA0.out).mono ?_
  rintro e w1 ⟨rfl, v1, hb1, rfl⟩
  have J0 : Hid (RJ g #[.bool false, .string ⟨s0.toArray⟩, .string ⟨#[]⟩, .string ⟨#[]⟩] w (v1.setCell ⟨g, 1, none⟩ (.string ⟨s0.toArray⟩))) := Lib.hid ((JA0.out.kept hb1).set 1 (.string ⟨s0.toArray⟩))
  clear hb1 hn0 JA0
  generalize v1.setCell ⟨g, 1, none⟩ (.string ⟨s0.toArray⟩) = u1 at *
  go_wp2
  rw [rounds_succ]
  obtain ⟨x0, x1, x2, x3, x4, x5, x6, x7, x8, x9, x10, x11⟩ := HX.out _ _ J0.out
  clear x0 x1 x2 x3 x8 x9 x10 x11
  have hn1 := hp_new u1 (.cells #[.string ⟨#[101, 110, 99, 111, 100, 105, 110, 103]⟩, .func (.func 47) #[] #[], .pointer (some ⟨g, 2, none⟩), .bool false] 122)
  have JA1 := Lib.hid (J0.out.kept ((Below.refl _ u1).alloc (Nat.le_refl _) (.cells #[.string ⟨#[101, 110, 99, 111, 100, 105, 110, 103]⟩, .func (.func 47) #[] #[], .pointer (some ⟨g, 2, none⟩), .bool false] 122)))
  go_wp2_with fail
  clear x4 x5 x6 x7
  refine (P1.out _ JA1.out).mono ?_
  rintro e u2 ⟨rfl, hb2⟩
  have J1 := Lib.hid (JA1.out.kept hb2)
  have m1 : u2.cell? ⟨u1.heap.size, 3, none⟩ = some (.bool false) := by rw [hb2.cell (p := ⟨u1.heap.size, 3, none⟩) (by simp), cell_of 3 hn1]; rfl
  clear hb2 hn1 JA1
  go_wp2
  clear m1
  rw [rounds_succ]
  obtain ⟨x0, x1, x2, x3, x4, x5, x6, x7, x8, x9, x10, x11⟩ := HX.out _ _ J1.out
  clear x0 x1 x2 x3 x4 x5 x6 x7
  have hn2 := hp_new u2 (.cells #[.string ⟨#[115, 116, 97, 110, 100, 97, 108, 111, 110, 101]⟩, .func (.func 48) #[] #[], .pointer (some ⟨g, 3, none⟩), .bool false] 122)
  have JA2 := Lib.hid (J1.out.kept ((Below.refl _ u2).alloc (Nat.le_refl _) (.cells #[.string ⟨#[115, 116, 97, 110, 100, 97, 108, 111, 110, 101]⟩, .func (.func 48) #[] #[], .pointer (some ⟨g, 3, none⟩), .bool false] 122)))
  go_wp2_with fail
  clear x8 x9 x10 x11
  refine (P2.out _ JA2.out).mono ?_
  rintro e u3 ⟨rfl, hb3⟩
  have J2 := Lib.hid (JA2.out.kept hb3)
  have m2 : u3.cell? ⟨u2.heap.size, 3, none⟩ = some (.bool false) := by rw [hb3.cell (p := ⟨u2.heap.size, 3, none⟩) (by simp), cell_of 3 hn2]; rfl
  clear hb3 hn2 JA2
  go_wp2
  clear m2
  rw [rounds_succ]
  go_wp2_with fail
  refine (CB.out _ J2.out).mono ?_
  rintro e wq ⟨rfl, rfl⟩
  go_wp2_with fail
  refine (CH.out _ J2.out).mono ?_
  rintro e wz ⟨rfl, JZ⟩
  clear kc
  go_wp2
  (try rw [Exit.noGoto_ret])
  go_ret2
  exact ⟨rfl, JZ.out⟩
set_option maxRecDepth 100000 in
set_option maxHeartbeats 8000000 in
theorem xdRead_f_found_same_same_no (g P B : Nat) (A : Option Addr) (n cap : Nat) (l : List UInt8) (k : Nat) (w : World) (h : Byt w B A n cap l) (hm : n ≤ 40000) (hk : k + 5 ≤ n) (hBg : B ≤ g) (hT : FoldT w) (hTB : 2 < B) (hg : w.heap[g]? = some (.cells #[.bool false, .string ⟨#[]⟩, .string ⟨#[]⟩, .string ⟨#[]⟩] 41)) (hgP : g < P)
    (hP : w.heap[P]? = some (.cells #[.string ⟨#[118, 101, 114, 115, 105, 111, 110]⟩, .func (.func 46) #[] #[], .pointer (some ⟨g, 1, none⟩), .bool true, .string ⟨#[101, 110, 99, 111, 100, 105, 110, 103]⟩, .func (.func 47) #[] #[], .pointer (some ⟨g, 2, none⟩), .bool false, .string ⟨#[115, 116, 97, 110, 100, 97, 108, 111, 110, 101]⟩, .func (.func 48) #[] #[], .pointer (some ⟨g, 3, none⟩), .bool false] 122)) (s0 : List UInt8) (j0 : Nat) (ho0 : partOut verW verB l (k + 5) = some (s0, j0)) (hlt0 : (k + 5) < j0) (hle0 : j0 ≤ n) (ho1 : partOut encW encB l j0 = some ([], j0)) (ho2 : partOut aloneW aloneB l j0 = some ([], j0)) (ht : [63, 62].isPrefixOf (l.drop (blankTo l j0)) = false) :
    Calls Tryz.prog 65 #[.slice A n cap, .int .i64 k, .pointer (some ⟨g, 0, none⟩), .slice (some ⟨P, 0, none⟩) 3 3] w fun e w' => e = .returned (.tuple #[.int .i64 0, .int .i64 7]) ∧ RJ g #[.bool false, .string ⟨s0.toArray⟩, .string ⟨#[]⟩, .string ⟨#[]⟩] w w' := by
  have kc := fun (w : World) (C : Array Value) (n c : Nat) => Lib.run_convert_bytes_const (P := Tryz.prog) w 22 5 C n c Tryz.underlying22 Tryz.underlying5
  have hln := h.length
  have hgl := lt_of hg
  have hPl := lt_of hP
  have HJ : Hid (RJ g #[.bool false, .string ⟨#[]⟩, .string ⟨#[]⟩, .string ⟨#[]⟩] w w) := Lib.hid ⟨Fr.refl _ _ _, hg⟩
  have HX : Hid (∀ vs W, RJ g vs w W → W.cell? ⟨P, 0, none⟩ = some (.string ⟨#[118, 101, 114, 115, 105, 111, 110]⟩) ∧ W.cell? ⟨P, 1, none⟩ = some (.func (.func 46) #[] #[]) ∧ W.cell? ⟨P, 2, none⟩ = some (.pointer (some ⟨g, 1, none⟩)) ∧ W.cell? ⟨P, 3, none⟩ = some (.bool true) ∧ W.cell? ⟨P, 4, none⟩ = some (.string ⟨#[101, 110, 99, 111, 100, 105, 110, 103]⟩) ∧ W.cell? ⟨P, 5, none⟩ = some (.func (.func 47) #[] #[]) ∧ W.cell? ⟨P, 6, none⟩ = some (.pointer (some ⟨g, 2, none⟩)) ∧ W.cell? ⟨P, 7, none⟩ = some (.bool false) ∧ W.cell? ⟨P, 8, none⟩ = some (.string ⟨#[115, 116, 97, 110, 100, 97, 108, 111, 110, 101]⟩) ∧ W.cell? ⟨P, 9, none⟩ = some (.func (.func 48) #[] #[]) ∧ W.cell? ⟨P, 10, none⟩ = some (.pointer (some ⟨g, 3, none⟩)) ∧ W.cell? ⟨P, 11, none⟩ = some (.bool false)) := Lib.hid fun vs W hJ => by
    have hne : P ≠ g := by omega
    refine ⟨?_, ?_, ?_, ?_, ?_, ?_, ?_, ?_, ?_, ?_, ?_, ?_⟩ <;> (rw [hJ.cell hPl hne, cell_of _ hP]; rfl)
  have HB : Hid (∀ vs W, RJ g vs w W → Byt W B A n cap l ∧ B ≤ W.heap.size ∧ FoldT W) := Lib.hid fun vs W hJ => ⟨hJ.byt h hBg (by omega), by have := hJ.1.size; omega, hT.below (hJ.1.below (B := B) (by omega) hBg) hTB⟩
  have P0 : Hid (∀ W, RJ g #[.bool false, .string ⟨#[]⟩, .string ⟨#[]⟩, .string ⟨#[]⟩] w W → Calls Tryz.prog 92 #[.agg #[.string ⟨#[118, 101, 114, 115, 105, 111, 110]⟩, .func (.func 46) #[] #[], .pointer (some ⟨g, 1, none⟩), .bool true], .slice A n cap, .int .i64 ((k + 5) : Nat)] W fun e w' => e = .returned (.tuple #[.int .i64 (j0 : Int), .int .i64 0]) ∧ ∃ w1, Below W.heap.size W w1 ∧ w' = w1.setCell ⟨g, 1, none⟩ (.string ⟨s0.toArray⟩)) := Lib.hid fun W hJ => by
    obtain ⟨hb1, hb2, hb3⟩ := HB.out _ W hJ
    exact (partRead_out (some (s0, j0)) verW 46 verB true g 1 #[.bool false, .string ⟨#[]⟩, .string ⟨#[]⟩, .string ⟨#[]⟩] 41 A n cap l (k + 5) W (hb1.more hb2) hm (by omega) (by decide) (by decide) hJ.2 (by show (1 : Nat) < 4; decide) (enters_of Tryz.func46 (by kernel_rfl) rfl) (fun s hs W' hb => version_c s W' (by omega)) ho0).mono fun e w' hp => hp.found hlt0
  rw [show ((k + 5 : Nat) : Int) = (k : Int) + 5 by omega] at P0
  have P1 : Hid (∀ W, RJ g #[.bool false, .string ⟨s0.toArray⟩, .string ⟨#[]⟩, .string ⟨#[]⟩] w W → Calls Tryz.prog 92 #[.agg #[.string ⟨#[101, 110, 99, 111, 100, 105, 110, 103]⟩, .func (.func 47) #[] #[], .pointer (some ⟨g, 2, none⟩), .bool false], .slice A n cap, .int .i64 (j0 : Nat)] W fun e w' => e = .returned (.tuple #[.int .i64 (j0 : Nat), .int .i64 0]) ∧ Below W.heap.size W w') := Lib.hid fun W hJ => by
    obtain ⟨hb1, hb2, hb3⟩ := HB.out _ W hJ
    exact (partRead_out (some ([], j0)) encW 47 encB false g 2 #[.bool false, .string ⟨s0.toArray⟩, .string ⟨#[]⟩, .string ⟨#[]⟩] 41 A n cap l j0 W (hb1.more hb2) hm (by omega) (by decide) (by decide) hJ.2 (by show (2 : Nat) < 4; decide) (enters_of Tryz.func47 (by kernel_rfl) rfl) (fun s hs W' hb => encoding_c s W' (hb3.below hb hb3.lt)) ho1).mono fun e w' hp => hp.same
  have P2 : Hid (∀ W, RJ g #[.bool false, .string ⟨s0.toArray⟩, .string ⟨#[]⟩, .string ⟨#[]⟩] w W → Calls Tryz.prog 92 #[.agg #[.string ⟨#[115, 116, 97, 110, 100, 97, 108, 111, 110, 101]⟩, .func (.func 48) #[] #[], .pointer (some ⟨g, 3, none⟩), .bool false], .slice A n cap, .int .i64 (j0 : Nat)] W fun e w' => e = .returned (.tuple #[.int .i64 (j0 : Nat), .int .i64 0]) ∧ Below W.heap.size W w') := Lib.hid fun W hJ => by
    obtain ⟨hb1, hb2, hb3⟩ := HB.out _ W hJ
    exact (partRead_out (some ([], j0)) aloneW 48 aloneB false g 3 #[.bool false, .string ⟨s0.toArray⟩, .string ⟨#[]⟩, .string ⟨#[]⟩] 41 A n cap l j0 W (hb1.more hb2) hm (by omega) (by decide) (by decide) hJ.2 (by show (3 : Nat) < 4; decide) (enters_of Tryz.func48 (by kernel_rfl) rfl) (fun s hs W' hb => (alone_c s W').mono fun e w' ⟨he, hw⟩ => ⟨he, hw ▸ Below.refl _ _⟩) ho2).mono fun e w' hp => hp.same
  have CB : Hid (∀ W, RJ g #[.bool false, .string ⟨s0.toArray⟩, .string ⟨#[]⟩, .string ⟨#[]⟩] w W → Calls Tryz.prog 13 #[.slice A n cap, .int .i64 (j0 : Nat)] W fun e w' => e = .returned (.int .i64 (blankTo l j0)) ∧ W = w') := Lib.hid fun W hJ => blanks_c A n cap l j0 _ W (HB.out _ W hJ).1 (by omega) (by omega)
  have hbl := blankTo_le l j0 (by omega)
  have CH : Hid (∀ W, RJ g #[.bool false, .string ⟨s0.toArray⟩, .string ⟨#[]⟩, .string ⟨#[]⟩] w W → Calls Tryz.prog 53 #[.slice (cutA A cap (blankTo l j0)) (n - blankTo l j0) (cap - blankTo l j0), .slice (some ⟨W.heap.size, 0, none⟩) 2 2] (W.alloc (.cells #[.int .u8 63, .int .u8 62] 5 (2, 3))) fun e w' => e = .returned (.bool false) ∧ Hid (RJ g #[.bool false, .string ⟨s0.toArray⟩, .string ⟨#[]⟩, .string ⟨#[]⟩] w w')) := Lib.hid fun W hJ => by
    have ka := alloc_const W [63, 62] (2, 3) (by decide)
    obtain ⟨hb1, hb2, _⟩ := HB.out _ W hJ
    have := hasPrefix_c _ _ _ _ _ _ _ _ (W.alloc (.cells #[.int .u8 63, .int .u8 62] 5 (2, 3))) _ _ (((hb1.more hb2).below ka.1).drop (k := blankTo l j0) (by omega)) ka.2
    rw [ht] at this
    exact this.mono fun e w' ⟨he, hw⟩ => ⟨he, Lib.hid (hw ▸ hJ.kept ka.1)⟩
  have hrb : ∀ W : World, (Instr.slice 22 (.slice A n cap) (some (.int .i64 (blankTo l j0 : Nat))) none none).run Tryz.prog W = .ok (.slice (cutA A cap (blankTo l j0)) (n - blankTo l j0) (cap - blankTo l j0)) W := fun W => run_from A n cap (blankTo l j0) (by omega)
  have hbi : (blankTo l j0 : Int) ≤ 40000 := by omega
  generalize hbt : blankTo l j0 = bt at *
  have hk0 : (0 : Int) ≤ (k : Int) := by omega
  have hk1 : (k : Int) ≤ 40000 := by omega
  have e0 : ((j0 : Int) == (k : Int) + 5) = false := by simp; omega
  clear h hT hTB hg hP hln hBg HB hk hm hPl hgP ho0 ho1 ho2 hlt0 hle0 ht hbl hbt
  go_enter Tryz.func65, Tryz.ntmps65
  go_wp2_with fail
  go_step3
  go_wp2_with fail
  go_step3
  go_wp2_with fail
  refine wp_loop_rounds 4 ?_
  rw [rounds_succ]
  obtain ⟨x0, x1, x2, x3, x4, x5, x6, x7, x8, x9, x10, x11⟩ := HX.out _ _ HJ.out
  clear x4 x5 x6 x7 x8 x9 x10 x11
  have hn0 := hp_new w (.cells #[.string ⟨#[118, 101, 114, 115, 105, 111, 110]⟩, .func (.func 46) #[] #[], .pointer (some ⟨g, 1, none⟩), .bool true] 122)
  have JA0 := Lib.hid (HJ.out.kept ((Below.refl _ w).alloc (Nat.le_refl _) (.cells #[.string ⟨#[118, 101, 114, 115, 105, 111, 110]⟩, .func (.func 46) #[] #[], .pointer (some ⟨g, 1, none⟩), .bool true] 122)))
  go_wp2_with fail
  clear x0 x1 x2 x3
  refine (P0.out _ JA0.out).mono ?_
  rintro e w1 ⟨rfl, v1, hb1, rfl⟩
  have J0 : Hid (RJ g #[.bool false, .string ⟨s0.toArray⟩, .string ⟨#[]⟩, .string ⟨#[]⟩] w (v1.setCell ⟨g, 1, none⟩ (.string ⟨s0.toArray⟩))) := Lib.hid ((JA0.out.kept hb1).set 1 (.string ⟨s0.toArray⟩))
  clear hb1 hn0 JA0
  generalize v1.setCell ⟨g, 1, none⟩ (.string ⟨s0.toArray⟩) = u1 at *
  go_wp2
  rw [rounds_succ]
  obtain ⟨x0, x1, x2, x3, x4, x5, x6, x7, x8, x9, x10, x11⟩ := HX.out _ _ J0.out
  clear x0 x1 x2 x3 x8 x9 x10 x11
  have hn1 := hp_new u1 (.cells #[.string ⟨#[101, 110, 99, 111, 100, 105, 110, 103]⟩, .func (.func 47) #[] #[], .pointer (some ⟨g, 2, none⟩), .bool false] 122)
  have JA1 := Lib.hid (J0.out.kept ((Below.refl _ u1).alloc (Nat.le_refl _) (.cells #[.string ⟨#[101, 110, 99, 111, 100, 105, 110, 103]⟩, .func (.func 47) #[] #[], .pointer (some ⟨g, 2, none⟩), .bool false] 122)))
  go_wp2_with fail
  clear x4 x5 x6 x7
  refine (P1.out _ JA1.out).mono ?_
  rintro e u2 ⟨rfl, hb2⟩
  have J1 := Lib.hid (JA1.out.kept hb2)
  have m1 : u2.cell? ⟨u1.heap.size, 3, none⟩ = some (.bool false) := by rw [hb2.cell (p := ⟨u1.heap.size, 3, none⟩) (by simp), cell_of 3 hn1]; rfl
  clear hb2 hn1 JA1
  go_wp2
  clear m1
  rw [rounds_succ]
  obtain ⟨x0, x1, x2, x3, x4, x5, x6, x7, x8, x9, x10, x11⟩ := HX.out _ _ J1.out
  clear x0 x1 x2 x3 x4 x5 x6 x7
  have hn2 := hp_new u2 (.cells #[.string ⟨#[115, 116, 97, 110, 100, 97, 108, 111, 110, 101]⟩, .func (.func 48) #[] #[], .pointer (some ⟨g, 3, none⟩), .bool false] 122)
  have JA2 := Lib.hid (J1.out.kept ((Below.refl _ u2).alloc (Nat.le_refl _) (.cells #[.string ⟨#[115, 116, 97, 110, 100, 97, 108, 111, 110, 101]⟩, .func (.func 48) #[] #[], .pointer (some ⟨g, 3, none⟩), .bool false] 122)))
  go_wp2_with fail
  clear x8 x9 x10 x11
  refine (P2.out _ JA2.out).mono ?_
  rintro e u3 ⟨rfl, hb3⟩
  have J2 := Lib.hid (JA2.out.kept hb3)
  have m2 : u3.cell? ⟨u2.heap.size, 3, none⟩ = some (.bool false) := by rw [hb3.cell (p := ⟨u2.heap.size, 3, none⟩) (by simp), cell_of 3 hn2]; rfl
  clear hb3 hn2 JA2
  go_wp2
  clear m2
  rw [rounds_succ]
  go_wp2_with fail
  refine (CB.out _ J2.out).mono ?_
  rintro e wq ⟨rfl, rfl⟩
  go_wp2_with fail
  refine (CH.out _ J2.out).mono ?_
  rintro e wz ⟨rfl, JZ⟩
  clear kc
  go_wp2
  (try rw [Exit.noGoto_ret])
  go_ret2
  exact ⟨rfl, JZ.out⟩
set_option maxRecDepth 100000 in
set_option maxHeartbeats 8000000 in
theorem xdRead_f_found_same_found_yes (g P B : Nat) (A : Option Addr) (n cap : Nat) (l : List UInt8) (k : Nat) (w : World) (h : Byt w B A n cap l) (hm : n ≤ 40000) (hk : k + 5 ≤ n) (hBg : B ≤ g) (hT : FoldT w) (hTB : 2 < B) (hg : w.heap[g]? = some (.cells #[.bool false, .string ⟨#[]⟩, .string ⟨#[]⟩, .string ⟨#[]⟩] 41)) (hgP : g < P)
    (hP : w.heap[P]? = some (.cells #[.string ⟨#[118, 101, 114, 115, 105, 111, 110]⟩, .func (.func 46) #[] #[], .pointer (some ⟨g, 1, none⟩), .bool true, .string ⟨#[101, 110, 99, 111, 100, 105, 110, 103]⟩, .func (.func 47) #[] #[], .pointer (some ⟨g, 2, none⟩), .bool false, .string ⟨#[115, 116, 97, 110, 100, 97, 108, 111, 110, 101]⟩, .func (.func 48) #[] #[], .pointer (some ⟨g, 3, none⟩), .bool false] 122)) (s0 : List UInt8) (j0 : Nat) (ho0 : partOut verW verB l (k + 5) = some (s0, j0)) (hlt0 : (k + 5) < j0) (hle0 : j0 ≤ n) (ho1 : partOut encW encB l j0 = some ([], j0)) (s2 : List UInt8) (j2 : Nat) (ho2 : partOut aloneW aloneB l j0 = some (s2, j2)) (hlt2 : j0 < j2) (hle2 : j2 ≤ n) (ht : [63, 62].isPrefixOf (l.drop (blankTo l j2)) = true) :
    Calls Tryz.prog 65 #[.slice A n cap, .int .i64 k, .pointer (some ⟨g, 0, none⟩), .slice (some ⟨P, 0, none⟩) 3 3] w fun e w' => e = .returned (.tuple #[.int .i64 ((blankTo l j2 : Int) + 2), .int .i64 0]) ∧ RJ g #[.bool false, .string ⟨s0.toArray⟩, .string ⟨#[]⟩, .string ⟨s2.toArray⟩] w w' := by
  have kc := fun (w : World) (C : Array Value) (n c : Nat) => Lib.run_convert_bytes_const (P := Tryz.prog) w 22 5 C n c Tryz.underlying22 Tryz.underlying5
  have hln := h.length
  have hgl := lt_of hg
  have hPl := lt_of hP
  have HJ : Hid (RJ g #[.bool false, .string ⟨#[]⟩, .string ⟨#[]⟩, .string ⟨#[]⟩] w w) := Lib.hid ⟨Fr.refl _ _ _, hg⟩
  have HX : Hid (∀ vs W, RJ g vs w W → W.cell? ⟨P, 0, none⟩ = some (.string ⟨#[118, 101, 114, 115, 105, 111, 110]⟩) ∧ W.cell? ⟨P, 1, none⟩ = some (.func (.func 46) #[] #[]) ∧ W.cell? ⟨P, 2, none⟩ = some (.pointer (some ⟨g, 1, none⟩)) ∧ W.cell? ⟨P, 3, none⟩ = some (.bool true) ∧ W.cell? ⟨P, 4, none⟩ = some (.string ⟨#[101, 110, 99, 111, 100, 105, 110, 103]⟩) ∧ W.cell? ⟨P, 5, none⟩ = some (.func (.func 47) #[] #[]) ∧ W.cell? ⟨P, 6, none⟩ = some (.pointer (some ⟨g, 2, none⟩)) ∧ W.cell? ⟨P, 7, none⟩ = some (.bool false) ∧ W.cell? ⟨P, 8, none⟩ = some (.string ⟨#[115, 116, 97, 110, 100, 97, 108, 111, 110, 101]⟩) ∧ W.cell? ⟨P, 9, none⟩ = some (.func (.func 48) #[] #[]) ∧ W.cell? ⟨P, 10, none⟩ = some (.pointer (some ⟨g, 3, none⟩)) ∧ W.cell? ⟨P, 11, none⟩ = some (.bool false)) := Lib.hid fun vs W hJ => by
    have hne : P ≠ g := by omega
    refine ⟨?_, ?_, ?_, ?_, ?_, ?_, ?_, ?_, ?_, ?_, ?_, ?_⟩ <;> (rw [hJ.cell hPl hne, cell_of _ hP]; rfl)
  have HB : Hid (∀ vs W, RJ g vs w W → Byt W B A n cap l ∧ B ≤ W.heap.size ∧ FoldT W) := Lib.hid fun vs W hJ => ⟨hJ.byt h hBg (by omega), by have := hJ.1.size; omega, hT.below (hJ.1.below (B := B) (by omega) hBg) hTB⟩
  have P0 : Hid (∀ W, RJ g #[.bool false, .string ⟨#[]⟩, .string ⟨#[]⟩, .string ⟨#[]⟩] w W → Calls Tryz.prog 92 #[.agg #[.string ⟨#[118, 101, 114, 115, 105, 111, 110]⟩, .func (.func 46) #[] #[], .pointer (some ⟨g, 1, none⟩), .bool true], .slice A n cap, .int .i64 ((k + 5) : Nat)] W fun e w' => e = .returned (.tuple #[.int .i64 (j0 : Int), .int .i64 0]) ∧ ∃ w1, Below W.heap.size W w1 ∧ w' = w1.setCell ⟨g, 1, none⟩ (.string ⟨s0.toArray⟩)) := Lib.hid fun W hJ => by
    obtain ⟨hb1, hb2, hb3⟩ := HB.out _ W hJ
    exact (partRead_out (some (s0, j0)) verW 46 verB true g 1 #[.bool false, .string ⟨#[]⟩, .string ⟨#[]⟩, .string ⟨#[]⟩] 41 A n cap l (k + 5) W (hb1.more hb2) hm (by omega) (by decide) (by decide) hJ.2 (by show (1 : Nat) < 4; decide) (enters_of Tryz.func46 (by kernel_rfl) rfl) (fun s hs W' hb => version_c s W' (by omega)) ho0).mono fun e w' hp => hp.found hlt0
  rw [show ((k + 5 : Nat) : Int) = (k : Int) + 5 by omega] at P0
  have P1 : Hid (∀ W, RJ g #[.bool false, .string ⟨s0.toArray⟩, .string ⟨#[]⟩, .string ⟨#[]⟩] w W → Calls Tryz.prog 92 #[.agg #[.string ⟨#[101, 110, 99, 111, 100, 105, 110, 103]⟩, .func (.func 47) #[] #[], .pointer (some ⟨g, 2, none⟩), .bool false], .slice A n cap, .int .i64 (j0 : Nat)] W fun e w' => e = .returned (.tuple #[.int .i64 (j0 : Nat), .int .i64 0]) ∧ Below W.heap.size W w') := Lib.hid fun W hJ => by
    obtain ⟨hb1, hb2, hb3⟩ := HB.out _ W hJ
    exact (partRead_out (some ([], j0)) encW 47 encB false g 2 #[.bool false, .string ⟨s0.toArray⟩, .string ⟨#[]⟩, .string ⟨#[]⟩] 41 A n cap l j0 W (hb1.more hb2) hm (by omega) (by decide) (by decide) hJ.2 (by show (2 : Nat) < 4; decide) (enters_of Tryz.func47 (by kernel_rfl) rfl) (fun s hs W' hb => encoding_c s W' (hb3.below hb hb3.lt)) ho1).mono fun e w' hp => hp.same
  have P2 : Hid (∀ W, RJ g #[.bool false, .string ⟨s0.toArray⟩, .string ⟨#[]⟩, .string ⟨#[]⟩] w W → Calls Tryz.prog 92 #[.agg #[.string ⟨#[115, 116, 97, 110, 100, 97, 108, 111, 110, 101]⟩, .func (.func 48) #[] #[], .pointer (some ⟨g, 3, none⟩), .bool false], .slice A n cap, .int .i64 (j0 : Nat)] W fun e w' => e = .returned (.tuple #[.int .i64 (j2 : Int), .int .i64 0]) ∧ ∃ w1, Below W.heap.size W w1 ∧ w' = w1.setCell ⟨g, 3, none⟩ (.string ⟨s2.toArray⟩)) := Lib.hid fun W hJ => by
    obtain ⟨hb1, hb2, hb3⟩ := HB.out _ W hJ
    exact (partRead_out (some (s2, j2)) aloneW 48 aloneB false g 3 #[.bool false, .string ⟨s0.toArray⟩, .string ⟨#[]⟩, .string ⟨#[]⟩] 41 A n cap l j0 W (hb1.more hb2) hm (by omega) (by decide) (by decide) hJ.2 (by show (3 : Nat) < 4; decide) (enters_of Tryz.func48 (by kernel_rfl) rfl) (fun s hs W' hb => (alone_c s W').mono fun e w' ⟨he, hw⟩ => ⟨he, hw ▸ Below.refl _ _⟩) ho2).mono fun e w' hp => hp.found hlt2
  have CB : Hid (∀ W, RJ g #[.bool false, .string ⟨s0.toArray⟩, .string ⟨#[]⟩, .string ⟨s2.toArray⟩] w W → Calls Tryz.prog 13 #[.slice A n cap, .int .i64 (j2 : Nat)] W fun e w' => e = .returned (.int .i64 (blankTo l j2)) ∧ W = w') := Lib.hid fun W hJ => blanks_c A n cap l j2 _ W (HB.out _ W hJ).1 (by omega) (by omega)
  have hbl := blankTo_le l j2 (by omega)
  have CH : Hid (∀ W, RJ g #[.bool false, .string ⟨s0.toArray⟩, .string ⟨#[]⟩, .string ⟨s2.toArray⟩] w W → Calls Tryz.prog 53 #[.slice (cutA A cap (blankTo l j2)) (n - blankTo l j2) (cap - blankTo l j2), .slice (some ⟨W.heap.size, 0, none⟩) 2 2] (W.alloc (.cells #[.int .u8 63, .int .u8 62] 5 (2, 3))) fun e w' => e = .returned (.bool true) ∧ Hid (RJ g #[.bool false, .string ⟨s0.toArray⟩, .string ⟨#[]⟩, .string ⟨s2.toArray⟩] w w')) := Lib.hid fun W hJ => by
    have ka := alloc_const W [63, 62] (2, 3) (by decide)
    obtain ⟨hb1, hb2, _⟩ := HB.out _ W hJ
    have := hasPrefix_c _ _ _ _ _ _ _ _ (W.alloc (.cells #[.int .u8 63, .int .u8 62] 5 (2, 3))) _ _ (((hb1.more hb2).below ka.1).drop (k := blankTo l j2) (by omega)) ka.2
    rw [ht] at this
    exact this.mono fun e w' ⟨he, hw⟩ => ⟨he, Lib.hid (hw ▸ hJ.kept ka.1)⟩
  have hrb : ∀ W : World, (Instr.slice 22 (.slice A n cap) (some (.int .i64 (blankTo l j2 : Nat))) none none).run Tryz.prog W = .ok (.slice (cutA A cap (blankTo l j2)) (n - blankTo l j2) (cap - blankTo l j2)) W := fun W => run_from A n cap (blankTo l j2) (by omega)
  have hbi : (blankTo l j2 : Int) ≤ 40000 := by omega
  generalize hbt : blankTo l j2 = bt at *
  have hk0 : (0 : Int) ≤ (k : Int) := by omega
  have hk1 : (k : Int) ≤ 40000 := by omega
  have e0 : ((j0 : Int) == (k : Int) + 5) = false := by simp; omega
  have e2 : ((j2 : Int) == (j0 : Int)) = false := by simp; omega
  clear h hT hTB hg hP hln hBg HB hk hm hPl hgP ho0 ho1 ho2 hlt0 hle0 hlt2 hle2 ht hbl hbt
  go_enter Tryz.func65, Tryz.ntmps65
  go_wp2_with fail
  go_step3
  go_wp2_with fail
  go_step3
  go_wp2_with fail
  refine wp_loop_rounds 4 ?_
  rw [rounds_succ]
  obtain ⟨x0, x1, x2, x3, x4, x5, x6, x7, x8, x9, x10, x11⟩ := HX.out _ _ HJ.out
  clear x4 x5 x6 x7 x8 x9 x10 x11
  have hn0 := hp_new w (.cells #[.string ⟨#[118, 101, 114, 115, 105, 111, 110]⟩, .func (.func 46) #[] #[], .pointer (some ⟨g, 1, none⟩), .bool true] 122)
  have JA0 := Lib.hid (HJ.out.kept ((Below.refl _ w).alloc (Nat.le_refl _) (.cells #[.string ⟨#[118, 101, 114, 115, 105, 111, 110]⟩, .func (.func 46) #[] #[], .pointer (some ⟨g, 1, none⟩), .bool true] 122)))
  go_wp2_with fail
  clear x0 x1 x2 x3
  refine (P0.out _ JA0.out).mono ?_
  rintro e w1 ⟨rfl, v1, hb1, rfl⟩
  have J0 : Hid (RJ g #[.bool false, .string ⟨s0.toArray⟩, .string ⟨#[]⟩, .string ⟨#[]⟩] w (v1.setCell ⟨g, 1, none⟩ (.string ⟨s0.toArray⟩))) := Lib.hid ((JA0.out.kept hb1).set 1 (.string ⟨s0.toArray⟩))
  clear hb1 hn0 JA0
  generalize v1.setCell ⟨g, 1, none⟩ (.string ⟨s0.toArray⟩) = u1 at *
  go_wp2
  rw [rounds_succ]
  obtain ⟨x0, x1, x2, x3, x4, x5, x6, x7, x8, x9, x10, x11⟩ := HX.out _ _ J0.out
  clear x0 x1 x2 x3 x8 x9 x10 x11
  have hn1 := hp_new u1 (.cells #[.string ⟨#[101, 110, 99, 111, 100, 105, 110, 103]⟩, .func (.func 47) #[] #[], .pointer (some ⟨g, 2, none⟩), .bool false] 122)
  have JA1 := Lib.hid (J0.out.kept ((Below.refl _ u1).alloc (Nat.le_refl _) (.cells #[.string ⟨#[101, 110, 99, 111, 100, 105, 110, 103]⟩, .func (.func 47) #[] #[], .pointer (some ⟨g, 2, none⟩), .bool false] 122)))
  go_wp2_with fail
  clear x4 x5 x6 x7
  refine (P1.out _ JA1.out).mono ?_
  rintro e u2 ⟨rfl, hb2⟩
  have J1 := Lib.hid (JA1.out.kept hb2)
  have m1 : u2.cell? ⟨u1.heap.size, 3, none⟩ = some (.bool false) := by rw [hb2.cell (p := ⟨u1.heap.size, 3, none⟩) (by simp), cell_of 3 hn1]; rfl
  clear hb2 hn1 JA1
  go_wp2
  clear m1
  rw [rounds_succ]
  obtain ⟨x0, x1, x2, x3, x4, x5, x6, x7, x8, x9, x10, x11⟩ := HX.out _ _ J1.out
  clear x0 x1 x2 x3 x4 x5 x6 x7
  have hn2 := hp_new u2 (.cells #[.string ⟨#[115, 116, 97, 110, 100, 97, 108, 111, 110, 101]⟩, .func (.func 48) #[] #[], .pointer (some ⟨g, 3, none⟩), .bool false] 122)
  have JA2 := Lib.hid (J1.out.kept ((Below.refl _ u2).alloc (Nat.le_refl _) (.cells #[.string ⟨#[115, 116, 97, 110, 100, 97, 108, 111, 110, 101]⟩, .func (.func 48) #[] #[], .pointer (some ⟨g, 3, none⟩), .bool false] 122)))
  go_wp2_with fail
  clear x8 x9 x10 x11
  refine (P2.out _ JA2.out).mono ?_
  rintro e w3 ⟨rfl, v3, hb3, rfl⟩
  have J2 : Hid (RJ g #[.bool false, .string ⟨s0.toArray⟩, .string ⟨#[]⟩, .string ⟨s2.toArray⟩] w (v3.setCell ⟨g, 3, none⟩ (.string ⟨s2.toArray⟩))) := Lib.hid ((JA2.out.kept hb3).set 3 (.string ⟨s2.toArray⟩))
  clear hb3 hn2 JA2
  generalize v3.setCell ⟨g, 3, none⟩ (.string ⟨s2.toArray⟩) = u3 at *
  go_wp2
  rw [rounds_succ]
  go_wp2_with fail
  refine (CB.out _ J2.out).mono ?_
  rintro e wq ⟨rfl, rfl⟩
  go_wp2_with fail
  refine (CH.out _ J2.out).mono ?_
  rintro e wz ⟨rfl, JZ⟩
  clear kc
  go_wp2
  (try rw [Exit.noGoto_ret])
  go_ret2
  exact ⟨rfl, JZ.out⟩
end Go.Proofs.YtgenpgfhjhcahaaGreatDoor
