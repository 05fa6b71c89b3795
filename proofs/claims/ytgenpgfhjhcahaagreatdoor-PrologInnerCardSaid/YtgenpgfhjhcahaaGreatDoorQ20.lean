/- Texts of ours, joined: XdMr, XdG, XdH, XdO, XdQ, XdR, AdD. -/
import Derived.Test.YtgenpgfhjhcahaaGreatDoorRows
import Derived.WalkKit
import Derived.ProofKit
import Derived.OpenShut
import Derived.ShutString
import Derived.ChangeOld
import Derived.Below
import Derived.BigQuiet
import Derived.Deep.QuietTactic
import Derived.Lib.Hide
import Derived.Deep.RegionHeld3
import Derived.Lib.SlBytesConst
import Derived.Laws.CopyOwn
import Derived.Laws.CopyRow
import Derived.Lib.Bytes
import Derived.Deep.LoopGhost
import Derived.Deep.DeepFit
import Derived.Deep.DeepMust
import Derived.WalkSpells
import Derived.WalkLawsBesides
import Derived.Laws.EntriesVeiled
import Derived.Laws.Rows
import Derived.Deep.RegionWith
import Derived.LoopN
import Derived.Test.YtgenpgfhjhcahaaGreatDoorQ1
import Derived.Test.YtgenpgfhjhcahaaGreatDoorQ8
import Derived.Test.YtgenpgfhjhcahaaGreatDoorQ2
import Derived.Test.YtgenpgfhjhcahaaGreatDoorQ7
import Derived.Test.YtgenpgfhjhcahaaGreatDoorQ9
import Derived.Test.YtgenpgfhjhcahaaGreatDoorQ15
import Derived.Test.YtgenpgfhjhcahaaGreatDoorQ16
import Derived.Test.YtgenpgfhjhcahaaGreatDoorQ17
import Derived.Laws.Tables
import Derived.Outline
import Derived.Test.YtgenpgfhjhcahaaGreatDoorQ5
import Derived.Test.YtgenpgfhjhcahaaGreatDoorQ19
import Derived.Test.YtgenpgfhjhcahaaGreatDoorQ18
import Derived.Test.YtgenpgfhjhcahaaGreatDoorQ4
/- narthex/xdecl.read, way by way. -/
namespace Go.Proofs.YtgenpgfhjhcahaaGreatDoor
open Go.ChangeShapes Go.WideShapes Go.ChangeAt Go.RowKit
set_option linter.unusedVariables false
set_option maxRecDepth 100000 in
set_option maxHeartbeats 8000000 in
theorem xdRead_f_same (g P B : Nat) (A : Option Addr) (n cap : Nat) (l : List UInt8) (k : Nat) (w : World) (h : Byt w B A n cap l) (hm : n ≤ 40000) (hk : k + 5 ≤ n) (hBg : B ≤ g) (hT : FoldT w) (hTB : 2 < B) (hg : w.heap[g]? = some (.cells #[.bool false, .string ⟨#[]⟩, .string ⟨#[]⟩, .string ⟨#[]⟩] 41)) (hgP : g < P)
    (hP : w.heap[P]? = some (.cells #[.string ⟨#[118, 101, 114, 115, 105, 111, 110]⟩, .func (.func 46) #[] #[], .pointer (some ⟨g, 1, none⟩), .bool true, .string ⟨#[101, 110, 99, 111, 100, 105, 110, 103]⟩, .func (.func 47) #[] #[], .pointer (some ⟨g, 2, none⟩), .bool false, .string ⟨#[115, 116, 97, 110, 100, 97, 108, 111, 110, 101]⟩, .func (.func 48) #[] #[], .pointer (some ⟨g, 3, none⟩), .bool false] 122)) (ho0 : partOut verW verB l (k + 5) = some ([], (k + 5))) :
    Calls Tryz.prog 65 #[.slice A n cap, .int .i64 k, .pointer (some ⟨g, 0, none⟩), .slice (some ⟨P, 0, none⟩) 3 3] w fun e w' => e = .returned (.tuple #[.int .i64 0, .int .i64 7]) ∧ RJ g #[.bool false, .string ⟨#[]⟩, .string ⟨#[]⟩, .string ⟨#[]⟩] w w' := by
  have kc := fun (w : World) (C : Array Value) (n c : Nat) => Lib.run_convert_bytes_const (P := Tryz.prog) w 22 5 C n c Tryz.underlying22 Tryz.underlying5
  have hln := h.length
  have hgl := lt_of hg
  have hPl := lt_of hP
  have HJ : Hid (RJ g #[.bool false, .string ⟨#[]⟩, .string ⟨#[]⟩, .string ⟨#[]⟩] w w) := Lib.hid ⟨Fr.refl _ _ _, hg⟩
  have HX : Hid (∀ vs W, RJ g vs w W → W.cell? ⟨P, 0, none⟩ = some (.string ⟨#[118, 101, 114, 115, 105, 111, 110]⟩) ∧ W.cell? ⟨P, 1, none⟩ = some (.func (.func 46) #[] #[]) ∧ W.cell? ⟨P, 2, none⟩ = some (.pointer (some ⟨g, 1, none⟩)) ∧ W.cell? ⟨P, 3, none⟩ = some (.bool true) ∧ W.cell? ⟨P, 4, none⟩ = some (.string ⟨#[101, 110, 99, 111, 100, 105, 110, 103]⟩) ∧ W.cell? ⟨P, 5, none⟩ = some (.func (.func 47) #[] #[]) ∧ W.cell? ⟨P, 6, none⟩ = some (.pointer (some ⟨g, 2, none⟩)) ∧ W.cell? ⟨P, 7, none⟩ = some (.bool false) ∧ W.cell? ⟨P, 8, none⟩ = some (.string ⟨#[115, 116, 97, 110, 100, 97, 108, 111, 110, 101]⟩) ∧ W.cell? ⟨P, 9, none⟩ = some (.func (.func 48) #[] #[]) ∧ W.cell? ⟨P, 10, none⟩ = some (.pointer (some ⟨g, 3, none⟩)) ∧ W.cell? ⟨P, 11, none⟩ = some (.bool false)) := Lib.hid fun vs W hJ => by
    have hne : P ≠ g := by omega
    refine ⟨?_, ?_, ?_, ?_, ?_, ?_, ?_, ?_, ?_, ?_, ?_, ?_⟩ <;> (rw [hJ.cell hPl hne, cell_of _ hP]; rfl)
  have HB : Hid (∀ vs W, RJ g vs w W → Byt W B A n cap l ∧ B ≤ W.heap.size ∧ FoldT W) := Lib.hid fun vs W hJ => ⟨hJ.byt h hBg (by omega), by have := hJ.1.size; omega, hT.below (hJ.1.below (B := B) (by omega) hBg) hTB⟩
  have P0 : Hid (∀ W, RJ g #[.bool false, .string ⟨#[]⟩, .string ⟨#[]⟩, .string ⟨#[]⟩] w W → Calls Tryz.prog 92 #[.agg #[.string ⟨#[118, 101, 114, 115, 105, 111, 110]⟩, .func (.func 46) #[] #[], .pointer (some ⟨g, 1, none⟩), .bool true], .slice A n cap, .int .i64 ((k + 5) : Nat)] W fun e w' => e = .returned (.tuple #[.int .i64 ((k + 5) : Nat), .int .i64 0]) ∧ Below W.heap.size W w') := Lib.hid fun W hJ => by
    obtain ⟨hb1, hb2, hb3⟩ := HB.out _ W hJ
    exact (partRead_out (some ([], (k + 5))) verW 46 verB true g 1 #[.bool false, .string ⟨#[]⟩, .string ⟨#[]⟩, .string ⟨#[]⟩] 41 A n cap l (k + 5) W (hb1.more hb2) hm (by omega) (by decide) (by decide) hJ.2 (by show (1 : Nat) < 4; decide) (enters_of Tryz.func46 (by kernel_rfl) rfl) (fun s hs W' hb => version_c s W' (by omega)) ho0).mono fun e w' hp => hp.same
  rw [show ((k + 5 : Nat) : Int) = (k : Int) + 5 by omega] at P0
  have CB : Hid (∀ W, RJ g #[.bool false, .string ⟨#[]⟩, .string ⟨#[]⟩, .string ⟨#[]⟩] w W → Calls Tryz.prog 13 #[.slice A n cap, .int .i64 (n : Int)] W fun e w' => e = .returned (.int .i64 (n : Int)) ∧ W = w') := Lib.hid fun W hJ => by
    have := blanks_c A n cap l n _ W (HB.out _ W hJ).1 (by omega) (Nat.le_refl _)
    rwa [blankTo_end l n (by omega)] at this
  have CH : Hid (∀ W, RJ g #[.bool false, .string ⟨#[]⟩, .string ⟨#[]⟩, .string ⟨#[]⟩] w W → Calls Tryz.prog 53 #[.slice (cutA A cap (n)) 0 (cap - n), .slice (some ⟨W.heap.size, 0, none⟩) 2 2] (W.alloc (.cells #[.int .u8 63, .int .u8 62] 5 (2, 3))) fun e w' => e = .returned (.bool false) ∧ Hid (RJ g #[.bool false, .string ⟨#[]⟩, .string ⟨#[]⟩, .string ⟨#[]⟩] w w')) := Lib.hid fun W hJ => by
    have ka := alloc_const W [63, 62] (2, 3) (by decide)
    obtain ⟨hb1, hb2, _⟩ := HB.out _ W hJ
    have := hasPrefix_c _ _ _ _ _ _ _ _ (W.alloc (.cells #[.int .u8 63, .int .u8 62] 5 (2, 3))) _ _ (((hb1.more hb2).below ka.1).drop (k := n) (by omega)) ka.2
    rw [Nat.sub_self] at this
    rw [show [63, 62].isPrefixOf (l.drop n) = false by rw [List.drop_of_length_le (by omega)]; rfl] at this
    exact this.mono fun e w' ⟨he, hw⟩ => ⟨he, Lib.hid (hw ▸ hJ.kept ka.1)⟩
  have hrb : ∀ W : World, (Instr.slice 22 (.slice A n cap) (some (.int .i64 (n : Nat))) none none).run Tryz.prog W = .ok (.slice (cutA A cap (n)) 0 (cap - n)) W := fun W => by have := run_from (w := W) A n cap n (Nat.le_refl _); rwa [Nat.sub_self] at this
  generalize cutA A cap (n) = Rn at *
  have hk0 : (0 : Int) ≤ (k : Int) := by omega
  have hk1 : (k : Int) ≤ 40000 := by omega
  clear h hT hTB hg hP hln hBg HB hk hm hPl hgP ho0 
  go_enter Tryz.func65, Tryz.ntmps65
  go_wp2_with fail
  go_step3
  go_wp2_with fail
  go_step3
  go_wp2_with fail
  refine wp_loop_rounds 4 ?_
  rw [rounds_succ]
  obtain ⟨x0, x1, x2, x3, x4, x5, x6, x7, x8, x9, x10, x11⟩ := HX.out _ _ HJ.out
  clear x4 x5 x6 x7 x8 x9 x10 x11
  have hn0 := hp_new w (.cells #[.string ⟨#[118, 101, 114, 115, 105, 111, 110]⟩, .func (.func 46) #[] #[], .pointer (some ⟨g, 1, none⟩), .bool true] 122)
  have JA0 := Lib.hid (HJ.out.kept ((Below.refl _ w).alloc (Nat.le_refl _) (.cells #[.string ⟨#[118, 101, 114, 115, 105, 111, 110]⟩, .func (.func 46) #[] #[], .pointer (some ⟨g, 1, none⟩), .bool true] 122)))
  go_wp2_with fail
  clear x0 x1 x2 x3
  refine (P0.out _ JA0.out).mono ?_
  rintro e u1 ⟨rfl, hb1⟩
  have J0 := Lib.hid (JA0.out.kept hb1)
  have m0 : u1.cell? ⟨w.heap.size, 3, none⟩ = some (.bool true) := by rw [hb1.cell (p := ⟨w.heap.size, 3, none⟩) (by simp), cell_of 3 hn0]; rfl
  clear hb1 hn0 JA0
  go_wp2_with fail
  refine (CB.out _ J0.out).mono ?_
  rintro e wq ⟨rfl, rfl⟩
  clear m0
  go_wp2_with fail
  refine (CH.out _ J0.out).mono ?_
  rintro e wz ⟨rfl, JZ⟩
  clear kc
  go_wp2
  (try rw [Exit.noGoto_ret])
  go_ret2
  exact ⟨rfl, JZ.out⟩
end Go.Proofs.YtgenpgfhjhcahaaGreatDoor
/- narthexref09.Read, where a declaration stands. -/
namespace Go.Proofs.YtgenpgfhjhcahaaGreatDoor
open Go.ChangeShapes Go.WideShapes Go.ChangeAt Go.RowKit
set_option linter.unusedVariables false
end Go.Proofs.YtgenpgfhjhcahaaGreatDoor
/- narthexref09.Read, a document's, outcome by outcome. -/
namespace Go.Proofs.YtgenpgfhjhcahaaGreatDoor
open Go.ChangeShapes Go.WideShapes Go.ChangeAt Go.RowKit
set_option linter.unusedVariables false
theorem hasX_le (l : List UInt8) (k n : Nat) (hl : l.length = n) (hx : hasX l k = true) : k + 5 ≤ n := by
  unfold hasX at hx
  simp only [Bool.and_eq_true] at hx
  have := pre_len hx.1
  simp at this
  omega
end Go.Proofs.YtgenpgfhjhcahaaGreatDoor
/- narthex/xdecl.read. -/
namespace Go.Proofs.YtgenpgfhjhcahaaGreatDoor
open Go.ChangeShapes Go.WideShapes Go.ChangeAt Go.RowKit
set_option linter.unusedVariables false
theorem tail_yes2 (l : List UInt8) (d : DeclL) (i : Nat) (h : [63, 62].isPrefixOf (l.drop (blankTo l i)) = true) : tailOut l d i = (d, blankTo l i + 2, 0) := by unfold tailOut; rw [if_pos h]
theorem tail_no2 (l : List UInt8) (d : DeclL) (i : Nat) (h : [63, 62].isPrefixOf (l.drop (blankTo l i)) = false) : tailOut l d i = (noDecl, 0, 7) := by unfold tailOut; rw [if_neg (by rw [h]; simp)]
/-- What the reading of all parts leaves. -/
def ReadPost (o : DeclL × Nat × Nat) (g : Nat) (w : World) (e : Ending) (w' : World) : Prop :=
  e = .returned (.tuple #[.int .i64 (o.2.1 : Int), .int .i64 (o.2.2 : Int)]) ∧ ∃ vs, RJ g vs w w' ∧ (o.2.2 = 0 → vs = #[.bool false, .string ⟨o.1.ver.toArray⟩, .string ⟨o.1.enc.toArray⟩, .string ⟨o.1.alone.toArray⟩] ∧ o.1.has = true)
theorem ReadPost.bad {g : Nat} {vs : Array Value} {w w' : World} {e : Ending} (h : e = .returned (.tuple #[.int .i64 0, .int .i64 7]) ∧ RJ g vs w w') : ReadPost (noDecl, 0, 7) g w e w' := ⟨h.1, vs, h.2, fun h => by cases h⟩
theorem ReadPost.good {g bt : Nat} {v e' a : List UInt8} {w w' : World} {e : Ending} (h : e = .returned (.tuple #[.int .i64 ((bt : Int) + 2), .int .i64 0]) ∧ RJ g #[.bool false, .string ⟨v.toArray⟩, .string ⟨e'.toArray⟩, .string ⟨a.toArray⟩] w w') : ReadPost (⟨true, v, e', a⟩, bt + 2, 0) g w e w' :=
  ⟨h.1, _, h.2, fun _ => ⟨rfl, rfl⟩⟩
theorem xdReadAll_f (g P B : Nat) (A : Option Addr) (n cap : Nat) (l : List UInt8) (k : Nat) (w : World) (h : Byt w B A n cap l) (hm : n ≤ 40000) (hx : hasX l k = true) (hBg : B ≤ g) (hT : FoldT w) (hTB : 2 < B) (hg : w.heap[g]? = some (.cells #[.bool false, .string ⟨#[]⟩, .string ⟨#[]⟩, .string ⟨#[]⟩] 41)) (hgP : g < P)
    (hP : w.heap[P]? = some (.cells #[.string ⟨#[118, 101, 114, 115, 105, 111, 110]⟩, .func (.func 46) #[] #[], .pointer (some ⟨g, 1, none⟩), .bool true, .string ⟨#[101, 110, 99, 111, 100, 105, 110, 103]⟩, .func (.func 47) #[] #[], .pointer (some ⟨g, 2, none⟩), .bool false, .string ⟨#[115, 116, 97, 110, 100, 97, 108, 111, 110, 101]⟩, .func (.func 48) #[] #[], .pointer (some ⟨g, 3, none⟩), .bool false] 122)) :
    Calls Tryz.prog 65 #[.slice A n cap, .int .i64 k, .pointer (some ⟨g, 0, none⟩), .slice (some ⟨P, 0, none⟩) 3 3] w fun e w' => ReadPost (readDecl false l k) g w e w' := by
  have hln := h.length
  have hkl := hasX_le l k n hln hx
  cases ho0 : partOut verW verB l (k + 5) with
  | none =>
    rw [show readDecl false l k = (noDecl, 0, 7) by unfold readDecl; rw [ho0]]
    exact (xdRead_f_none g P B A n cap l k w h hm hkl hBg hT hTB hg hgP hP ho0).mono fun e w' hr => ReadPost.bad hr
  | some p =>
    obtain ⟨v, j⟩ := p
    rcases part_le (by omega) ho0 with ⟨rfl, rfl⟩ | ⟨hlt0, hle0⟩
    · rw [show readDecl false l k = (noDecl, 0, 7) by unfold readDecl; rw [ho0]; simp]
      exact (xdRead_f_same g P B A n cap l k w h hm hkl hBg hT hTB hg hgP hP ho0).mono fun e w' hr => ReadPost.bad hr
    · rw [show readDecl false l k = readEnc false l v j by unfold readDecl; rw [ho0]; simp only; rw [if_neg (by omega)]]
      cases ho1 : partOut encW encB l j with
      | none =>
        rw [show readEnc false l v j = (noDecl, 0, 7) by unfold readEnc; rw [ho1]]
        exact (xdRead_f_found_none g P B A n cap l k w h hm hkl hBg hT hTB hg hgP hP v j ho0 hlt0 (by omega) ho1).mono fun e w' hr => ReadPost.bad hr
      | some p =>
        obtain ⟨e, j1⟩ := p
        rw [show readEnc false l v j = readAlone l v e j1 by unfold readEnc; rw [ho1]; simp]
        rcases part_le (by omega) ho1 with ⟨rfl, rfl⟩ | ⟨hlt1, hle1⟩
        · cases ho2 : partOut aloneW aloneB l j1 with
          | none =>
            rw [show readAlone l v [] j1 = (noDecl, 0, 7) by unfold readAlone; rw [ho2]]
            exact (xdRead_f_found_same_none g P B A n cap l k w h hm hkl hBg hT hTB hg hgP hP v j1 ho0 hlt0 (by omega) ho1 ho2).mono fun e w' hr => ReadPost.bad hr
          | some p =>
            obtain ⟨a, j2⟩ := p
            rw [show readAlone l v [] j1 = tailOut l ⟨true, v, [], a⟩ j2 by unfold readAlone; rw [ho2]]
            rcases part_le (by omega) ho2 with ⟨rfl, rfl⟩ | ⟨hlt2, hle2⟩
            · cases ht : [63, 62].isPrefixOf (l.drop (blankTo l j2)) with
              | true => rw [tail_yes2 _ _ _ ht]; exact (xdRead_f_found_same_same_yes g P B A n cap l k w h hm hkl hBg hT hTB hg hgP hP v j2 ho0 hlt0 (by omega) ho1 ho2 ht).mono fun e w' hr => ReadPost.good hr
              | false => rw [tail_no2 _ _ _ ht]; exact (xdRead_f_found_same_same_no g P B A n cap l k w h hm hkl hBg hT hTB hg hgP hP v j2 ho0 hlt0 (by omega) ho1 ho2 ht).mono fun e w' hr => ReadPost.bad hr
            · cases ht : [63, 62].isPrefixOf (l.drop (blankTo l j2)) with
              | true => rw [tail_yes2 _ _ _ ht]; exact (xdRead_f_found_same_found_yes g P B A n cap l k w h hm hkl hBg hT hTB hg hgP hP v j1 ho0 hlt0 (by omega) ho1 a j2 ho2 hlt2 (by omega) ht).mono fun e w' hr => ReadPost.good hr
              | false => rw [tail_no2 _ _ _ ht]; exact (xdRead_f_found_same_found_no g P B A n cap l k w h hm hkl hBg hT hTB hg hgP hP v j1 ho0 hlt0 (by omega) ho1 a j2 ho2 hlt2 (by omega) ht).mono fun e w' hr => ReadPost.bad hr
        · cases ho2 : partOut aloneW aloneB l j1 with
          | none =>
            rw [show readAlone l v e j1 = (noDecl, 0, 7) by unfold readAlone; rw [ho2]]
            exact (xdRead_f_found_found_none g P B A n cap l k w h hm hkl hBg hT hTB hg hgP hP v j ho0 hlt0 (by omega) e j1 ho1 hlt1 (by omega) ho2).mono fun e w' hr => ReadPost.bad hr
          | some p =>
            obtain ⟨a, j2⟩ := p
            rw [show readAlone l v e j1 = tailOut l ⟨true, v, e, a⟩ j2 by unfold readAlone; rw [ho2]]
            rcases part_le (by omega) ho2 with ⟨rfl, rfl⟩ | ⟨hlt2, hle2⟩
            · cases ht : [63, 62].isPrefixOf (l.drop (blankTo l j2)) with
              | true => rw [tail_yes2 _ _ _ ht]; exact (xdRead_f_found_found_same_yes g P B A n cap l k w h hm hkl hBg hT hTB hg hgP hP v j ho0 hlt0 (by omega) e j2 ho1 hlt1 (by omega) ho2 ht).mono fun e w' hr => ReadPost.good hr
              | false => rw [tail_no2 _ _ _ ht]; exact (xdRead_f_found_found_same_no g P B A n cap l k w h hm hkl hBg hT hTB hg hgP hP v j ho0 hlt0 (by omega) e j2 ho1 hlt1 (by omega) ho2 ht).mono fun e w' hr => ReadPost.bad hr
            · cases ht : [63, 62].isPrefixOf (l.drop (blankTo l j2)) with
              | true => rw [tail_yes2 _ _ _ ht]; exact (xdRead_f_found_found_found_yes g P B A n cap l k w h hm hkl hBg hT hTB hg hgP hP v j ho0 hlt0 (by omega) e j1 ho1 hlt1 (by omega) a j2 ho2 hlt2 (by omega) ht).mono fun e w' hr => ReadPost.good hr
              | false => rw [tail_no2 _ _ _ ht]; exact (xdRead_f_found_found_found_no g P B A n cap l k w h hm hkl hBg hT hTB hg hgP hP v j ho0 hlt0 (by omega) e j1 ho1 hlt1 (by omega) a j2 ho2 hlt2 (by omega) ht).mono fun e w' hr => ReadPost.bad hr
end Go.Proofs.YtgenpgfhjhcahaaGreatDoor
/- narthex/xdecl.told. -/
namespace Go.Proofs.YtgenpgfhjhcahaaGreatDoor
open Go.ChangeShapes Go.WideShapes Go.ChangeAt Go.RowKit
set_option linter.unusedVariables false
/-- While a declaration is told: all below stands but the declaration's block; it; and the result's own block. -/
def TJ (g : Nat) (vs rs : Array Value) (w W : World) : Prop := Fr w.heap.size g w W ∧ W.heap[g]? = some (.cells vs 41) ∧ W.heap[w.heap.size]? = some (.cells rs 41)
theorem TJ.kept {g : Nat} {vs rs : Array Value} {w W W' : World} (h : TJ g vs rs w W) (hb : Below W.heap.size W W') : TJ g vs rs w W' :=
  ⟨h.1.trans (Fr.ofBelow (hb.mono h.1.size)), by rw [hb.block _ (lt_of h.2.1)]; exact h.2.1, by rw [hb.block _ (lt_of h.2.2)]; exact h.2.2⟩
theorem TJ.start {g : Nat} {vs : Array Value} {w : World} (rs : Array Value) (hg : w.heap[g]? = some (.cells vs 41)) : TJ g vs rs w (w.alloc (.cells rs 41)) :=
  ⟨Fr.ofBelow ((Below.refl _ w).alloc (Nat.le_refl _) _), hp_old hg, hp_new _ _⟩
theorem TJ.read {g : Nat} {vs vs2 rs : Array Value} {w W W' : World} (h : TJ g vs rs w W) (hg : g < w.heap.size) (hr : RJ g vs2 W W') : TJ g vs2 rs w W' :=
  ⟨h.1.trans (hr.1.mono h.1.size), hr.2, by rw [hr.1.block _ (lt_of h.2.2) (by omega)]; exact h.2.2⟩
theorem TJ.set {g : Nat} {vs rs : Array Value} {w W : World} (h : TJ g vs rs w W) (hg : g < w.heap.size) (i : Nat) (v : Value) : TJ g (vs.setIfInBounds i v) rs w (W.setCell ⟨g, i, none⟩ v) :=
  ⟨h.1.set i v, hp_set h.2.1, by rw [hp_other (by omega)]; exact h.2.2⟩
theorem TJ.row {g : Nat} {vs rs : Array Value} {w W : World} (h : TJ g vs rs w W) (hg : g < w.heap.size) (cs : Array Value) : TJ g vs cs w (W.setRow w.heap.size cs) := by
  refine ⟨⟨h.1.os, h.1.tape, h.1.output, ?_, fun k hk hkg => ?_⟩, ?_, setRow_heap _ _ _ _ _ _ h.2.2⟩
  · have := h.1.size; simpa [World.setRow] using this
  · rw [setRow_other _ _ _ _ (by omega)]; exact h.1.block k hk hkg
  · rw [setRow_other _ _ _ _ (by omega)]; exact h.2.1
theorem tail_e (l : List UInt8) (d : DeclL) (i : Nat) : (tailOut l d i).2.2 ≠ 0 → tailOut l d i = (noDecl, 0, 7) := by
  unfold tailOut
  split
  · intro h; exact absurd rfl h
  · intro _; rfl
theorem alone_e (l v e : List UInt8) (i : Nat) : (readAlone l v e i).2.2 ≠ 0 → readAlone l v e i = (noDecl, 0, 7) := by
  unfold readAlone
  split
  · intro _; rfl
  · exact tail_e _ _ _
theorem enc_e (text : Bool) (l v : List UInt8) (i : Nat) : (readEnc text l v i).2.2 ≠ 0 → readEnc text l v i = (noDecl, 0, 7) := by
  unfold readEnc
  split
  · intro _; rfl
  · split
    · split
      · intro _; rfl
      · exact tail_e _ _ _
    · exact alone_e _ _ _ _
theorem readDecl_e (text : Bool) (l : List UInt8) (k : Nat) : (readDecl text l k).2.2 ≠ 0 → readDecl text l k = (noDecl, 0, 7) := by
  unfold readDecl
  split
  · intro _; rfl
  · split
    · intro _; rfl
    · exact enc_e _ _ _ _
set_option maxRecDepth 100000 in
set_option maxHeartbeats 8000000 in
theorem told_c (text : Bool) (pv : Value) (g B : Nat) (A : Option Addr) (n cap : Nat) (l : List UInt8) (at_ : Int) (w : World) (h : Byt w B A n cap l) (hm : n ≤ 40000) (hBg : B ≤ g) (hg : w.heap[g]? = some (.cells #[.bool false, .string ⟨#[]⟩, .string ⟨#[]⟩, .string ⟨#[]⟩] 41))
    (HR : ∀ k : Nat, k ≤ n → hasX l k = true → ∀ W, TJ g #[.bool false, .string ⟨#[]⟩, .string ⟨#[]⟩, .string ⟨#[]⟩] #[.bool false, .string ⟨#[]⟩, .string ⟨#[]⟩, .string ⟨#[]⟩] w W → Calls Tryz.prog 65 #[.slice A n cap, .int .i64 k, .pointer (some ⟨g, 0, none⟩), pv] W fun e w' => ReadPost (readDecl text l k) g W e w') :
    Calls Tryz.prog 45 #[.slice A n cap, .int .i64 at_, .pointer (some ⟨g, 0, none⟩), pv] w fun e w' => e = .returned (declV (declAt text l at_)) ∧ Fr w.heap.size g w w' := by
  have hgl := lt_of hg
  have hJ := TJ.start #[.bool false, .string ⟨#[]⟩, .string ⟨#[]⟩, .string ⟨#[]⟩] hg
  have hi : (Tryz.prog.info? 41).map (·.size) = some 4 := by kernel_rfl
  obtain ⟨d, hu⟩ := isStruct_of (P := Tryz.prog) (t := 41) (by kernel_rfl)
  have HU := Lib.hid (And.intro hi hu)
  have HG := Lib.hid hgl
  have J0 := Lib.hid hJ
  unfold declAt
  rw [h.length]
  by_cases ha : at_ < 0 ∨ (n : Int) < at_
  · rw [if_pos ha]
    have JF := Lib.hid (J0.out.row HG.out #[.bool false, .string ⟨#[]⟩, .string ⟨#[]⟩, .string ⟨#[]⟩])
    clear HR h hg hgl hJ hi hu hBg hm
    unfold declV
    by_cases h0 : at_ < 0
    · have hd : decide (at_ < 0) = true := by simpa using h0
      clear ha
      go_enter Tryz.func45, Tryz.ntmps45
      go_wp2_with (refine wpList_store_row rfl _ _ _ rfl w.heap.size #[.bool false, .string ⟨#[]⟩, .string ⟨#[]⟩, .string ⟨#[]⟩] rfl rfl _ _ J0.out.2.2 (by kernel_rfl) rfl (by kernel_rfl) ?_)
      (try simp only [Exit.inBlock, Exit.then])
      exact bodyPost_ret (results_cell3 rfl _ _ w.heap.size _ _ _ _ rfl JF.out.2.2 HU.out.2 rfl HU.out.1) rfl ⟨rfl, JF.out.1⟩
    · have h1 : (n : Int) < at_ := by omega
      clear ha
      go_enter Tryz.func45, Tryz.ntmps45
      go_wp2_with (refine wpList_store_row rfl _ _ _ rfl w.heap.size #[.bool false, .string ⟨#[]⟩, .string ⟨#[]⟩, .string ⟨#[]⟩] rfl rfl _ _ J0.out.2.2 (by kernel_rfl) rfl (by kernel_rfl) ?_)
      (try simp only [Exit.inBlock, Exit.then])
      exact bodyPost_ret (results_cell3 rfl _ _ w.heap.size _ _ _ _ rfl JF.out.2.2 HU.out.2 rfl HU.out.1) rfl ⟨rfl, JF.out.1⟩
  · rw [if_neg ha]
    obtain ⟨k, rfl⟩ : ∃ k : Nat, at_ = (k : Int) := ⟨at_.toNat, by omega⟩
    rw [Int.toNat_natCast]
    have hk : k ≤ n := by omega
    have hk' : ¬ (n : Int) < (k : Int) := by omega
    have hk0 : (0 : Int) ≤ (k : Int) := by omega
    have hk1 : (k : Int) ≤ 40000 := by omega
    have hin := (h.below (hJ.1.below (B := B) (by omega) hBg)).more (B' := (w.alloc (.cells #[.bool false, .string ⟨#[]⟩, .string ⟨#[]⟩, .string ⟨#[]⟩] 41)).heap.size) (by simp; omega)
    have C1 := Lib.hid (xdHas_in A n cap l k _ hin (by omega) hk)
    unfold declOut
    by_cases hx : hasX l k = true
    · rw [if_pos hx]
      rw [hx] at C1
      have CR := Lib.hid (HR k hk hx)
      have hoe := readDecl_e text l k
      generalize readDecl text l k = o at *
      obtain ⟨⟨dh, dv, de, da⟩, nx, er⟩ := o
      clear HR h hg hgl hJ hi hu hBg hm ha hin hx hk
      unfold declV DeclL.cells
      by_cases he : er = 0
      · subst he
        go_enter Tryz.func45, Tryz.ntmps45
        go_wp2_with fail
        refine C1.out.mono ?_
        rintro e w1 ⟨rfl, hb⟩
        have J1 := Lib.hid (J0.out.kept hb)
        clear hb
        go_wp2_with fail
        refine (CR.out _ J1.out).mono ?_
        rintro e w2 ⟨rfl, vs, hr, hvs⟩
        obtain ⟨rfl, hdh⟩ := hvs rfl
        simp only at hdh
        subst hdh
        have J2 := Lib.hid (J1.out.read HG.out hr)
        clear hr hvs
        have z0 := cell_of 0 J2.out.2.1
        have y0 := free_of 0 J2.out.2.1
        have J3 : Hid (TJ g #[.bool true, .string ⟨dv.toArray⟩, .string ⟨de.toArray⟩, .string ⟨da.toArray⟩] #[.bool false, .string ⟨#[]⟩, .string ⟨#[]⟩, .string ⟨#[]⟩] w (w2.setCell ⟨g, 0, none⟩ (.bool true))) := Lib.hid (J2.out.set HG.out 0 (.bool true))
        have JF := Lib.hid (J3.out.row HG.out #[.bool true, .string ⟨dv.toArray⟩, .string ⟨de.toArray⟩, .string ⟨da.toArray⟩])
        go_wp2_with (first | (refine wpList_load_row rfl _ _ rfl g rfl _ _ _ _ J3.out.2.1 HU.out.2 rfl HU.out.1 ?_) | (refine wpList_store_row rfl _ _ _ rfl w.heap.size #[.bool true, .string ⟨dv.toArray⟩, .string ⟨de.toArray⟩, .string ⟨da.toArray⟩] rfl rfl _ _ J3.out.2.2 (by kernel_rfl) rfl (by kernel_rfl) ?_))
        (try simp only [Exit.inBlock, Exit.then])
        exact bodyPost_ret (results_cell3 rfl _ _ w.heap.size _ _ _ _ rfl JF.out.2.2 HU.out.2 rfl HU.out.1) rfl ⟨rfl, JF.out.1⟩
      · have hei : ((er : Int) == 0) = false := by simp; omega
        have hh := hoe he
        simp only [Prod.mk.injEq] at hh
        obtain ⟨hd, rfl, rfl⟩ := hh
        unfold noDecl at hd
        cases hd
        clear hoe he
        go_enter Tryz.func45, Tryz.ntmps45
        go_wp2_with fail
        refine C1.out.mono ?_
        rintro e w1 ⟨rfl, hb⟩
        have J1 := Lib.hid (J0.out.kept hb)
        clear hb
        go_wp2_with fail
        refine (CR.out _ J1.out).mono ?_
        rintro e w2 ⟨rfl, vs, hr, hvs⟩
        have J2 := Lib.hid (J1.out.read HG.out hr)
        have JF := Lib.hid (J2.out.row HG.out #[.bool false, .string ⟨#[]⟩, .string ⟨#[]⟩, .string ⟨#[]⟩])
        clear hr hvs
        go_wp2_with (refine wpList_store_row rfl _ _ _ rfl w.heap.size #[.bool false, .string ⟨#[]⟩, .string ⟨#[]⟩, .string ⟨#[]⟩] rfl rfl _ _ J2.out.2.2 (by kernel_rfl) rfl (by kernel_rfl) ?_)
        (try simp only [Exit.inBlock, Exit.then])
        exact bodyPost_ret (results_cell3 rfl _ _ w.heap.size _ _ _ _ rfl JF.out.2.2 HU.out.2 rfl HU.out.1) rfl ⟨rfl, JF.out.1⟩
    · rw [if_neg hx]
      rw [bfalse hx] at C1
      clear HR h hg hgl hJ hi hu hBg hm ha hin hx hk
      unfold declV
      go_enter Tryz.func45, Tryz.ntmps45
      go_wp2_with fail
      refine C1.out.mono ?_
      rintro e w1 ⟨rfl, hb⟩
      have J1 := Lib.hid (J0.out.kept hb)
      have JF := Lib.hid (J1.out.row HG.out #[.bool false, .string ⟨#[]⟩, .string ⟨#[]⟩, .string ⟨#[]⟩])
      clear hb
      go_wp2_with (refine wpList_store_row rfl _ _ _ rfl w.heap.size #[.bool false, .string ⟨#[]⟩, .string ⟨#[]⟩, .string ⟨#[]⟩] rfl rfl _ _ J1.out.2.2 (by kernel_rfl) rfl (by kernel_rfl) ?_)
      (try simp only [Exit.inBlock, Exit.then])
      exact bodyPost_ret (results_cell3 rfl _ _ w.heap.size _ _ _ _ rfl JF.out.2.2 HU.out.2 rfl HU.out.1) rfl ⟨rfl, JF.out.1⟩
end Go.Proofs.YtgenpgfhjhcahaaGreatDoor
/- narthex/xdecl.Xml, Text. -/
namespace Go.Proofs.YtgenpgfhjhcahaaGreatDoor
open Go.ChangeShapes Go.WideShapes Go.ChangeAt Go.RowKit
set_option linter.unusedVariables false
/-- What stands ahead of the telling: the result's block, the declaration's, the parts'. -/
def XP (pa : Array Value) (w W : World) : Prop := Below w.heap.size w W ∧ W.heap[w.heap.size]? = some (.cells #[.bool false, .string ⟨#[]⟩, .string ⟨#[]⟩, .string ⟨#[]⟩] 41) ∧ W.heap[w.heap.size + 1]? = some (.cells #[.bool false, .string ⟨#[]⟩, .string ⟨#[]⟩, .string ⟨#[]⟩] 41) ∧ W.heap[w.heap.size + 2]? = some (.cells pa 122)
theorem XP.drew {pa : Array Value} {w W : World} (h : XP pa w W) : XP pa w W.drew := ⟨h.1.drew, h.2.1, h.2.2.1, h.2.2.2⟩
theorem XP.start (pa : Array Value) (w : World) : XP pa w (((w.alloc (.cells #[.bool false, .string ⟨#[]⟩, .string ⟨#[]⟩, .string ⟨#[]⟩] 41)).alloc (.cells #[.bool false, .string ⟨#[]⟩, .string ⟨#[]⟩, .string ⟨#[]⟩] 41)).alloc (.cells pa 122)) := by
  have a1 := (Below.refl w.heap.size w).alloc (Nat.le_refl _) (.cells #[.bool false, .string ⟨#[]⟩, .string ⟨#[]⟩, .string ⟨#[]⟩] 41)
  have a2 := a1.alloc a1.size (.cells #[.bool false, .string ⟨#[]⟩, .string ⟨#[]⟩, .string ⟨#[]⟩] 41)
  have a3 := a2.alloc a2.size (.cells pa 122)
  refine ⟨a3, hp_old (hp_old (hp_new _ _)), ?_, ?_⟩
  · have := hp_new (w.alloc (.cells #[.bool false, .string ⟨#[]⟩, .string ⟨#[]⟩, .string ⟨#[]⟩] 41)) (.cells #[.bool false, .string ⟨#[]⟩, .string ⟨#[]⟩, .string ⟨#[]⟩] 41)
    rw [World.size_alloc] at this
    exact hp_old this
  · have := hp_new ((w.alloc (.cells #[.bool false, .string ⟨#[]⟩, .string ⟨#[]⟩, .string ⟨#[]⟩] 41)).alloc (.cells #[.bool false, .string ⟨#[]⟩, .string ⟨#[]⟩, .string ⟨#[]⟩] 41)) (.cells pa 122)
    rw [World.size_alloc, World.size_alloc] at this
    exact this
set_option maxRecDepth 100000 in
set_option maxHeartbeats 8000000 in
theorem xdXml_c (A : Option Addr) (n cap : Nat) (l : List UInt8) (at_ : Int) (w : World) (h : Byt w w.heap.size A n cap l) (hm : n ≤ 40000) (hT : FoldT w) :
    Calls Tryz.prog 23 #[.slice A n cap, .int .i64 at_] w fun e w' => e = .returned (declV (declAt false l at_)) ∧ Below w.heap.size w w' := by
  have hi : (Tryz.prog.info? 41).map (·.size) = some 4 := by kernel_rfl
  obtain ⟨d, hu⟩ := isStruct_of (P := Tryz.prog) (t := 41) (by kernel_rfl)
  have HU := Lib.hid (And.intro hi hu)
  have CT : Hid (∀ W, XP #[.string ⟨#[118, 101, 114, 115, 105, 111, 110]⟩, .func (.func 46) #[] #[], .pointer (some ⟨w.heap.size + 1, 1, none⟩), .bool true, .string ⟨#[101, 110, 99, 111, 100, 105, 110, 103]⟩, .func (.func 47) #[] #[], .pointer (some ⟨w.heap.size + 1, 2, none⟩), .bool false, .string ⟨#[115, 116, 97, 110, 100, 97, 108, 111, 110, 101]⟩, .func (.func 48) #[] #[], .pointer (some ⟨w.heap.size + 1, 3, none⟩), .bool false] w W → Calls Tryz.prog 45 #[.slice A n cap, .int .i64 at_, .pointer (some ⟨w.heap.size + 1, 0, none⟩), .slice (some ⟨w.heap.size + 2, 0, none⟩) 3 3] W fun e w' => e = .returned (declV (declAt false l at_)) ∧ (w'.cell? ⟨w.heap.size, 0, none⟩ = some (.bool false) ∧ w'.cell? ⟨w.heap.size, 1, none⟩ = some (.string ⟨#[]⟩) ∧ w'.cell? ⟨w.heap.size, 2, none⟩ = some (.string ⟨#[]⟩) ∧ w'.cell? ⟨w.heap.size, 3, none⟩ = some (.string ⟨#[]⟩) ∧ w'.frozen? ⟨w.heap.size, 0, none⟩ = false ∧ w'.frozen? ⟨w.heap.size, 1, none⟩ = false ∧ w'.frozen? ⟨w.heap.size, 2, none⟩ = false ∧ w'.frozen? ⟨w.heap.size, 3, none⟩ = false ∧ (w'.setCell ⟨w.heap.size, 0, none⟩ (.bool (declAt false l at_).1.has)).cell? ⟨w.heap.size, 1, none⟩ = some (.string ⟨#[]⟩) ∧ ((w'.setCell ⟨w.heap.size, 0, none⟩ (.bool (declAt false l at_).1.has)).setCell ⟨w.heap.size, 1, none⟩ (.string ⟨(declAt false l at_).1.ver.toArray⟩)).cell? ⟨w.heap.size, 2, none⟩ = some (.string ⟨#[]⟩) ∧ (((w'.setCell ⟨w.heap.size, 0, none⟩ (.bool (declAt false l at_).1.has)).setCell ⟨w.heap.size, 1, none⟩ (.string ⟨(declAt false l at_).1.ver.toArray⟩)).setCell ⟨w.heap.size, 2, none⟩ (.string ⟨(declAt false l at_).1.enc.toArray⟩)).cell? ⟨w.heap.size, 3, none⟩ = some (.string ⟨#[]⟩) ∧ (w'.setCell ⟨w.heap.size, 0, none⟩ (.bool (declAt false l at_).1.has)).frozen? ⟨w.heap.size, 1, none⟩ = false ∧ ((w'.setCell ⟨w.heap.size, 0, none⟩ (.bool (declAt false l at_).1.has)).setCell ⟨w.heap.size, 1, none⟩ (.string ⟨(declAt false l at_).1.ver.toArray⟩)).frozen? ⟨w.heap.size, 2, none⟩ = false ∧ (((w'.setCell ⟨w.heap.size, 0, none⟩ (.bool (declAt false l at_).1.has)).setCell ⟨w.heap.size, 1, none⟩ (.string ⟨(declAt false l at_).1.ver.toArray⟩)).setCell ⟨w.heap.size, 2, none⟩ (.string ⟨(declAt false l at_).1.enc.toArray⟩)).frozen? ⟨w.heap.size, 3, none⟩ = false) ∧ Hid (((((w'.setCell ⟨w.heap.size, 0, none⟩ (.bool (declAt false l at_).1.has)).setCell ⟨w.heap.size, 1, none⟩ (.string ⟨(declAt false l at_).1.ver.toArray⟩)).setCell ⟨w.heap.size, 2, none⟩ (.string ⟨(declAt false l at_).1.enc.toArray⟩)).setCell ⟨w.heap.size, 3, none⟩ (.string ⟨(declAt false l at_).1.alone.toArray⟩)).heap[w.heap.size]? = some (.cells (declAt false l at_).1.cells 41) ∧ Below w.heap.size w ((((w'.setCell ⟨w.heap.size, 0, none⟩ (.bool (declAt false l at_).1.has)).setCell ⟨w.heap.size, 1, none⟩ (.string ⟨(declAt false l at_).1.ver.toArray⟩)).setCell ⟨w.heap.size, 2, none⟩ (.string ⟨(declAt false l at_).1.enc.toArray⟩)).setCell ⟨w.heap.size, 3, none⟩ (.string ⟨(declAt false l at_).1.alone.toArray⟩)))) := Lib.hid fun W hX => by
    have hsz := hX.1.size
    have hl2 := lt_of hX.2.2.2
    refine (told_c false (.slice (some ⟨w.heap.size + 2, 0, none⟩) 3 3) (w.heap.size + 1) w.heap.size A n cap l at_ W (h.below hX.1) hm (Nat.le_succ _) hX.2.2.1 ?_).mono fun e w' ⟨he, hf⟩ => ?_
    · intro k hk hx W2 hJ
      have hb2 : Below w.heap.size W W2 := hJ.1.below (by omega) (by omega)
      refine xdReadAll_f (w.heap.size + 1) (w.heap.size + 2) w.heap.size A n cap l k W2 ((h.below hX.1).below hb2) hm hx (Nat.le_succ _) ((hT.below hX.1 hT.lt).below hb2 hT.lt) hT.lt hJ.2.1 (by omega) ?_
      rw [hJ.1.block _ hl2 (by omega)]
      exact hX.2.2.2
    · have hr : w'.heap[w.heap.size]? = some (.cells #[.bool false, .string ⟨#[]⟩, .string ⟨#[]⟩, .string ⟨#[]⟩] 41) := by rw [hf.block _ (by omega) (by omega)]; exact hX.2.1
      have hb := hX.1.trans (hf.below (B := w.heap.size) (by omega) (by omega))
      have r1 := hp_set (i := 0) (v := (.bool (declAt false l at_).1.has)) hr
      have r2 := hp_set (i := 1) (v := (.string ⟨(declAt false l at_).1.ver.toArray⟩)) r1
      have r3 := hp_set (i := 2) (v := (.string ⟨(declAt false l at_).1.enc.toArray⟩)) r2
      have r4 := hp_set (i := 3) (v := (.string ⟨(declAt false l at_).1.alone.toArray⟩)) r3
      refine ⟨he, ⟨cell_of 0 hr, cell_of 1 hr, cell_of 2 hr, cell_of 3 hr, free_of 0 hr, free_of 1 hr, free_of 2 hr, free_of 3 hr, cell_of 1 r1, cell_of 2 r2, cell_of 3 r3, free_of 1 r1, free_of 2 r2, free_of 3 r3⟩, Lib.hid ⟨r4, ?_⟩⟩
      exact (((hb.setCell (p := ⟨w.heap.size, 0, none⟩) (Nat.le_refl _) _).setCell (p := ⟨w.heap.size, 1, none⟩) (Nat.le_refl _) _).setCell (p := ⟨w.heap.size, 2, none⟩) (Nat.le_refl _) _).setCell (p := ⟨w.heap.size, 3, none⟩) (Nat.le_refl _) _
  have HX := Lib.hid (XP.start #[.string ⟨#[118, 101, 114, 115, 105, 111, 110]⟩, .func (.func 46) #[] #[], .pointer (some ⟨w.heap.size + 1, 1, none⟩), .bool true, .string ⟨#[101, 110, 99, 111, 100, 105, 110, 103]⟩, .func (.func 47) #[] #[], .pointer (some ⟨w.heap.size + 1, 2, none⟩), .bool false, .string ⟨#[115, 116, 97, 110, 100, 97, 108, 111, 110, 101]⟩, .func (.func 48) #[] #[], .pointer (some ⟨w.heap.size + 1, 3, none⟩), .bool false] w)
  clear h hT hm hi hu
  generalize declAt false l at_ = o at *
  obtain ⟨⟨dh, dv, de, da⟩, nx, er⟩ := o
  unfold declV DeclL.cells at *
  simp only at CT ⊢
  go_enter Tryz.func23, Tryz.ntmps23
  go_wp2
  go_region_with (first
    | (go_at_call 45; refine (CT.out _ (by first | exact HX.out | exact HX.out.drew | exact HX.out.drew.drew | exact HX.out.drew.drew.drew | exact HX.out.drew.drew.drew.drew)).mono ?_; rintro e w1 ⟨rfl, ⟨z0, z1, z2, z3, y0, y1, y2, y3, x1, x2, x3, u1, u2, u3⟩, HF⟩))
  all_goals
    go_wp2
    (try simp only [Exit.inBlock, Exit.then])
    exact bodyPost_ret (results_cell3 rfl _ _ w.heap.size _ _ _ _ rfl HF.out.1 HU.out.2 rfl HU.out.1) rfl ⟨rfl, HF.out.2⟩
end Go.Proofs.YtgenpgfhjhcahaaGreatDoor
/- dtd.Table.Add of comments; extid.blanks. -/
namespace Go.Proofs.YtgenpgfhjhcahaaGreatDoor
open Go.ChangeShapes Go.WideShapes Go.ChangeAt Go.RowKit
set_option linter.unusedVariables false
/-- A declaration that is a comment or a processing instruction (or none at all). -/
def dclV (k : Int) (nm tx : List UInt8) : Array Value := #[.int .i64 k, .string ⟨nm.toArray⟩, .bool false, .string ⟨#[]⟩, .string ⟨#[]⟩, .bool false, .string ⟨#[]⟩, .string ⟨#[]⟩, .string ⟨#[]⟩, .slice none 0 0, .string ⟨#[]⟩, .string ⟨#[]⟩, .string ⟨tx.toArray⟩]
set_option maxRecDepth 100000 in
set_option maxHeartbeats 4000000 in
theorem tabAdd_c (t : Nat) (k : Int) (nm tx : List UInt8) (hk : k = 5 ∨ k = 6) (w : World) : Calls Tryz.prog 76 #[.pointer (some ⟨t, 0, none⟩), .agg (dclV k nm tx)] w fun e w' => e = .returned (.int .i64 0) ∧ Below w.heap.size w w' := by
  unfold dclV
  have h1 : ¬ k < 1 := by omega
  have h2 : ¬ 6 < k := by omega
  have e1 : (k == 1) = false := by rcases hk with rfl | rfl <;> rfl
  have e2 : (k == 2) = false := by rcases hk with rfl | rfl <;> rfl
  have e3 : (k == 3) = false := by rcases hk with rfl | rfl <;> rfl
  have hx := hp_new w (.cells (dclV k nm tx) 177)
  have hb0 := (Below.refl w.heap.size w).alloc (Nat.le_refl _) (.cells (dclV k nm tx) 177)
  unfold dclV at hx hb0
  obtain ⟨w0, hw0⟩ : ∃ w0, w.alloc (.cells #[.int .i64 k, .string ⟨nm.toArray⟩, .bool false, .string ⟨#[]⟩, .string ⟨#[]⟩, .bool false, .string ⟨#[]⟩, .string ⟨#[]⟩, .string ⟨#[]⟩, .slice none 0 0, .string ⟨#[]⟩, .string ⟨#[]⟩, .string ⟨tx.toArray⟩] 177) = w0 := ⟨_, rfl⟩
  rw [hw0] at hx hb0
  have q0 : w0.cell? ⟨w.heap.size, 0, none⟩ = some (.int .i64 k) := by rw [cell_of 0 hx]; rfl
  have HB := Lib.hid hb0
  clear hx hb0 hk
  go_enter Tryz.func76, Tryz.ntmps76
  go_wp2
  go_ret
  exact ⟨rfl, HB.out⟩
set_option maxRecDepth 100000 in
set_option maxHeartbeats 4000000 in
theorem exBlanks_c (A : Option Addr) (n cap : Nat) (l : List UInt8) (k : Nat) (w : World) (h : Byt w w.heap.size A n cap l) (hm : n ≤ 1000000) (hk : k ≤ n) (hb : blankTo l k ≠ k) :
    Calls Tryz.prog 69 #[.slice A n cap, .int .i64 k] w fun e w' => e = .returned (.tuple #[.int .i64 (blankTo l k), .int .i64 0]) ∧ w = w' := by
  have C1 := Lib.hid (blanks_c A n cap l k w.heap.size w h hm hk)
  have hne : ((blankTo l k : Nat) : Int) ≠ (k : Int) := by omega
  have he : (((blankTo l k : Nat) : Int) == (k : Int)) = false := by simp; omega
  clear h hb
  generalize blankTo l k = t at *
  go_enter Tryz.func69, Tryz.ntmps69
  go_wp2_with fail
  refine C1.out.mono ?_
  rintro e w1 ⟨rfl, rfl⟩
  go_wp2
  exact bodyPost_ret (results_tmp2 rfl _ _ _) rfl ⟨rfl, rfl⟩
end Go.Proofs.YtgenpgfhjhcahaaGreatDoor
