/- Several texts of ours in one: XdO, XdQ, XdR. -/
import Derived.Test.YtljmpghijlibaaaDoorRows
import Derived.WalkKit
import Derived.ProofKit
import Derived.OpenShut
import Derived.ShutString
import Derived.ChangeOld
import Derived.Below
import Derived.BigQuiet
import Derived.Deep.QuietTactic
import Derived.Lib.Hide
import Derived.Deep.RegionHeld3
import Derived.Lib.SlBytesConst
import Derived.Laws.CopyOwn
import Derived.Laws.CopyRow
import Derived.Lib.Bytes
import Derived.Deep.LoopGhost
import Derived.Deep.DeepFit
import Derived.Deep.DeepMust
import Derived.WalkSpells
import Derived.WalkLawsBesides
import Derived.Laws.EntriesVeiled
import Derived.Laws.Rows
import Derived.Deep.RegionWith
import Derived.LoopN
import Derived.Test.YtljmpghijlibaaaDoorBase
import Derived.Test.YtljmpghijlibaaaDoorShelf
import Derived.Test.YtljmpghijlibaaaDoorCharPlain
import Derived.Test.YtljmpghijlibaaaDoorY3
import Derived.Test.YtljmpghijlibaaaDoorStr
import Derived.Test.YtljmpghijlibaaaDoorPfx
import Derived.Test.YtljmpghijlibaaaDoorPub
import Derived.Test.YtljmpghijlibaaaDoorBlank
import Derived.Test.YtljmpghijlibaaaDoorLibB
import Derived.Test.YtljmpghijlibaaaDoorMiscP
import Derived.Test.YtljmpghijlibaaaDoorMisc1
import Derived.Test.YtljmpghijlibaaaDoorFold
import Derived.Test.YtljmpghijlibaaaDoorBits
import Derived.Test.YtljmpghijlibaaaDoorX1
import Derived.Test.YtljmpghijlibaaaDoorXdK
import Derived.Test.YtljmpghijlibaaaDoorX3
import Derived.Test.YtljmpghijlibaaaDoorXdH
namespace Go.Proofs.YtljmpghijlibaaaDoor
open Go.ChangeShapes Go.WideShapes Go.ChangeAt Go.RowKit
set_option linter.unusedVariables false
theorem tail_yes2 (l : List UInt8) (d : DeclL) (i : Nat) (h : [63, 62].isPrefixOf (l.drop (blankTo l i)) = true) : tailOut l d i = (d, blankTo l i + 2, 0) := by unfold tailOut; rw [if_pos h]
theorem tail_no2 (l : List UInt8) (d : DeclL) (i : Nat) (h : [63, 62].isPrefixOf (l.drop (blankTo l i)) = false) : tailOut l d i = (noDecl, 0, 7) := by unfold tailOut; rw [if_neg (by rw [h]; simp)]
/-- What the reading of all parts leaves. -/
def ReadPost (o : DeclL × Nat × Nat) (g : Nat) (w : World) (e : Ending) (w' : World) : Prop :=
  e = .returned (.tuple #[.int .i64 (o.2.1 : Int), .int .i64 (o.2.2 : Int)]) ∧ ∃ vs, RJ g vs w w' ∧ (o.2.2 = 0 → vs = #[.bool false, .string ⟨o.1.ver.toArray⟩, .string ⟨o.1.enc.toArray⟩, .string ⟨o.1.alone.toArray⟩] ∧ o.1.has = true)
theorem ReadPost.bad {g : Nat} {vs : Array Value} {w w' : World} {e : Ending} (h : e = .returned (.tuple #[.int .i64 0, .int .i64 7]) ∧ RJ g vs w w') : ReadPost (noDecl, 0, 7) g w e w' := ⟨h.1, vs, h.2, fun h => by cases h⟩
theorem ReadPost.good {g bt : Nat} {v e' a : List UInt8} {w w' : World} {e : Ending} (h : e = .returned (.tuple #[.int .i64 ((bt : Int) + 2), .int .i64 0]) ∧ RJ g #[.bool false, .string ⟨v.toArray⟩, .string ⟨e'.toArray⟩, .string ⟨a.toArray⟩] w w') : ReadPost (⟨true, v, e', a⟩, bt + 2, 0) g w e w' :=
  ⟨h.1, _, h.2, fun _ => ⟨rfl, rfl⟩⟩
theorem xdReadAll_t (g P B : Nat) (A : Option Addr) (n cap : Nat) (l : List UInt8) (k : Nat) (w : World) (h : Byt w B A n cap l) (hm : n ≤ 40000) (hx : hasX l k = true) (hBg : B ≤ g) (hT : FoldT w) (hTB : 3 < B) (hg : w.heap[g]? = some (.cells #[.bool false, .string ⟨#[]⟩, .string ⟨#[]⟩, .string ⟨#[]⟩] 63)) (hgP : g < P)
    (hP : w.heap[P]? = some (.cells #[.string ⟨#[118, 101, 114, 115, 105, 111, 110]⟩, .func (.func 70) #[] #[], .pointer (some ⟨g, 1, none⟩), .bool false, .string ⟨#[101, 110, 99, 111, 100, 105, 110, 103]⟩, .func (.func 71) #[] #[], .pointer (some ⟨g, 2, none⟩), .bool true] 98)) :
    Calls Tryd.prog 93 #[.slice A n cap, .int .i64 k, .pointer (some ⟨g, 0, none⟩), .slice (some ⟨P, 0, none⟩) 2 2] w fun e w' => ReadPost (readDecl true l k) g w e w' := by
  have hln := h.length
  have hkl := hasX_le l k n hln hx
  cases ho0 : partOut verW verB l (k + 5) with
  | none =>
    rw [show readDecl true l k = (noDecl, 0, 7) by unfold readDecl; rw [ho0]]
    exact (xdRead_t_none g P B A n cap l k w h hm hkl hBg hT hTB hg hgP hP ho0).mono fun e w' hr => ReadPost.bad hr
  | some p =>
    obtain ⟨v, j⟩ := p
    rw [show readDecl true l k = readEnc true l v j by unfold readDecl; rw [ho0]; simp]
    rcases part_le (by omega) ho0 with ⟨rfl, rfl⟩ | ⟨hlt0, hle0⟩
    · cases ho1 : partOut encW encB l (k + 5) with
      | none =>
        rw [show readEnc true l [] (k + 5) = (noDecl, 0, 7) by unfold readEnc; rw [ho1]]
        exact (xdRead_t_same_none g P B A n cap l k w h hm hkl hBg hT hTB hg hgP hP ho0 ho1).mono fun e w' hr => ReadPost.bad hr
      | some p =>
        obtain ⟨e, j1⟩ := p
        rcases part_le (by omega) ho1 with ⟨rfl, rfl⟩ | ⟨hlt1, hle1⟩
        · rw [show readEnc true l [] (k + 5) = (noDecl, 0, 7) by unfold readEnc; rw [ho1]; simp]
          exact (xdRead_t_same_same g P B A n cap l k w h hm hkl hBg hT hTB hg hgP hP ho0 ho1).mono fun e w' hr => ReadPost.bad hr
        · rw [show readEnc true l [] (k + 5) = tailOut l ⟨true, [], e, []⟩ j1 by unfold readEnc; rw [ho1]; simp only [if_true]; rw [if_neg (by omega)]]
          cases ht : [63, 62].isPrefixOf (l.drop (blankTo l j1)) with
          | true => rw [tail_yes2 _ _ _ ht]; exact (xdRead_t_same_found_yes g P B A n cap l k w h hm hkl hBg hT hTB hg hgP hP ho0 e j1 ho1 hlt1 (by omega) ht).mono fun e w' hr => ReadPost.good hr
          | false => rw [tail_no2 _ _ _ ht]; exact (xdRead_t_same_found_no g P B A n cap l k w h hm hkl hBg hT hTB hg hgP hP ho0 e j1 ho1 hlt1 (by omega) ht).mono fun e w' hr => ReadPost.bad hr
    · cases ho1 : partOut encW encB l j with
      | none =>
        rw [show readEnc true l v j = (noDecl, 0, 7) by unfold readEnc; rw [ho1]]
        exact (xdRead_t_found_none g P B A n cap l k w h hm hkl hBg hT hTB hg hgP hP v j ho0 hlt0 (by omega) ho1).mono fun e w' hr => ReadPost.bad hr
      | some p =>
        obtain ⟨e, j1⟩ := p
        rcases part_le (by omega) ho1 with ⟨rfl, rfl⟩ | ⟨hlt1, hle1⟩
        · rw [show readEnc true l v j1 = (noDecl, 0, 7) by unfold readEnc; rw [ho1]; simp]
          exact (xdRead_t_found_same g P B A n cap l k w h hm hkl hBg hT hTB hg hgP hP v j1 ho0 hlt0 (by omega) ho1).mono fun e w' hr => ReadPost.bad hr
        · rw [show readEnc true l v j = tailOut l ⟨true, v, e, []⟩ j1 by unfold readEnc; rw [ho1]; simp only [if_true]; rw [if_neg (by omega)]]
          cases ht : [63, 62].isPrefixOf (l.drop (blankTo l j1)) with
          | true => rw [tail_yes2 _ _ _ ht]; exact (xdRead_t_found_found_yes g P B A n cap l k w h hm hkl hBg hT hTB hg hgP hP v j ho0 hlt0 (by omega) e j1 ho1 hlt1 (by omega) ht).mono fun e w' hr => ReadPost.good hr
          | false => rw [tail_no2 _ _ _ ht]; exact (xdRead_t_found_found_no g P B A n cap l k w h hm hkl hBg hT hTB hg hgP hP v j ho0 hlt0 (by omega) e j1 ho1 hlt1 (by omega) ht).mono fun e w' hr => ReadPost.bad hr
/-- While a declaration is told: all below stands but the declaration's block; it; and the result's own block. -/
def TJ (g : Nat) (vs rs : Array Value) (w W : World) : Prop := Fr w.heap.size g w W ∧ W.heap[g]? = some (.cells vs 63) ∧ W.heap[w.heap.size]? = some (.cells rs 63)
theorem TJ.kept {g : Nat} {vs rs : Array Value} {w W W' : World} (h : TJ g vs rs w W) (hb : Below W.heap.size W W') : TJ g vs rs w W' :=
  ⟨h.1.trans (Fr.ofBelow (hb.mono h.1.size)), by rw [hb.block _ (lt_of h.2.1)]; exact h.2.1, by rw [hb.block _ (lt_of h.2.2)]; exact h.2.2⟩
theorem TJ.start {g : Nat} {vs : Array Value} {w : World} (rs : Array Value) (hg : w.heap[g]? = some (.cells vs 63)) : TJ g vs rs w (w.alloc (.cells rs 63)) :=
  ⟨Fr.ofBelow ((Below.refl _ w).alloc (Nat.le_refl _) _), hp_old hg, hp_new _ _⟩
theorem TJ.read {g : Nat} {vs vs2 rs : Array Value} {w W W' : World} (h : TJ g vs rs w W) (hg : g < w.heap.size) (hr : RJ g vs2 W W') : TJ g vs2 rs w W' :=
  ⟨h.1.trans (hr.1.mono h.1.size), hr.2, by rw [hr.1.block _ (lt_of h.2.2) (by omega)]; exact h.2.2⟩
theorem TJ.set {g : Nat} {vs rs : Array Value} {w W : World} (h : TJ g vs rs w W) (hg : g < w.heap.size) (i : Nat) (v : Value) : TJ g (vs.setIfInBounds i v) rs w (W.setCell ⟨g, i, none⟩ v) :=
  ⟨h.1.set i v, hp_set h.2.1, by rw [hp_other (by omega)]; exact h.2.2⟩
theorem TJ.row {g : Nat} {vs rs : Array Value} {w W : World} (h : TJ g vs rs w W) (hg : g < w.heap.size) (cs : Array Value) : TJ g vs cs w (W.setRow w.heap.size cs) := by
  refine ⟨⟨h.1.os, h.1.tape, h.1.output, ?_, fun k hk hkg => ?_⟩, ?_, setRow_heap _ _ _ _ _ _ h.2.2⟩
  · have := h.1.size; simpa [World.setRow] using this
  · rw [setRow_other _ _ _ _ (by omega)]; exact h.1.block k hk hkg
  · rw [setRow_other _ _ _ _ (by omega)]; exact h.2.1
theorem tail_e (l : List UInt8) (d : DeclL) (i : Nat) : (tailOut l d i).2.2 ≠ 0 → tailOut l d i = (noDecl, 0, 7) := by
  unfold tailOut
  split
  · intro h; exact absurd rfl h
  · intro _; rfl
theorem alone_e (l v e : List UInt8) (i : Nat) : (readAlone l v e i).2.2 ≠ 0 → readAlone l v e i = (noDecl, 0, 7) := by
  unfold readAlone
  split
  · intro _; rfl
  · exact tail_e _ _ _
theorem enc_e (text : Bool) (l v : List UInt8) (i : Nat) : (readEnc text l v i).2.2 ≠ 0 → readEnc text l v i = (noDecl, 0, 7) := by
  unfold readEnc
  split
  · intro _; rfl
  · split
    · split
      · intro _; rfl
      · exact tail_e _ _ _
    · exact alone_e _ _ _ _
theorem readDecl_e (text : Bool) (l : List UInt8) (k : Nat) : (readDecl text l k).2.2 ≠ 0 → readDecl text l k = (noDecl, 0, 7) := by
  unfold readDecl
  split
  · intro _; rfl
  · split
    · intro _; rfl
    · exact enc_e _ _ _ _
def zDecl : Array Value := #[.bool false, .string ⟨#[]⟩, .string ⟨#[]⟩, .string ⟨#[]⟩]
set_option maxRecDepth 100000 in
set_option maxHeartbeats 8000000 in
theorem told_c (text : Bool) (pv : Value) (g B : Nat) (A : Option Addr) (n cap : Nat) (l : List UInt8) (at_ : Int) (w : World) (h : Byt w B A n cap l) (hm : n ≤ 40000) (hBg : B ≤ g) (hg : w.heap[g]? = some (.cells #[.bool false, .string ⟨#[]⟩, .string ⟨#[]⟩, .string ⟨#[]⟩] 63))
    (HR : ∀ k : Nat, k ≤ n → hasX l k = true → ∀ W, TJ g #[.bool false, .string ⟨#[]⟩, .string ⟨#[]⟩, .string ⟨#[]⟩] #[.bool false, .string ⟨#[]⟩, .string ⟨#[]⟩, .string ⟨#[]⟩] w W → Calls Tryd.prog 93 #[.slice A n cap, .int .i64 k, .pointer (some ⟨g, 0, none⟩), pv] W fun e w' => ReadPost (readDecl text l k) g W e w') :
    Calls Tryd.prog 69 #[.slice A n cap, .int .i64 at_, .pointer (some ⟨g, 0, none⟩), pv] w fun e w' => e = .returned (declV (declAt text l at_)) ∧ Fr w.heap.size g w w' := by
  have hgl := lt_of hg
  have hJ := TJ.start #[.bool false, .string ⟨#[]⟩, .string ⟨#[]⟩, .string ⟨#[]⟩] hg
  have hi : (Tryd.prog.info? 63).map (·.size) = some 4 := by kernel_rfl
  obtain ⟨d, hu⟩ := isStruct_of (P := Tryd.prog) (t := 63) (by kernel_rfl)
  have HU := Lib.hid (And.intro hi hu)
  have HG := Lib.hid hgl
  have J0 := Lib.hid hJ
  unfold declAt
  rw [h.length]
  by_cases ha : at_ < 0 ∨ (n : Int) < at_
  · rw [if_pos ha]
    have JF := Lib.hid (J0.out.row HG.out #[.bool false, .string ⟨#[]⟩, .string ⟨#[]⟩, .string ⟨#[]⟩])
    clear HR h hg hgl hJ hi hu hBg hm
    unfold declV
    by_cases h0 : at_ < 0
    · have hd : decide (at_ < 0) = true := by simpa using h0
      clear ha
      go_enter Tryd.func69, Tryd.ntmps69
      go_wp2_with (refine wpList_store_row rfl _ _ _ rfl w.heap.size #[.bool false, .string ⟨#[]⟩, .string ⟨#[]⟩, .string ⟨#[]⟩] rfl rfl _ _ J0.out.2.2 (by kernel_rfl) rfl (by kernel_rfl) ?_)
      (try simp only [Exit.inBlock, Exit.then])
      exact bodyPost_ret (results_cell3 rfl _ _ w.heap.size _ _ _ _ rfl JF.out.2.2 HU.out.2 rfl HU.out.1) rfl ⟨rfl, JF.out.1⟩
    · have h1 : (n : Int) < at_ := by omega
      clear ha
      go_enter Tryd.func69, Tryd.ntmps69
      go_wp2_with (refine wpList_store_row rfl _ _ _ rfl w.heap.size #[.bool false, .string ⟨#[]⟩, .string ⟨#[]⟩, .string ⟨#[]⟩] rfl rfl _ _ J0.out.2.2 (by kernel_rfl) rfl (by kernel_rfl) ?_)
      (try simp only [Exit.inBlock, Exit.then])
      exact bodyPost_ret (results_cell3 rfl _ _ w.heap.size _ _ _ _ rfl JF.out.2.2 HU.out.2 rfl HU.out.1) rfl ⟨rfl, JF.out.1⟩
  · rw [if_neg ha]
    obtain ⟨k, rfl⟩ : ∃ k : Nat, at_ = (k : Int) := ⟨at_.toNat, by omega⟩
    rw [Int.toNat_natCast]
    have hk : k ≤ n := by omega
    have hk' : ¬ (n : Int) < (k : Int) := by omega
    have hk0 : (0 : Int) ≤ (k : Int) := by omega
    have hk1 : (k : Int) ≤ 40000 := by omega
    have hin := (h.below (hJ.1.below (B := B) (by omega) hBg)).more (B' := (w.alloc (.cells #[.bool false, .string ⟨#[]⟩, .string ⟨#[]⟩, .string ⟨#[]⟩] 63)).heap.size) (by simp; omega)
    have C1 := Lib.hid (xdHas_in A n cap l k _ hin (by omega) hk)
    unfold declOut
    by_cases hx : hasX l k = true
    · rw [if_pos hx]
      rw [hx] at C1
      have CR := Lib.hid (HR k hk hx)
      have hoe := readDecl_e text l k
      generalize readDecl text l k = o at *
      obtain ⟨⟨dh, dv, de, da⟩, nx, er⟩ := o
      clear HR h hg hgl hJ hi hu hBg hm ha hin hx hk
      unfold declV DeclL.cells
      by_cases he : er = 0
      · subst he
        go_enter Tryd.func69, Tryd.ntmps69
        go_wp2_with fail
        refine C1.out.mono ?_
        rintro e w1 ⟨rfl, hb⟩
        have J1 := Lib.hid (J0.out.kept hb)
        clear hb
        go_wp2_with fail
        refine (CR.out _ J1.out).mono ?_
        rintro e w2 ⟨rfl, vs, hr, hvs⟩
        obtain ⟨rfl, hdh⟩ := hvs rfl
        simp only at hdh
        subst hdh
        have J2 := Lib.hid (J1.out.read HG.out hr)
        clear hr hvs
        have z0 := cell_of 0 J2.out.2.1
        have y0 := free_of 0 J2.out.2.1
        have J3 : Hid (TJ g #[.bool true, .string ⟨dv.toArray⟩, .string ⟨de.toArray⟩, .string ⟨da.toArray⟩] #[.bool false, .string ⟨#[]⟩, .string ⟨#[]⟩, .string ⟨#[]⟩] w (w2.setCell ⟨g, 0, none⟩ (.bool true))) := Lib.hid (J2.out.set HG.out 0 (.bool true))
        have JF := Lib.hid (J3.out.row HG.out #[.bool true, .string ⟨dv.toArray⟩, .string ⟨de.toArray⟩, .string ⟨da.toArray⟩])
        go_wp2_with (first | (refine wpList_load_row rfl _ _ rfl g rfl _ _ _ _ J3.out.2.1 HU.out.2 rfl HU.out.1 ?_) | (refine wpList_store_row rfl _ _ _ rfl w.heap.size #[.bool true, .string ⟨dv.toArray⟩, .string ⟨de.toArray⟩, .string ⟨da.toArray⟩] rfl rfl _ _ J3.out.2.2 (by kernel_rfl) rfl (by kernel_rfl) ?_))
        (try simp only [Exit.inBlock, Exit.then])
        exact bodyPost_ret (results_cell3 rfl _ _ w.heap.size _ _ _ _ rfl JF.out.2.2 HU.out.2 rfl HU.out.1) rfl ⟨rfl, JF.out.1⟩
      · have hei : ((er : Int) == 0) = false := by simp; omega
        have hh := hoe he
        simp only [Prod.mk.injEq] at hh
        obtain ⟨hd, rfl, rfl⟩ := hh
        unfold noDecl at hd
        cases hd
        clear hoe he
        go_enter Tryd.func69, Tryd.ntmps69
        go_wp2_with fail
        refine C1.out.mono ?_
        rintro e w1 ⟨rfl, hb⟩
        have J1 := Lib.hid (J0.out.kept hb)
        clear hb
        go_wp2_with fail
        refine (CR.out _ J1.out).mono ?_
        rintro e w2 ⟨rfl, vs, hr, hvs⟩
        have J2 := Lib.hid (J1.out.read HG.out hr)
        have JF := Lib.hid (J2.out.row HG.out #[.bool false, .string ⟨#[]⟩, .string ⟨#[]⟩, .string ⟨#[]⟩])
        clear hr hvs
        go_wp2_with (refine wpList_store_row rfl _ _ _ rfl w.heap.size #[.bool false, .string ⟨#[]⟩, .string ⟨#[]⟩, .string ⟨#[]⟩] rfl rfl _ _ J2.out.2.2 (by kernel_rfl) rfl (by kernel_rfl) ?_)
        (try simp only [Exit.inBlock, Exit.then])
        exact bodyPost_ret (results_cell3 rfl _ _ w.heap.size _ _ _ _ rfl JF.out.2.2 HU.out.2 rfl HU.out.1) rfl ⟨rfl, JF.out.1⟩
    · rw [if_neg hx]
      rw [bfalse hx] at C1
      clear HR h hg hgl hJ hi hu hBg hm ha hin hx hk
      unfold declV
      go_enter Tryd.func69, Tryd.ntmps69
      go_wp2_with fail
      refine C1.out.mono ?_
      rintro e w1 ⟨rfl, hb⟩
      have J1 := Lib.hid (J0.out.kept hb)
      have JF := Lib.hid (J1.out.row HG.out #[.bool false, .string ⟨#[]⟩, .string ⟨#[]⟩, .string ⟨#[]⟩])
      clear hb
      go_wp2_with (refine wpList_store_row rfl _ _ _ rfl w.heap.size #[.bool false, .string ⟨#[]⟩, .string ⟨#[]⟩, .string ⟨#[]⟩] rfl rfl _ _ J1.out.2.2 (by kernel_rfl) rfl (by kernel_rfl) ?_)
      (try simp only [Exit.inBlock, Exit.then])
      exact bodyPost_ret (results_cell3 rfl _ _ w.heap.size _ _ _ _ rfl JF.out.2.2 HU.out.2 rfl HU.out.1) rfl ⟨rfl, JF.out.1⟩
/-- What stands ahead of the telling: the result's block, the declaration's, the parts'. -/
def XP (pa : Array Value) (w W : World) : Prop := Below w.heap.size w W ∧ W.heap[w.heap.size]? = some (.cells #[.bool false, .string ⟨#[]⟩, .string ⟨#[]⟩, .string ⟨#[]⟩] 63) ∧ W.heap[w.heap.size + 1]? = some (.cells #[.bool false, .string ⟨#[]⟩, .string ⟨#[]⟩, .string ⟨#[]⟩] 63) ∧ W.heap[w.heap.size + 2]? = some (.cells pa 98)
theorem XP.drew {pa : Array Value} {w W : World} (h : XP pa w W) : XP pa w W.drew := ⟨h.1.drew, h.2.1, h.2.2.1, h.2.2.2⟩
theorem XP.start (pa : Array Value) (w : World) : XP pa w (((w.alloc (.cells #[.bool false, .string ⟨#[]⟩, .string ⟨#[]⟩, .string ⟨#[]⟩] 63)).alloc (.cells #[.bool false, .string ⟨#[]⟩, .string ⟨#[]⟩, .string ⟨#[]⟩] 63)).alloc (.cells pa 98)) := by
  have a1 := (Below.refl w.heap.size w).alloc (Nat.le_refl _) (.cells #[.bool false, .string ⟨#[]⟩, .string ⟨#[]⟩, .string ⟨#[]⟩] 63)
  have a2 := a1.alloc a1.size (.cells #[.bool false, .string ⟨#[]⟩, .string ⟨#[]⟩, .string ⟨#[]⟩] 63)
  have a3 := a2.alloc a2.size (.cells pa 98)
  refine ⟨a3, hp_old (hp_old (hp_new _ _)), ?_, ?_⟩
  · have := hp_new (w.alloc (.cells #[.bool false, .string ⟨#[]⟩, .string ⟨#[]⟩, .string ⟨#[]⟩] 63)) (.cells #[.bool false, .string ⟨#[]⟩, .string ⟨#[]⟩, .string ⟨#[]⟩] 63)
    rw [World.size_alloc] at this
    exact hp_old this
  · have := hp_new ((w.alloc (.cells #[.bool false, .string ⟨#[]⟩, .string ⟨#[]⟩, .string ⟨#[]⟩] 63)).alloc (.cells #[.bool false, .string ⟨#[]⟩, .string ⟨#[]⟩, .string ⟨#[]⟩] 63)) (.cells pa 98)
    rw [World.size_alloc, World.size_alloc] at this
    exact this
set_option maxRecDepth 100000 in
set_option maxHeartbeats 8000000 in
theorem xdText_c (A : Option Addr) (n cap : Nat) (l : List UInt8) (at_ : Int) (w : World) (h : Byt w w.heap.size A n cap l) (hm : n ≤ 40000) (hT : FoldT w) :
    Calls Tryd.prog 43 #[.slice A n cap, .int .i64 at_] w fun e w' => e = .returned (declV (declAt true l at_)) ∧ Below w.heap.size w w' := by
  have hi : (Tryd.prog.info? 63).map (·.size) = some 4 := by kernel_rfl
  obtain ⟨d, hu⟩ := isStruct_of (P := Tryd.prog) (t := 63) (by kernel_rfl)
  have HU := Lib.hid (And.intro hi hu)
  have CT : Hid (∀ W, XP #[.string ⟨#[118, 101, 114, 115, 105, 111, 110]⟩, .func (.func 70) #[] #[], .pointer (some ⟨w.heap.size + 1, 1, none⟩), .bool false, .string ⟨#[101, 110, 99, 111, 100, 105, 110, 103]⟩, .func (.func 71) #[] #[], .pointer (some ⟨w.heap.size + 1, 2, none⟩), .bool true] w W → Calls Tryd.prog 69 #[.slice A n cap, .int .i64 at_, .pointer (some ⟨w.heap.size + 1, 0, none⟩), .slice (some ⟨w.heap.size + 2, 0, none⟩) 2 2] W fun e w' => e = .returned (declV (declAt true l at_)) ∧ (w'.cell? ⟨w.heap.size, 0, none⟩ = some (.bool false) ∧ w'.cell? ⟨w.heap.size, 1, none⟩ = some (.string ⟨#[]⟩) ∧ w'.cell? ⟨w.heap.size, 2, none⟩ = some (.string ⟨#[]⟩) ∧ w'.cell? ⟨w.heap.size, 3, none⟩ = some (.string ⟨#[]⟩) ∧ w'.frozen? ⟨w.heap.size, 0, none⟩ = false ∧ w'.frozen? ⟨w.heap.size, 1, none⟩ = false ∧ w'.frozen? ⟨w.heap.size, 2, none⟩ = false ∧ w'.frozen? ⟨w.heap.size, 3, none⟩ = false ∧ (w'.setCell ⟨w.heap.size, 0, none⟩ (.bool (declAt true l at_).1.has)).cell? ⟨w.heap.size, 1, none⟩ = some (.string ⟨#[]⟩) ∧ ((w'.setCell ⟨w.heap.size, 0, none⟩ (.bool (declAt true l at_).1.has)).setCell ⟨w.heap.size, 1, none⟩ (.string ⟨(declAt true l at_).1.ver.toArray⟩)).cell? ⟨w.heap.size, 2, none⟩ = some (.string ⟨#[]⟩) ∧ (((w'.setCell ⟨w.heap.size, 0, none⟩ (.bool (declAt true l at_).1.has)).setCell ⟨w.heap.size, 1, none⟩ (.string ⟨(declAt true l at_).1.ver.toArray⟩)).setCell ⟨w.heap.size, 2, none⟩ (.string ⟨(declAt true l at_).1.enc.toArray⟩)).cell? ⟨w.heap.size, 3, none⟩ = some (.string ⟨#[]⟩) ∧ (w'.setCell ⟨w.heap.size, 0, none⟩ (.bool (declAt true l at_).1.has)).frozen? ⟨w.heap.size, 1, none⟩ = false ∧ ((w'.setCell ⟨w.heap.size, 0, none⟩ (.bool (declAt true l at_).1.has)).setCell ⟨w.heap.size, 1, none⟩ (.string ⟨(declAt true l at_).1.ver.toArray⟩)).frozen? ⟨w.heap.size, 2, none⟩ = false ∧ (((w'.setCell ⟨w.heap.size, 0, none⟩ (.bool (declAt true l at_).1.has)).setCell ⟨w.heap.size, 1, none⟩ (.string ⟨(declAt true l at_).1.ver.toArray⟩)).setCell ⟨w.heap.size, 2, none⟩ (.string ⟨(declAt true l at_).1.enc.toArray⟩)).frozen? ⟨w.heap.size, 3, none⟩ = false) ∧ Hid (((((w'.setCell ⟨w.heap.size, 0, none⟩ (.bool (declAt true l at_).1.has)).setCell ⟨w.heap.size, 1, none⟩ (.string ⟨(declAt true l at_).1.ver.toArray⟩)).setCell ⟨w.heap.size, 2, none⟩ (.string ⟨(declAt true l at_).1.enc.toArray⟩)).setCell ⟨w.heap.size, 3, none⟩ (.string ⟨(declAt true l at_).1.alone.toArray⟩)).heap[w.heap.size]? = some (.cells (declAt true l at_).1.cells 63) ∧ Below w.heap.size w ((((w'.setCell ⟨w.heap.size, 0, none⟩ (.bool (declAt true l at_).1.has)).setCell ⟨w.heap.size, 1, none⟩ (.string ⟨(declAt true l at_).1.ver.toArray⟩)).setCell ⟨w.heap.size, 2, none⟩ (.string ⟨(declAt true l at_).1.enc.toArray⟩)).setCell ⟨w.heap.size, 3, none⟩ (.string ⟨(declAt true l at_).1.alone.toArray⟩)))) := Lib.hid fun W hX => by
    have hsz := hX.1.size
    have hl2 := lt_of hX.2.2.2
    refine (told_c true (.slice (some ⟨w.heap.size + 2, 0, none⟩) 2 2) (w.heap.size + 1) w.heap.size A n cap l at_ W (h.below hX.1) hm (Nat.le_succ _) hX.2.2.1 ?_).mono fun e w' ⟨he, hf⟩ => ?_
    · intro k hk hx W2 hJ
      have hb2 : Below w.heap.size W W2 := hJ.1.below (by omega) (by omega)
      refine xdReadAll_t (w.heap.size + 1) (w.heap.size + 2) w.heap.size A n cap l k W2 ((h.below hX.1).below hb2) hm hx (Nat.le_succ _) ((hT.below hX.1 hT.lt).below hb2 hT.lt) hT.lt hJ.2.1 (by omega) ?_
      rw [hJ.1.block _ hl2 (by omega)]
      exact hX.2.2.2
    · have hr : w'.heap[w.heap.size]? = some (.cells #[.bool false, .string ⟨#[]⟩, .string ⟨#[]⟩, .string ⟨#[]⟩] 63) := by rw [hf.block _ (by omega) (by omega)]; exact hX.2.1
      have hb := hX.1.trans (hf.below (B := w.heap.size) (by omega) (by omega))
      have r1 := hp_set (i := 0) (v := (.bool (declAt true l at_).1.has)) hr
      have r2 := hp_set (i := 1) (v := (.string ⟨(declAt true l at_).1.ver.toArray⟩)) r1
      have r3 := hp_set (i := 2) (v := (.string ⟨(declAt true l at_).1.enc.toArray⟩)) r2
      have r4 := hp_set (i := 3) (v := (.string ⟨(declAt true l at_).1.alone.toArray⟩)) r3
      refine ⟨he, ⟨cell_of 0 hr, cell_of 1 hr, cell_of 2 hr, cell_of 3 hr, free_of 0 hr, free_of 1 hr, free_of 2 hr, free_of 3 hr, cell_of 1 r1, cell_of 2 r2, cell_of 3 r3, free_of 1 r1, free_of 2 r2, free_of 3 r3⟩, Lib.hid ⟨r4, ?_⟩⟩
      exact (((hb.setCell (p := ⟨w.heap.size, 0, none⟩) (Nat.le_refl _) _).setCell (p := ⟨w.heap.size, 1, none⟩) (Nat.le_refl _) _).setCell (p := ⟨w.heap.size, 2, none⟩) (Nat.le_refl _) _).setCell (p := ⟨w.heap.size, 3, none⟩) (Nat.le_refl _) _
  have HX := Lib.hid (XP.start #[.string ⟨#[118, 101, 114, 115, 105, 111, 110]⟩, .func (.func 70) #[] #[], .pointer (some ⟨w.heap.size + 1, 1, none⟩), .bool false, .string ⟨#[101, 110, 99, 111, 100, 105, 110, 103]⟩, .func (.func 71) #[] #[], .pointer (some ⟨w.heap.size + 1, 2, none⟩), .bool true] w)
  clear h hT hm hi hu
  generalize declAt true l at_ = o at *
  obtain ⟨⟨dh, dv, de, da⟩, nx, er⟩ := o
  unfold declV DeclL.cells at *
  simp only at CT ⊢
  go_enter Tryd.func43, Tryd.ntmps43
  go_wp2
  go_region_with (first
    | (go_at_call 69; refine (CT.out _ (by first | exact HX.out | exact HX.out.drew | exact HX.out.drew.drew | exact HX.out.drew.drew.drew | exact HX.out.drew.drew.drew.drew)).mono ?_; rintro e w1 ⟨rfl, ⟨z0, z1, z2, z3, y0, y1, y2, y3, x1, x2, x3, u1, u2, u3⟩, HF⟩))
  all_goals
    go_wp2
    (try simp only [Exit.inBlock, Exit.then])
    exact bodyPost_ret (results_cell3 rfl _ _ w.heap.size _ _ _ _ rfl HF.out.1 HU.out.2 rfl HU.out.1) rfl ⟨rfl, HF.out.2⟩
end Go.Proofs.YtljmpghijlibaaaDoor
